/- Walks and plain laws that this claim uses. -/
import Derived.Test.YtjecjaihficcdaaGreatNxG
import Derived.Test.YtjecjaihficcdaaGreatNxE
import Derived.Test.YtjecjaihficcdaaGreatNxF
import Derived.Test.YtjecjaihficcdaaGreatNxB
import Derived.Test.YtjecjaihficcdaaGreatNxA
import Derived.BigRegion
import Derived.StillTailTactics
namespace Go.Proofs.YtjecjaihficcdaaGreat
open Go.RowKit
attribute [local go_sem] Oper.semAt_some
structure GR (w : World) (g : Nat) (ks : List (Int × Value)) (f : List (List Int)) : Prop where
 map : MapK kvI w g ks
 row : ∀ n, RI w (rowAt ks n) (nbL f n)
 dom : ∀ n, n ∈ ks.map Prod.fst ↔ -n ∈ lits2 f
def GB (g : Nat) (ks : List (Int × Value)) (k : Nat) : Prop := k = g ∨ ∃ n A L c, rowAt ks n = .slice A L c ∧ RowB A L k
theorem GR.ext {w w' : World} {g : Nat} {ks : List (Int × Value)} {f : List (List Int)} (h : GR w g ks f) (e : Ext w w') : GR w' g ks f := ⟨h.map.ext e, fun n => (h.row n).ext e, h.dom⟩
theorem GR.chg {S : Nat → Prop} {w w' : World} {g : Nat} {ks : List (Int × Value)} {f : List (List Int)} (h : GR w g ks f) (e : Chg S w w') (hn : ∀ k, GB g ks k → ¬ S k) : GR w' g ks f := by
 refine ⟨h.map.keep e (hn g (.inl rfl)), fun n => ?_, h.dom⟩
 obtain ⟨A, c, h1, h2, h3, h4⟩ := h.row n
 exact ⟨A, c, h1, h2, h3, h4.chg e fun k hk => hn k (.inr ⟨n, A, _, c, h1, by rw [List.length_map] at hk; exact hk⟩)⟩
theorem GR.lt {w : World} {g : Nat} {ks : List (Int × Value)} {f : List (List Int)} (h : GR w g ks f) {k : Nat} (hk : GB g ks k) : k < w.heap.size := by
 rcases hk with rfl | ⟨n, A, L, c, e, hr⟩
 · exact h.map.lt
 · obtain ⟨A', c', h1, h2, h3, h4⟩ := h.row n
   rw [e] at h1
   injection h1 with e1 e2 e3
   subst e1 e2
   exact RowB.lt h4 (by rw [List.length_map]; exact hr)
theorem lits2_nb (f : List (List Int)) (n : Int) : -n ∈ lits2 f ↔ nbL f n ≠ [] := by
 constructor
 · intro h
   unfold lits2 at h
   obtain ⟨c, hc, hm⟩ := List.mem_flatMap.1 h
   by_cases h2 : c.length = 2
   · rw [if_pos h2] at hm
     obtain ⟨a, b, rfl⟩ := two_of h2
     have : nbC n [a, b] ≠ [] := by
      have e : nbC n [a, b] = (if -a = n then [b] else []) ++ (if -b = n then [a] else []) := rfl
      rw [e]
      simp only [List.mem_cons, List.not_mem_nil, or_false] at hm
      rcases hm with h3 | h3
      · rw [if_pos (show -a = n by omega)]; simp
      · rw [if_pos (show -b = n by omega)]; simp
     intro e
     unfold nbL at e
     rw [List.flatMap_eq_nil_iff] at e
     exact this (e _ hc)
   · rw [if_neg h2] at hm; cases hm
 · intro h
   obtain ⟨z, hz⟩ := List.exists_mem_of_ne_nil _ h
   exact (nbL_mem hz).2
theorem GM.reads {w : World} {base g : Nat} {ks : List (Int × Value)} {f : List (List Int)} (h : GM 3 w base g ks (impR f f.length)) : GR w g ks f := by
 refine ⟨h.map, fun n => ?_, fun n => ?_⟩
 · have h1 := h.own n
   unfold impR at h1
   rw [List.take_length, List.length_map] at h1
   exact OwnI.reads h1
 · have h1 := h.dom n
   rw [lits2_nb, ← show impR f f.length n ≠ [] ↔ nbL f n ≠ [] by unfold impR; rw [List.take_length]; simp, ← h1]
   cases hq : lkp ks n with
   | none => simp only [lkp_none.1 hq]; simp
   | some v => simp only [Option.isSome_some, iff_true]; exact List.mem_map.2 ⟨_, lkp_mem hq, rfl⟩
theorem GR.lookup {w : World} {g : Nat} {ks : List (Int × Value)} {f : List (List Int)} (h : GR w g ks f) (n : Int) :
 (Instr.lookup 67 (.map (some g)) (.int .i64 n) false).run Tryz.prog w = .ok (rowAt ks n) w := h.map.lookup fam_kvI Tryz.underlying67 (zeroValue_sl w) n
theorem bfs_pre (nb : Int → List Int) : ∀ n i l, l <+: bfs nb n i l
 | 0, _, l => List.prefix_refl l
 | n + 1, i, l => by
   unfold bfs
   split
   · obtain ⟨r, hr⟩ := addAll_pre (nb l[i]) l
     exact (hr ▸ List.prefix_append l r).trans (bfs_pre nb n (i + 1) _)
   · exact List.prefix_refl l
theorem slice_1q (A : Option Addr) (l c : Nat) : ∀ W : World, (Instr.slice 24 (.slice A (l + 1) c) (some (.int .i64 1)) none none).run Tryz.prog W = .ok (.slice (if c = 1 then A else A.map (·.add 1)) l (c - 1)) W := by
 intro W
 have h := slice_from (P := Tryz.prog) Tryz.underlying24 info_int A (l + 1) c 1 (by omega) W
 simpa using h
theorem zeroValue_b (w : World) : (zeroValue 4).run Tryz.prog w = .ok (.bool false) w := by kernel_rfl
theorem q_ne_map {w : World} {base g : Nat} {v : Value} {xs : List Int} {ks : List (Int × Value)} (h : OwnQ w base v xs) (hm : MapK kvI w g ks) : ¬ qblk v = some g := fun hb => by
 obtain ⟨b, h1, -, -, cur, h4⟩ := h.blk
 rw [h1] at hb; injection hb with hb; subst hb
 obtain ⟨es, clock, h5, -⟩ := hm
 unfold Blk at h4
 rw [h4] at h5; cases h5
def metK (l : List Int) : List (Int × Value) := l.map fun x => (x, .bool true)
theorem lkp_metK (l : List Int) (y : Int) : lkp (metK l) y = if y ∈ l then some (.bool true) else none := by
 induction l with
 | nil => rfl
 | cons x l ih =>
   unfold metK lkp at *
   rw [List.map_cons, List.find?_cons]
   by_cases h : y = x
   · simp [h]
   · simp only [h, decide_false, List.mem_cons, false_or]
     exact ih
theorem kput_metK {l : List Int} {y : Int} (h : y ∉ l) : kput (metK l) y (.bool true) = metK (l ++ [y]) := by
 rw [kput_new]
 · simp [metK]
 · simpa [metK] using h
def msz (w : World) (g : Nat) : Nat := match w.heap[g]? with | some (.map es _) => es.size | _ => 0
theorem MapK.msz {w : World} {g : Nat} {ks : List (Int × Value)} (h : MapK kvI w g ks) : msz w g = ks.length := by
 obtain ⟨es, clock, hg, hl⟩ := h.size
 unfold Go.Proofs.YtjecjaihficcdaaGreat.msz
 rw [hg]; exact hl
def qlen : Value → Nat
 | .slice _ n _ => n
 | _ => 0
theorem addAll_app (l a b : List Int) : addAll l (a ++ b) = addAll (addAll l a) b := by unfold addAll; rw [List.foldl_append]
theorem addAll_take_len (l ys : List Int) (m : Nat) : (addAll l (ys.take m)).length ≤ (addAll l ys).length := by
 conv => rhs; rw [← List.take_append_drop m ys, addAll_app]
 exact addAll_len _ _
structure RS (J : List Int → (Nat → Prop) → World → Prop) (B b3 b2 g : Nat) (ks : List (Int × Value)) (f : List (List Int)) (x : Int) (told l q : List Int) (T : Nat → Prop) (v : Value) (w : World) : Prop where
 j : J told T w
 tb : ∀ k, T k → B ≤ k
 tm : T B
 tq : ∀ b, qblk v = some b → T b
 q : OwnQ w B v q
 met : MapK kvI w B (metK l)
 cx : w.cell? ⟨b3, 0, none⟩ = some (.int .i64 x)
 cg : w.cell? ⟨b2, 0, none⟩ = some (.map (some g))
 gr : GR w g ks f
 lt : B ≤ w.heap.size
 tl : ∀ k, T k → k < w.heap.size
section
variable {J : List Int → (Nat → Prop) → World → Prop} {B b3 b2 g : Nat} {ks : List (Int × Value)} {f : List (List Int)} {x : Int} {told l q : List Int} {T : Nat → Prop} {v : Value} {w w' : World}
theorem RS.round (h : RS J B b3 b2 g ks f x told l q T v w) {told' : List Int} (hj : J told' T w') (hc : Chg (fun k => ¬ ((k = b3 ∨ k = b2 ∨ GB g ks k) ∨ T k)) w w') : RS J B b3 b2 g ks f x told' l q T v w' :=
 ⟨hj, h.tb, h.tm, h.tq, h.q.keep hc (fun b hb hn => hn (.inr (h.tq b hb))), h.met.keep hc (fun hn => hn (.inr h.tm)), hc.cell h.cx (fun hn => hn (.inl (.inl rfl))), hc.cell h.cg (fun hn => hn (.inl (.inr (.inl rfl)))),
  h.gr.chg hc (fun k hk hn => hn (.inl (.inr (.inr hk)))), Nat.le_trans h.lt hc.size, fun k hk => Nat.lt_of_lt_of_le (h.tl k hk) hc.size⟩
theorem RS.pop {A : Option Addr} {c : Nat} {y : Int} {r : List Int} (h : RS J B b3 b2 g ks f x told l (y :: r) T (.slice A (r.length + 1) c) w) : RS J B b3 b2 g ks f x told l r T (.slice (if c = 1 then A else A.map (·.add 1)) r.length (c - 1)) w :=
 ⟨h.j, h.tb, h.tm, fun b hb => h.tq b (by rw [h.q.tail.2] at hb; exact hb), h.q.tail.1, h.met, h.cx, h.cg, h.gr, h.lt, h.tl⟩
theorem RS.push (h : RS J B b3 b2 g ks f x told l q T v w) (hJ : Abide J) (hB : ∀ k, (k = b3 ∨ k = b2 ∨ GB g ks k) → k < B) {y : Int} {v' : Value} {w1 : World} (hq : OwnQ w1 B v' (q ++ [y])) (hc : Chg (fun i => qblk v = some i) w w1) (hv : qblk v' = qblk v ∨ ∃ b, qblk v' = some b ∧ w.heap.size ≤ b)
 (hm : MapK kvI w' B (metK (l ++ [y]))) (hu : Chg (fun k => k = B) w1 w') : ∃ T', RS J B b3 b2 g ks f x told (l ++ [y]) (q ++ [y]) T' v' w' := by
 have hcT : Chg T w w' := (hc.mono fun i hi => h.tq i hi).trans (hu.mono fun i hi => by rw [hi]; exact h.tm)
 have hBw := h.lt
 have hRT : ∀ k, (k = b3 ∨ k = b2 ∨ GB g ks k) → ¬ T k := fun k hk ht => by have := hB k hk; have := h.tb k ht; omega
 have hTl : ∀ k, (T k ∨ qblk v' = some k) → k < w'.heap.size := fun k hk => by
  rcases hk with hk | hk
  · exact Nat.lt_of_lt_of_le (h.tl k hk) hcT.size
  · obtain ⟨b, hb, -, hl, -⟩ := hq.blk
    rw [hb] at hk; injection hk with hk; subst hk
    exact Nat.lt_of_lt_of_le hl hu.size
 refine ⟨fun k => T k ∨ qblk v' = some k, hJ told T _ w w' h.j hcT (fun i hi => .inl hi) (fun i hi => ?_) hTl, fun k hk => ?_, .inl h.tm, fun b hb => .inr hb, ?_, hm, hcT.cell h.cx (hRT _ (.inl rfl)), hcT.cell h.cg (hRT _ (.inr (.inl rfl))), h.gr.chg hcT (fun k hk => hRT k (.inr (.inr hk))), Nat.le_trans h.lt hcT.size, hTl⟩
 · rcases hi with hi | hi
   · exact .inl hi
   · rcases hv with hv | ⟨b, hb, hl⟩
     · exact .inl (h.tq i (by rw [← hv]; exact hi))
     · rw [hb] at hi; injection hi with hi; subst hi; exact .inr hl
 · rcases hk with hk | hk
   · exact h.tb k hk
   · obtain ⟨b, hb, hl, -⟩ := hq.blk
     rw [hb] at hk; injection hk with hk; subst hk; exact hl
 · refine hq.keep hu (fun b hb e => ?_)
   exact q_ne_map hq (h.met.keep hc (q_ne_map h.q h.met)) (by rw [hb, e])
end
set_option maxRecDepth 100000 in
set_option maxHeartbeats 4000000 in
theorem reached_iter (f : List (List Int)) (g b3 b2 : Nat) (ks : List (Int × Value)) (x : Int) (w : World) (hf : f.length ≤ 20000) (hx : w.cell? ⟨b3, 0, none⟩ = some (.int .i64 x)) (hgb : w.cell? ⟨b2, 0, none⟩ = some (.map (some g))) (hg : GR w g ks f) :
 Iter Tryz.prog 92 #[.pointer (some ⟨b3, 0, none⟩), .pointer (some ⟨b2, 0, none⟩)] (fun y : Int => #[.int .i64 y]) (reachL f x) (fun k => k = b3 ∨ k = b2 ∨ GB g ks k) w := by
 intro l J Jx W hW hJa _ hY h0
 have hB0 : ∀ k, (k = b3 ∨ k = b2 ∨ GB g ks k) → k < w.heap.size := fun k hk => by
  rcases hk with rfl | rfl | hk
  · exact World.block_lt_of_cell? w _ hx
  · exact World.block_lt_of_cell? w _ hgb
  · exact hg.lt hk
 have hx1 := hW.cell hx (fun h => h (.inl rfl))
 have hg1 := hW.cell hgb (fun h => h (.inr (.inl rfl)))
 have hgr1 := hg.chg hW (fun k hk h => h (.inr (.inr hk)))
 have HB := Lib.hid (fun k hk => Nat.lt_of_lt_of_le (hB0 k hk) hW.size)
 have hb3 : b3 < W.heap.size := World.block_lt_of_cell? W _ hx1
 have hb2 : b2 < W.heap.size := World.block_lt_of_cell? W _ hg1
 obtain ⟨w1, hup, hm1, hc1, hs1⟩ := (MapK.new W).update (P := Tryz.prog) fam_kvI Tryz.underlying78 x (.bool true)
 have hE1 : Ext W w1 := hc1.toExt (Ext.alloc W _) (fun i hi => by omega)
 unfold kvI at hup
 have hx2 := hE1.cell hx1
 have hsw : w1.heap.size = W.heap.size + 1 := by rw [hs1]; simp
 have hE2 : Ext W (w1.alloc (.cells #[.int .i64 x] 3)) := hE1.trans (Ext.alloc _ _)
 have HS0 : Hid (RS J W.heap.size b3 b2 g ks f x [] [x] [x] (fun k => k = W.heap.size ∨ k = w1.heap.size) (.slice (some ⟨w1.heap.size, 0, none⟩) 1 1) (w1.alloc (.cells #[.int .i64 x] 3))) := Lib.hid
  ⟨hJa [] (fun _ => False) _ W _ h0 (hE2.chg _) (fun _ h => h.elim) (fun i hi => .inr (by omega)) (fun i hi => by simp only [World.size_alloc]; omega), fun k hk => by omega, .inl rfl, fun b hb => .inr (by injection hb with hb; exact hb.symm), OwnQ.one w1 _ x (by omega), hm1.ext (Ext.alloc _ _), hE2.cell hx1, hE2.cell hg1, hgr1.ext hE2, hE2.size, fun k hk => by simp only [World.size_alloc]; omega⟩
 have HY := Lib.hid hY
 have HJ := Lib.hid hJa
 have HGR1 := Lib.hid hgr1
 have HSW := Lib.hid hsw
 have hmm := @run_makeMap Tryz.prog
 clear hY hx hgb hg hW hJa h0 hB0 hgr1 hm1 hc1 hs1 hE1 hE2 hsw hg1
 refine callsIn_of_wp Tryz.func92 rfl trivial ?_ rfl
 simp only [Tryz.ntmps92, List.size_toArray, List.length_cons, List.length_nil, Nat.reduceAdd, Nat.reduceSub, Array.replicate_succ, Array.replicate_zero, List.push_toArray, List.append_toArray, List.nil_append, List.cons_append]
 gi_wp2
 gi_loopw [5] (fun v wr => ∃ (i n : Nat) (l' : List Int) (T : Nat → Prop) (A : Option Addr) (L c : Nat), v = .slice A L c ∧ n + i = 2 * f.length + 2 ∧ Hid (i ≤ l'.length ∧ bfs (nbL f) n i l' = reachL f x ∧ L = (l'.drop i).length ∧ RS J W.heap.size b3 b2 g ks f x (l'.take i) l' (l'.drop i) T v wr))
  (fun v wr => 2 * f.length + 2 - (msz wr W.heap.size - qlen v))
 case atStart => exact ⟨0, 2 * f.length + 2, [x], _, _, 1, 1, rfl, rfl, Lib.hid ⟨by simp, rfl, rfl, HS0.out⟩⟩
 case round =>
  obtain ⟨i, n, l', T, A, L, c, rfl, hni, HS⟩ := hrel
  obtain ⟨w2, rfl⟩ : ∃ w2 : World, w2 = wr := ⟨_, rfl⟩
  by_cases hlt : i < l'.length
  · obtain ⟨y, hy⟩ : ∃ y, y = l'[i] := ⟨_, rfl⟩
    obtain ⟨r, hr⟩ : ∃ r, r = l'.drop (i + 1) := ⟨_, rfl⟩
    have hdr : l'.drop i = y :: r := by rw [List.drop_eq_getElem_cons hlt, hy, hr]
    obtain ⟨n', hn'⟩ : ∃ n', n = n' + 1 := by
     cases n with
     | zero =>
       exfalso
       have h1 := HS.out.2.1
       have h2 := reachL_len f x
       rw [← h1] at h2
       have h3 : l'.length ≤ 2 * f.length + 1 := h2
       omega
     | succ n => exact ⟨n, rfl⟩
    subst hn'
    have hbf := HS.out.2.1
    unfold bfs at hbf
    rw [dif_pos hlt, ← hy] at hbf
    have hL : L = r.length + 1 := by rw [HS.out.2.2.1, hdr]; rfl
    have hrs := HS.out.2.2.2
    rw [hdr, hL] at hrs
    have hpop := hrs.pop
    have hpre : l'.take i ++ [y] = l'.take (i + 1) := by rw [List.take_succ_eq_append_getElem hlt, hy]
    obtain ⟨fn, tmps, assign, body, hyy, hR⟩ := HY.out (l'.take i) y T w2 hrs.j (by
     rw [hpre]
     refine (List.take_prefix _ _).trans ?_
     have := bfs_pre (nbL f) (n' + 1) i l'
     rwa [HS.out.2.1] at this)
    obtain ⟨ad, rfl, hcell⟩ := hrs.q.head
    have hlen := hrs.q.len
    obtain ⟨TA, hTA⟩ : ∃ TA, (if c = 1 then some ad else Option.map (fun x => x.add 1) (some ad)) = TA := ⟨_, rfl⟩
    have hsl : ∀ W : World, (Instr.slice 24 (.slice (some ad) (r.length + 1) c) (some (.int .i64 1)) none none).run Tryz.prog W = .ok (.slice TA r.length (c - 1)) W := fun W => by rw [← hTA]; exact slice_1q (some ad) r.length c W
    rw [hTA] at hpop
    have HMS2 := Lib.hid HS.out.2.2.2.met.msz
    have HR2 := Lib.hid hR
    have HPOP := Lib.hid hpop
    have HBF := Lib.hid hbf
    have HPRE := Lib.hid hpre
    have HYE := Lib.hid hy
    have HRE := Lib.hid hr
    have hLL := Lib.hid hL
    have hc1 : r.length + 1 ≤ c := by have := hlen.2.1; simpa using this
    have hc2 : c ≤ 9223372036854775807 := hlen.2.2
    subst hL
    clear hR hpop hbf hpre hy hr hrs hdr HS hlen hTA
    gi_wp2
    refine ⟨rfl, HR2.out.mono ?_⟩
    rintro e W3 (⟨rfl, hJ3, hk3⟩ | ⟨rfl, hJx3⟩)
    · have HRS := Lib.hid (HPOP.out.round hJ3 hk3)
      clear hJ3 hk3 hcell hyy hsl
      obtain ⟨RA, rc, hre, hr1, hr2, hr3⟩ := HRS.out.gr.row y
      have hlk := HRS.out.gr.lookup y
      rw [hre] at hlk
      have cg3 := HRS.out.cg
      obtain ⟨M, hM⟩ : ∃ M, M = (nbL f y).length := ⟨_, rfl⟩
      rw [← hM] at hlk hr1 hr2
      have HMM := Lib.hid hM
      have HROW := Lib.hid hr3
      have HRW0 : Hid (Row W RA ((nbL f y).map (Value.int .i64))) := Lib.hid (by
       obtain ⟨A', c', e1, -, -, e4⟩ := HGR1.out.row y
       rw [hre] at e1
       injection e1 with e1 e2 e3
       subst e1
       exact e4)
      clear hre hr3 hM
      gi_wp2
      refine wpIn_wide.2 ?_
      go_loopg [5, 30] M (fun gn v j wr => ∃ (m : Nat) (T2 : Nat → Prop) (A2 : Option Addr) (L2 c2 : Nat), m ≤ M ∧ gn + m = M ∧ j = .int .i64 m ∧ v = .slice A2 L2 c2 ∧
       Hid (RS J W.heap.size b3 b2 g ks f x (l'.take i ++ [y]) (addAll l' ((nbL f y).take m)) ((addAll l' ((nbL f y).take m)).drop (i + 1)) T2 v wr) ∧ Hid (Row wr RA ((nbL f y).map (Value.int .i64))))
      case atStart => exact ⟨0, T, _, _, _, Nat.zero_le _, by omega, rfl, rfl, Lib.hid (by rw [List.take_zero, show addAll l' [] = l' from rfl, ← HRE.out]; exact HRS.out), HROW⟩
      case round =>
       obtain ⟨m, T2, A2, L2, c2, hm, hgm, rfl, rfl, HR4, HRW⟩ := hrel
       obtain ⟨w4, rfl⟩ : ∃ w4 : World, w4 = wr := ⟨_, rfl⟩
       by_cases hml : m < M
       · have hmf : m < (nbL f y).length := by rw [← HMM.out]; exact hml
         obtain ⟨bd, rfl, hz⟩ := HRW.out.int m hmf
         obtain ⟨l4, hl4⟩ : ∃ l4, l4 = addAll l' ((nbL f y).take m) := ⟨_, rfl⟩
         have hnext : addAll l' ((nbL f y).take (m + 1)) = addN l4 (nbL f y)[m] := by rw [List.take_succ_eq_append_getElem hmf, addAll_snoc, ← hl4]
         have hi4 : i + 1 ≤ l4.length := by rw [hl4]; have := addAll_len l' ((nbL f y).take m); omega
         have hl4b : l4.length ≤ 2 * f.length + 1 := by
          have h1 := addAll_take_len l' (nbL f y) m
          have h2 := (bfs_pre (nbL f) n' (i + 1) (addAll l' (nbL f y))).length_le
          rw [HBF.out] at h2
          have := reachL_len f x
          rw [hl4]; omega
         rw [← hl4] at HR4
         generalize (nbL f y)[m] = z at hz hnext
         have hlk2 := HR4.out.met.lookup (P := Tryz.prog) fam_kvI Tryz.underlying78 (zeroValue_b w4) z
         rw [lkp_metK] at hlk2
         unfold kvI at hlk2
         have HNX := Lib.hid hnext
         have HI4 := Lib.hid hi4
         clear hnext hl4 hi4
         by_cases hzl : z ∈ l4
         · rw [if_pos hzl] at hlk2
           have hlk3 : (Instr.lookup 78 (.map (some W.heap.size)) (.int .i64 z) false).run Tryz.prog w4 = .ok (.bool true) w4 := hlk2
           have HN4 : Hid (addAll l' ((nbL f y).take (m + 1)) = l4) := Lib.hid (by rw [HNX.out]; unfold addN; rw [if_pos hzl])
           clear hlk2 hzl
           go_wp2
           go_roundg (M - (m + 1))
           case measure => omega
           case rel => exact ⟨m + 1, T2, A2, L2, c2, by omega, by omega, by go_num, rfl, by rw [HN4.out]; exact HR4, HRW⟩
         · rw [if_neg hzl] at hlk2
           have hlk3 : (Instr.lookup 78 (.map (some W.heap.size)) (.int .i64 z) false).run Tryz.prog w4 = .ok (.bool false) w4 := hlk2
           have HN4 : Hid (addAll l' ((nbL f y).take (m + 1)) = l4 ++ [z]) := Lib.hid (by rw [HNX.out]; unfold addN; rw [if_neg hzl])
           have HZL := Lib.hid hzl
           have hql : (l4.drop (i + 1)).length ≤ 10000000 := by rw [List.length_drop]; omega
           have HQL := Lib.hid hql
           clear hlk2 hzl hql
           go_wp2_with (at_builtin
                        refine appQ rfl (.tmp 40) (.tmp 42) rfl (base := W.heap.size) (v := .slice A2 L2 c2) (xs := l4.drop (i + 1)) (y := z) rfl rfl HR4.out.q HQL.out HR4.out.lt ?_
                        intro v' w5 hq hc hv
                        obtain ⟨A5, c5, rfl⟩ := hq.shape
                        obtain ⟨w6, hup6, hm6, hu6, -⟩ := (HR4.out.met.keep hc (q_ne_map HR4.out.q HR4.out.met)).update (P := Tryz.prog) fam_kvI Tryz.underlying78 z (.bool true)
                        unfold kvI at hup6
                        rw [kput_metK HZL.out] at hm6
                        have HP := Lib.hid (HR4.out.push HJ.out HB.out hq hc hv hm6 hu6)
                        have HC46 := Lib.hid ((hc.mono fun i hi => HR4.out.tb i (HR4.out.tq i hi)).trans (hu6.mono fun i hi => (by rw [hi]; exact Nat.le_refl _ : W.heap.size ≤ i)))
                        clear hq hc hv hm6 hu6)
           obtain ⟨T6, hp6⟩ := HP.out
           rw [show (l4.drop (i + 1) ++ [z]).length = l4.length - (i + 1) + 1 by simp] at hp6
           go_roundg (M - (m + 1))
           case measure => omega
           case rel => exact ⟨m + 1, T6, A5, _, c5, by omega, by omega, by go_num, rfl, by rw [HN4.out, List.drop_append_of_le_length HI4.out]; exact Lib.hid hp6, Lib.hid (HRW.out.chg HC46.out (fun k hk h => by have := RowB.lt HRW0.out hk; omega))⟩
       · obtain rfl : m = M := by omega
         have hfull : addAll l' ((nbL f y).take m) = addAll l' (nbL f y) := by rw [HMM.out, List.take_length]
         rw [hfull] at HR4
         obtain ⟨l4, hl4⟩ : ∃ l4, l4 = addAll l' (nbL f y) := ⟨_, rfl⟩
         rw [← hl4] at HR4
         have hl1 : i + 1 ≤ l4.length := by rw [hl4]; have := addAll_len l' (nbL f y); omega
         have htk : l4.take (i + 1) = l'.take i ++ [y] := by
          rw [HPRE.out, hl4]
          obtain ⟨s, hs⟩ := addAll_pre (nbL f y) l'
          rw [hs, List.take_append_of_le_length (by omega)]
         have HNEW : Hid (i + 1 ≤ l4.length ∧ bfs (nbL f) n' (i + 1) l4 = reachL f x ∧ L2 = (l4.drop (i + 1)).length ∧ RS J W.heap.size b3 b2 g ks f x (l4.take (i + 1)) l4 (l4.drop (i + 1)) T2 (.slice A2 L2 c2) w4) := Lib.hid
          ⟨hl1, by rw [hl4]; exact HBF.out, HR4.out.q.len.1, by rw [htk]; exact HR4.out⟩
         have hms := HR4.out.met.msz
         have hL2 := HR4.out.q.len.1
         have HMS := Lib.hid hms
         have HL2 := Lib.hid hL2
         clear hfull hl4 htk hms hL2 hl1
         go_wp2
         go_roundw
         case rel => exact ⟨i + 1, n', l4, T2, A2, L2, c2, rfl, by omega, HNEW⟩
         case measure =>
          have e1 := HMS.out
          have e2 := HMS2.out
          have e3 := HL2.out
          have e4 := congrArg List.length HRE.out
          have e5 : l'.length ≤ 2 * f.length + 1 := by
           have h1 := addAll_len l' (nbL f y)
           have h2 := (bfs_pre (nbL f) n' (i + 1) (addAll l' (nbL f y))).length_le
           rw [HBF.out] at h2
           have := reachL_len f x
           omega
          have e6 := HNEW.out.1
          simp only [metK, List.length_map, List.length_drop] at e1 e2 e3 e4
          rw [e1, e2]
          simp only [qlen]
          omega
    · gi_wp2
      refine bodyPost_ret (results_none rfl _ _ _) rfl ?_
      exact ⟨⟨_, rfl⟩, .inr ⟨l'.take i ++ [y], _, by rw [HPRE.out]; exact (List.take_prefix _ _).trans (by have := bfs_pre (nbL f) n' (i + 1) (addAll l' (nbL f y)); rw [HBF.out] at this; obtain ⟨s, hs⟩ := addAll_pre (nbL f y) l'; exact (hs ▸ List.prefix_append l' s).trans this), hJx3⟩⟩
  · have hi : i = l'.length := by have := HS.out.1; omega
    subst hi
    have hbf : l' = reachL f x := by
     rw [← HS.out.2.1]
     cases n with
     | zero => rfl
     | succ n => unfold bfs; rw [dif_neg (by omega)]
    have hL : L = 0 := by rw [HS.out.2.2.1]; simp
    subst hL
    have HJF : Hid (J (reachL f x) T w2) := Lib.hid (by have := HS.out.2.2.2.j; rw [List.take_length] at this; rw [← hbf]; exact this)
    clear hbf
    gi_wp2
    go_end0
    exact ⟨⟨_, rfl⟩, .inl ⟨_, HJF.out⟩⟩
end Go.Proofs.YtjecjaihficcdaaGreat
namespace Go.Proofs.YtjecjaihficcdaaGreat
open Go.RowKit
attribute [local go_sem] Oper.semAt_some
theorem reached_any (g : Nat) (x : Int) (w : World) : Calls Tryz.prog 40 #[.map (some g), .int .i64 x] w fun e w' => ∃ b3 b2, e = .returned (.func (.func 92) #[] #[.pointer (some ⟨b3, 0, none⟩), .pointer (some ⟨b2, 0, none⟩)]) ∧ Ext w w' ∧ w'.cell? ⟨b3, 0, none⟩ = some (.int .i64 x) ∧ w'.cell? ⟨b2, 0, none⟩ = some (.map (some g)) ∧ w.heap.size ≤ b3 ∧ w.heap.size ≤ b2 := by
 have e1 := Ext.alloc w (.cells #[.map (some g)] 67)
 have e2 := Ext.alloc (w.alloc (.cells #[.map (some g)] 67)) (.cells #[.int .i64 x] 3)
 have c1 := (Var1.new (w.alloc (.cells #[.map (some g)] 67)) 3 (.int .i64 x)).cell
 have c2 := ((Var1.new w 67 (.map (some g))).ext e2).cell
 rw [World.size_alloc] at c1
 have E1 := Lib.hid (e1.trans e2)
 have C1 := Lib.hid c1
 have C2 := Lib.hid c2
 clear e1 e2 c1 c2
 go_enter Tryz.func40, Tryz.ntmps40
 go_wp2
 go_ret
 exact ⟨_, _, rfl, E1.out, C1.out, C2.out, by omega, by omega⟩
theorem fv_reached1 : Fv Tryz.prog 92 := ⟨_, Tryz.func92, by kernel_rfl, by kernel_rfl⟩
set_option maxRecDepth 100000 in
set_option maxHeartbeats 2000000 in
theorem reaches_any (f : List (List Int)) (g : Nat) (ks : List (Int × Value)) (x y : Int) (w : World) (hf : f.length ≤ 20000) (hg : GR w g ks f) :
 Calls Tryz.prog 48 #[.map (some g), .int .i64 x, .int .i64 y] w fun e w' => e = .returned (.bool (decide (y ∈ reachL f x))) ∧ Ext w w' := by
 have HG := Lib.hid hg
 have HV := Lib.hid (Var1.new w 3 (.int .i64 y))
 have HR := Lib.hid (Var1.new (w.alloc (.cells #[.int .i64 y] 3)) 4 (.bool false))
 rw [World.size_alloc] at HR
 have HE := Lib.hid ((Ext.alloc w (.cells #[.int .i64 y] 3)).trans (Ext.alloc _ (.cells #[.bool false] 4)))
 have HE' := Lib.hid (Ext.alloc (w.alloc (.cells #[.int .i64 y] 3)) (.cells #[.bool false] 4))
 clear hg
 refine calls_marks Tryz.func48 rfl ?_
 simp only [Tryz.ntmps48, List.size_toArray, List.length_cons, List.length_nil, Nat.reduceAdd, Nat.reduceSub, Array.replicate_succ, Array.replicate_zero, List.push_toArray, List.append_toArray, List.nil_append, List.cons_append]
 go_wp2_with (go_at_call 40; refine (reached_any _ _ _).mono ?_; rintro e w2 ⟨b3, b2, rfl, hE, h3, h2, hb3, hb2⟩; have HB3 : w.heap.size + 2 ≤ b3 := (by simpa using hb3); have HB2 : w.heap.size + 2 ≤ b2 := (by simpa using hb2); have HE2 := Lib.hid hE; have H3 := Lib.hid h3; have H2 := Lib.hid h2; clear hE h3 h2 hb3 hb2)
 have hz2 : w.heap.size + 2 ≤ w2.heap.size := by have := HE2.out.size; simpa using this
 have HW2 := Lib.hid (HE.out.trans HE2.out)
 have HV2 := Lib.hid ((HV.out.ext HE'.out).ext HE2.out)
 have HR2 := Lib.hid (HR.out.ext HE2.out)
 have hrk : ∀ k, (k = b3 ∨ k = b2 ∨ GB g ks k) → k < w2.heap.size := fun k hk => by
  rcases hk with rfl | rfl | hk
  · exact World.block_lt_of_cell? w2 _ H3.out
  · exact World.block_lt_of_cell? w2 _ H2.out
  · exact (HG.out.ext HW2.out).lt hk
 have HRK := Lib.hid hrk
 clear hrk
 refine wp_range (reached_iter f g b3 b2 ks x w2 hf H3.out H2.out (HG.out.ext HW2.out)) rfl fv_reached1 HRK.out (fun _ => rfl)
  (fun pre T W => y ∉ pre ∧ (∀ i, T i → w2.heap.size ≤ i) ∧ Chg T w2 W)
  (fun c pre T W => c = .ret ∧ y ∈ pre ∧ (∀ i, T i → w2.heap.size ≤ i) ∧ Chg (fun i => T i ∨ i = w.heap.size + 1) w2 W ∧ Var1 W (w.heap.size + 1) 4 (.bool true)) ?hI ?hIx ⟨by simp, fun _ h => h.elim, Chg.refl _ _⟩
  (fun z => ⟨#[.map (some g), .int .i64 x, .int .i64 y, undef, undef, .pointer (some ⟨w.heap.size, 0, none⟩), .pointer (some ⟨w.heap.size + 1, 0, none⟩), .int .i64 z, .map (some g), .int .i64 x,
   .func (.func 92) #[] #[.pointer (some ⟨b3, 0, none⟩), .pointer (some ⟨b2, 0, none⟩)], .int .i64 z, undef, undef, undef], []⟩) ?assign ?body ?done ?stop
 case hI =>
  rintro s T T' A C ⟨h1, hT, hc⟩ hch h2 h3 _
  have := hc.size
  exact ⟨h1, fun i hi => (h3 i hi).elim (hT i) (fun h => by omega), (hc.mono h2).trans (hch.mono h2)⟩
 case hIx =>
  rintro c s T T' A C ⟨h0, h1, hT, hc, hv⟩ hch h2 h3 _
  have := hc.size
  exact ⟨h0, h1, fun i hi => (h3 i hi).elim (hT i) (fun h => by omega), (hc.mono fun i hi => hi.imp (h2 i) id).trans (hch.mono fun i hi => .inl (h2 i hi)), (hch.block _ hv.lt (fun h => by have := hT _ h; omega)).trans hv⟩
 case assign =>
  intro l z W K hK
  gi_wp2
  exact hK
 case body =>
  rintro l pre z T W ⟨hno, hT, hc⟩ hpre hTw hWs
  have hcy : W.cell? ⟨w.heap.size, 0, none⟩ = some (.int .i64 y) := hc.cell HV2.out.cell (fun h => by have := hT _ h; simp at this; omega)
  have hvr : Var1 W (w.heap.size + 1) 4 (.bool false) := (hc.block _ HR2.out.lt (fun h => by have := hT _ h; omega)).trans HR2.out
  have hcr := hvr.cell
  have hfr := hvr.free
  have HVR := Lib.hid hvr
  have HC := Lib.hid hc
  have HT := Lib.hid hT
  have HNO := Lib.hid hno
  clear hvr hc hT hno hpre hTw hWs
  by_cases hzy : z = y
  · have hb : (z == y) = true := by simpa using hzy
    gi_wp2
    exact ⟨(Chg.set W _ _ _).mono fun i hi h => by
     subst hi
     rcases h with h | h
     · rcases h with h | h | h
       · omega
       · omega
       · have := HG.out.lt h; omega
     · have := HT.out _ h; omega, rfl, by simp [hzy], HT.out, (HC.out.mono fun _ h => .inl h).trans ((Chg.set W _ _ _).mono fun _ h => .inr h), HVR.out.set _⟩
  · have hb : (z == y) = false := by simpa using hzy
    gi_wp2
    exact ⟨Chg.refl _ _, by simp only [List.mem_append, List.mem_singleton, not_or]; exact ⟨HNO.out, fun e => hzy e.symm⟩, HT.out, HC.out⟩
 case done =>
  rintro D T W hD hTD ⟨hno, hT, hc⟩ hK
  have hvr : Var1 W (w.heap.size + 1) 4 (.bool false) := (hc.block _ HR2.out.lt (fun h => by have := hT _ h; omega)).trans HR2.out
  have hcr := hvr.cell
  have hfr := hvr.free
  have HVR := Lib.hid hvr
  have hE : Ext w W := hc.toExt HW2.out (fun i hi => by have := hT i hi; omega)
  have HEW := Lib.hid hE
  have HK := Lib.hid hK
  have HNO := Lib.hid hno
  clear hvr hE hK hc hT hno hTD
  go_wp2
  have hKF : (W.setCell ⟨w.heap.size + 1, 0, none⟩ (.bool false)).heap[D]? = some (.deferred (some [])) := ((Chg.set W (w.heap.size + 1) 0 (.bool false)).block D (Array.getElem?_eq_some_iff.1 HK.out).1 (fun e => by omega)).trans HK.out
  have hcell := ((putObj_chg (W.setCell ⟨w.heap.size + 1, 0, none⟩ (.bool false)) D (.deferred none)).block _ (HVR.out.set (.bool false)).lt (fun e => by omega)).trans (HVR.out.set (.bool false))
  have hcell2 : Var1 _ _ _ _ := hcell
  have b0 := hcell2.cell
  refine ret_markc (v := .bool false) rfl hKF (by simp [results, Tryz.results48, go_sem, b0]) ?_
  exact ⟨by rw [decide_eq_false HNO.out], ((putObj_chg _ D (.deferred none)).toExt ((Chg.set W (w.heap.size + 1) 0 (.bool false)).toExt HEW.out (fun i e => by omega)) (fun i e => by omega))⟩
 case stop =>
  rintro D c pre T W hD hTD hpre ⟨rfl, hy, hT, hc, hv⟩ hK
  have hE : Ext w W := hc.toExt HW2.out (fun i hi => hi.elim (fun h => by have := hT i h; omega) (fun h => by omega))
  have hcell2 : Var1 (W.putObj D (.deferred none)) (w.heap.size + 1) 4 (.bool true) := ((putObj_chg W D (.deferred none)).block _ hv.lt (fun e => by omega)).trans hv
  have b0 := hcell2.cell
  have HB0 := Lib.hid b0
  have HEW := Lib.hid hE
  have HK := Lib.hid hK
  have HY := Lib.hid hy
  clear hE hcell2 b0 hK hT hc hv hTD hy
  go_wp2
  have b0 := HB0.out
  refine ret_markc (v := .bool true) rfl HK.out (by simp [results, Tryz.results48, go_sem, b0]) ?_
  exact ⟨by rw [decide_eq_true (hpre.subset HY.out)], (putObj_chg W D (.deferred none)).toExt HEW.out (fun i e => by omega)⟩
end Go.Proofs.YtjecjaihficcdaaGreat
namespace Go.Proofs.YtjecjaihficcdaaGreat
open Go.RowKit
theorem collect_any (xs : List Int) (gf : FuncId) (lb : Array Value) (Rk : Nat → Prop) (w : World) (hit : Iter Tryz.prog gf lb (fun y : Int => #[.int .i64 y]) xs Rk w) (hf : Fv Tryz.prog gf) (hRk : ∀ k, Rk k → k < w.heap.size) (hl : xs.length ≤ 1000000) :
 Calls Tryz.prog 91 #[.func (.func gf) #[] lb] w fun e w' => ∃ v, e = .returned v ∧ OwnI w' w.heap.size v xs ∧ Ext w w' := by
 have HA := Lib.hid (appendSeq_any xs gf lb Rk w hit hf hRk hl)
 clear hit hRk
 go_enter Tryz.func91, Tryz.ntmps91
 go_wp2_with (go_at_call 130; refine HA.out.mono ?_; rintro e w' ⟨v, rfl, ho, hE⟩; have HO := Lib.hid ho; have HE := Lib.hid hE; clear ho hE)
 go_ret
 exact ⟨_, rfl, HO.out, HE.out⟩
theorem sortedFunc_any (xs : List Int) (gf : FuncId) (lb : Array Value) (Rk : Nat → Prop) (w : World) (hit : Iter Tryz.prog gf lb (fun y : Int => #[.int .i64 y]) xs Rk w) (hf : Fv Tryz.prog gf) (hRk : ∀ k, Rk k → k < w.heap.size) (hl : xs.length ≤ 1000000)
 (hn : xs.Nodup) (hv : ∀ x ∈ xs, varOf x ≠ 0) :
 Calls Tryz.prog 38 #[.func (.func gf) #[] lb, .func (.func 41) #[] #[]] w fun e w' => ∃ v, e = .returned v ∧ OwnI w' w.heap.size v (setL [] xs) ∧ Ext w w' := by
 have HA := Lib.hid (collect_any xs gf lb Rk w hit hf hRk hl)
 have h64 : All64 xs := fun x hx => by have := varOf_eq (hv x hx); have := varOf_range x; unfold I64; omega
 have H64 := Lib.hid h64
 have HN := Lib.hid hn
 have HV := Lib.hid hv
 clear hit hRk hn hv h64
 go_enter Tryz.func38, Tryz.ntmps38
 go_wp2_with (first
  | (go_at_call 91; refine HA.out.mono ?_; rintro e w1 ⟨v, rfl, ho, hE⟩; have HO := Lib.hid ho; have HE := Lib.hid hE; clear ho hE)
  | (go_at_call 51; refine (SortE_own xs v _ _ HO.out (by omega) H64.out).mono ?_; rintro e w2 ⟨ys, rfl, ho, hg, hp, hs⟩; have HO2 : Hid (OwnI w2 w.heap.size v (setL [] xs)) := Lib.hid (sortE_set hp hs HN.out HV.out ▸ ho); have HE2 := Lib.hid (grow_ext HE.out HO.out hg); clear ho hg hp hs))
 go_ret
 exact ⟨_, rfl, HO2.out, HE2.out⟩
theorem mayCnf_var {f : List (List Int)} (hm : mayCnfB f = true) : ∀ c ∈ f, ∀ x ∈ c, varOf x ≠ 0 := fun c hc x hx => by
 obtain ⟨k, hk, rfl⟩ := List.getElem_of_mem hc
 have := ((mayB_iff _).1 (mayCnfB_get hm k hk)).2 x hx
 omega
theorem lits2_var {f : List (List Int)} (hm : mayCnfB f = true) : ∀ x ∈ lits2 f, varOf x ≠ 0 := fun x hx => by
 unfold lits2 at hx
 obtain ⟨c, hc, hm'⟩ := List.mem_flatMap.1 hx
 split at hm'
 · exact mayCnf_var hm c hc x hm'
 · cases hm'
theorem reachL_var {f : List (List Int)} (hm : mayCnfB f = true) {lit : Int} (hv : varOf lit ≠ 0) : ∀ x ∈ reachL f lit, varOf x ≠ 0 := fun x hx => by
 rcases (reachL_spec f lit).2.1 x hx with rfl | h
 · exact hv
 · exact lits2_var hm x h
set_option maxHeartbeats 1000000 in
theorem Reaches_any (f : List (List Int)) (lit : Int) (u : Value) (w : World) (hlit : I64 lit) (h64 : All64L f) (kr : RLL w u f) (ht : f.length ≤ 20000 → total f ≤ 9223372036854775807) :
 Calls Tryz.prog 12 #[u, .int .i64 lit] w fun e w' => ∃ v, e = .returned v ∧ OwnI w' w.heap.size v (ReachV f lit) ∧ Ext w w' := by
 have HM := Lib.hid (fun w' (h : Ext w w') => mayCnf_any u f w' (RLL.ext' kr h) h64 ht)
 have HV := Lib.hid (fun w' => var_any lit hlit w')
 have HKR := Lib.hid kr
 obtain ⟨A, c, vs, rfl, k1, k2, -⟩ := kr
 obtain ⟨v, hv⟩ : ∃ v, v = varOf lit := ⟨_, rfl⟩
 unfold ReachV
 rw [← hv] at HV ⊢
 have HVE := Lib.hid hv
 clear hv
 by_cases h0 : v = 0
 · rw [if_pos (.inl h0)]
   have hb : (v == 0) = true := by simpa using h0
   clear h0
   go_enter Tryz.func12, Tryz.ntmps12
   go_wp2_with (go_at_call 36; refine (HV.out _).mono ?_; rintro e w' ⟨rfl, rfl⟩)
   go_ret
   exact ⟨_, rfl, OwnI.nil _ _, Ext.refl _⟩
 · have hb : (v == 0) = false := by simpa using h0
   cases hm : mayCnfB f
   · rw [if_pos (.inr rfl)]
     rw [hm] at HM
     clear hm h0
     go_enter Tryz.func12, Tryz.ntmps12
     go_wp2_with (first
      | (go_at_call 36; refine (HV.out _).mono ?_; rintro e w' ⟨rfl, rfl⟩)
      | (go_at_call 37; refine (HM.out _ (Ext.refl _)).mono ?_; rintro e w1 ⟨rfl, hE⟩; have HE := Lib.hid hE; clear hE))
     go_ret
     exact ⟨_, rfl, OwnI.nil _ _, HE.out⟩
   · rw [if_neg (by simp [h0])]
     rw [hm] at HM
     have HMM := Lib.hid hm
     have H0 := Lib.hid h0
     clear hm h0
     go_enter Tryz.func12, Tryz.ntmps12
     go_wp2_with (first
      | (go_at_call 36; refine (HV.out _).mono ?_; rintro e w' ⟨rfl, rfl⟩)
      | (go_at_call 37; refine (HM.out _ (Ext.refl _)).mono ?_; rintro e w1 ⟨rfl, hE⟩; have HE := Lib.hid hE; clear hE)
      | (go_at_call 39; refine (implications_any f _ _ h64 (RLL.ext' HKR.out HE.out) HMM.out).mono ?_; rintro e w2 ⟨g, ks, rfl, hg, hE⟩; have HG := Lib.hid (GM.reads hg); have HE2 := Lib.hid (HE.out.trans hE); clear hg hE)
      | (go_at_call 40; refine (reached_any _ _ _).mono ?_; rintro e w3 ⟨b3, b2, rfl, hE, h3, h2, -, -⟩; have HE3 := Lib.hid (HE2.out.trans hE); have HG3 := Lib.hid (HG.out.ext hE); have H3 := Lib.hid h3; have H2 := Lib.hid h2; clear hE h3 h2)
      | (go_at_call 38
         refine (sortedFunc_any (reachL f lit) _ _ _ _ (reached_iter f g b3 b2 ks lit _ (mayCnfB_len HMM.out) H3.out H2.out HG3.out) fv_reached1 (fun k hk => (by
          rcases hk with rfl | rfl | hk
          · exact World.block_lt_of_cell? _ _ H3.out
          · exact World.block_lt_of_cell? _ _ H2.out
          · exact HG3.out.lt hk)) (by have := reachL_len f lit; have := mayCnfB_len HMM.out; omega) (reachL_spec f lit).1 (reachL_var HMM.out (by rw [← HVE.out]; exact H0.out))).mono ?_
         rintro e w4 ⟨v4, rfl, ho, hE⟩
         have HO := Lib.hid (own_lower ho HE3.out.size)
         have HE4 := Lib.hid (HE3.out.trans hE)
         clear ho hE))
     go_ret
     exact ⟨_, rfl, HO.out, HE4.out⟩
end Go.Proofs.YtjecjaihficcdaaGreat
namespace Go.Proofs.YtjecjaihficcdaaGreat
open Go.RowKit Go.ChangeMaps
section
variable {κ : Type} {P : Program} {kv : κ → Value} {g r : Nat} {ks told : List (κ × Value)} {w : World}
def MR (kv : κ → Value) (w : World) (g r : Nat) (ks told : List (κ × Value)) : Prop :=
 ∃ (es : Array MapEntry) (clock since : Nat) (c0 : Nat) (tl : List MapEntry), w.heap[g]? = some (.map es clock) ∧ MapKept.Stamped es clock ∧ es.toList.map (fun e => (e.key, e.val)) = ks.map (fun p => (kv p.1, p.2)) ∧
  w.heap[r]? = some (.mapIter (some g) since (tl.map (·.born)).toArray c0) ∧ (∀ x ∈ es.toList, x.born < since) ∧ (since ≤ c0 ∧ since ≤ clock) ∧ (∀ e ∈ tl, e ∈ es.toList) ∧ (tl.map (·.born)).Nodup ∧ tl.map (fun e => (e.key, e.val)) = told.map fun p => (kv p.1, p.2)
theorem MapK.range (h : MapK kv w g ks) {T K E : TypeId} (hT : P.underlying T = some (.map K E)) :
 ∃ w', (Instr.range T (.map (some g))).run P w = .ok (.pointer (some ⟨w.heap.size, 0, none⟩)) w' ∧ MR kv w' g w.heap.size ks [] ∧ Ext w w' ∧ w'.heap.size = w.heap.size + 1 := by
 obtain ⟨es, clock, hg, hs, hm⟩ := h
 refine ⟨w.alloc (.mapIter (some g) clock #[] clock), run_range_map w T K E g es clock hT hg, ⟨es, clock, clock, clock, [], ?_, hs, hm, heap_alloc_new w _, hs.1, ⟨Nat.le_refl _, Nat.le_refl _⟩, by simp, by simp, rfl⟩, Ext.alloc w _, by simp⟩
 · exact (Ext.alloc w _).block g (Array.getElem?_eq_some_iff.1 hg).1 |>.trans hg
theorem nodup_lenN : ∀ (l u : List Nat), l.Nodup → (∀ x ∈ l, x ∈ u) → l.length ≤ u.length
 | [], _, _, _ => by simp
 | x :: l, u, hn, hs => by
   rw [List.nodup_cons] at hn
   have hx := hs x (by simp)
   have h1 := nodup_lenN l (u.erase x) hn.2 (fun y hy => (List.mem_erase_of_ne (fun e => hn.1 (by rw [← e]; exact hy))).2 (hs y (by simp [hy])))
   rw [List.length_erase_of_mem hx] at h1
   have := List.length_pos_of_mem hx
   simp only [List.length_cons]
   omega
theorem MR.len (h : MR kv w g r ks told) : told.length ≤ ks.length := by
 obtain ⟨es, clock, since, c0, tl, -, -, hm, -, -, -, h1, h2, h3⟩ := h
 have e1 := congrArg List.length h3
 have e2 := congrArg List.length hm
 simp only [List.length_map] at e1 e2
 have := nodup_lenN (tl.map (·.born)) (es.toList.map (·.born)) h2 (fun b hb => by
  obtain ⟨e, he, rfl⟩ := List.mem_map.1 hb
  exact List.mem_map.2 ⟨e, h1 e he, rfl⟩)
 simp only [List.length_map] at this
 omega
theorem MR.keep {S : Nat → Prop} {w' : World} (h : MR kv w g r ks told) (k : Chg S w w') (hg : ¬ S g) (hr : ¬ S r) : MR kv w' g r ks told := by
 obtain ⟨es, clock, since, c0, tl, h1, h2, h3, h4, h5⟩ := h
 exact ⟨es, clock, since, c0, tl, (k.block g (Array.getElem?_eq_some_iff.1 h1).1 hg).trans h1, h2, h3, (k.block r (Array.getElem?_eq_some_iff.1 h4).1 hr).trans h4, h5⟩
theorem MR.lt (h : MR kv w g r ks told) : r < w.heap.size := by
 obtain ⟨es, clock, since, c0, tl, h1, h2, h3, h4, h5⟩ := h
 exact (Array.getElem?_eq_some_iff.1 h4).1
theorem setBlock_chg (w : World) (r : Nat) (o : Obj) : Chg (fun k => k = r) w (setBlock w r o) :=
 ⟨rfl, rfl, rfl, by simp [setBlock], fun k _ hn => by simp only [setBlock]; rw [Array.getElem?_setIfInBounds_ne (fun e => hn e.symm)]⟩
theorem MR.next (h : MR kv w g r ks told) (hgr : g ≠ r) (ty : TypeId) :
 ((∀ p ∈ ks, ∃ q ∈ told, kv q.1 = kv p.1 ∧ q.2 = p.2) ∧ (Instr.next (.pointer (some ⟨r, 0, none⟩)) false ty).run P w = .ok (.tuple #[.bool false]) w) ∨
 ∃ p ∈ ks, ∃ w', (Instr.next (.pointer (some ⟨r, 0, none⟩)) false ty).run P w = .ok (.tuple #[.bool true, kv p.1, p.2]) w' ∧ (Instr.entry (.pointer (some ⟨r, 0, none⟩))).run P w' = .ok (.tuple #[kv p.1, p.2]) w' ∧ MR kv w' g r ks (told ++ [p]) ∧ Chg (fun k => k = r) w w' := by
 obtain ⟨es, clock, since, c0, tl, hg, hs, hm, hr, hb, hsc, h1, h2, h3⟩ := h
 have find : ∀ e ∈ es.toList, ∃ p ∈ ks, e.key = kv p.1 ∧ e.val = p.2 := fun e he => by
  obtain ⟨j, hj, rfl⟩ := List.getElem_of_mem he
  have hlen := congrArg List.length hm
  simp only [List.length_map] at hlen
  have := congrArg (fun l => l[j]?) hm
  simp only [List.getElem?_map, List.getElem?_eq_getElem hj, List.getElem?_eq_getElem (show j < ks.length by omega), Option.map_some] at this
  injection this with this
  exact ⟨ks[j], List.getElem_mem _, congrArg Prod.fst this, congrArg Prod.snd this⟩
 rcases run_next_at (P := P) w ty r g since c0 _ es clock hr hg hb hsc.1 with ⟨h0, hrun⟩ | ⟨e, he, w1, hw1, hrun⟩
 · refine .inl ⟨fun p hp => ?_, hrun⟩
   obtain ⟨j, hj, rfl⟩ := List.getElem_of_mem hp
   have hlen := congrArg List.length hm
   simp only [List.length_map] at hlen
   have hje : j < es.toList.length := by omega
   have hkv := congrArg (fun l => l[j]?) hm
   simp only [List.getElem?_map, List.getElem?_eq_getElem hj, List.getElem?_eq_getElem hje, Option.map_some] at hkv
   injection hkv with hkv
   have hin : es.toList[j].born ∈ tl.map (·.born) := by
    by_cases hc : es.toList[j].born ∈ tl.map (·.born)
    · exact hc
    · exfalso
      have : es.toList[j] ∈ (leftOf es (tl.map (·.born)).toArray).toList := by
       unfold leftOf
       simp only [Array.toList_filter, List.mem_filter]
       refine ⟨List.getElem_mem hje, ?_⟩
       simpa using hc
      have h9 := List.length_pos_of_mem this
      simp at h9
      omega
   obtain ⟨e', he', heb⟩ := List.mem_map.1 hin
   have hee : e' = es.toList[j] := by
    have hn := hs.2.1
    obtain ⟨i, hi, rfl⟩ := List.getElem_of_mem (h1 e' he')
    have : i = j := by
     have h5 : (es.toList.map (·.born))[i]? = (es.toList.map (·.born))[j]? := by
      simp only [List.getElem?_map, List.getElem?_eq_getElem hi, List.getElem?_eq_getElem hje, Option.map_some, heb]
     exact (List.getElem?_inj (by simpa using hi) hn).1 h5
    subst this; rfl
   have hm3 : (e'.key, e'.val) ∈ told.map fun p => (kv p.1, p.2) := by rw [← h3]; exact List.mem_map.2 ⟨e', he', rfl⟩
   obtain ⟨q, hq, hqe⟩ := List.mem_map.1 hm3
   rw [hee] at hqe
   have e1 := congrArg Prod.fst hqe
   have e2 := congrArg Prod.snd hqe
   have e3 := congrArg Prod.fst hkv
   have e4 := congrArg Prod.snd hkv
   exact ⟨q, hq, e1.trans e3, e2.trans e4⟩
 · unfold leftOf at he
   simp only [Array.toList_filter, List.mem_filter] at he
   obtain ⟨hein, hnew⟩ := he
   obtain ⟨p, hp, hk1, hk2⟩ := find e hein
   have hE1 : Ext w w1 := by rcases hw1 with rfl | rfl; exact Ext.refl _; exact Ext.drew w
   have hr1 : w1.heap[r]? = some (.mapIter (some g) since (tl.map (·.born)).toArray c0) := (hE1.block r (Array.getElem?_eq_some_iff.1 hr).1).trans hr
   have hg1 : w1.heap[g]? = some (.map es clock) := (hE1.block g (Array.getElem?_eq_some_iff.1 hg).1).trans hg
   have hrl := (Array.getElem?_eq_some_iff.1 hr1).1
   have hr2 : (setBlock w1 r (.mapIter (some g) since ((tl.map (·.born)).toArray.push e.born) clock)).heap[r]? = some (.mapIter (some g) since ((tl.map (·.born)).toArray.push e.born) clock) := by
    simp [setBlock, hrl]
   have hg2 : (setBlock w1 r (.mapIter (some g) since ((tl.map (·.born)).toArray.push e.born) clock)).heap[g]? = some (.map es clock) :=
    ((setBlock_chg w1 r _).block g (Array.getElem?_eq_some_iff.1 hg1).1 hgr).trans hg1
   have hent := run_entry_at (P := P) _ r g since _ es clock e hr2 hg2 hein hs.2.1
   have hpush : (tl.map (·.born)).toArray.push e.born = ((tl ++ [e]).map (·.born)).toArray := by simp
   refine .inr ⟨p, hp, _, by rw [← hk1, ← hk2]; exact hrun, by rw [← hk1, ← hk2]; exact hent, ⟨es, clock, since, clock, tl ++ [e], hg2, hs, hm, by rw [hr2, hpush], hb, ?_, ?_, ?_, ?_⟩, (hE1.chg _).trans (setBlock_chg w1 r _)⟩
   · exact ⟨hsc.2, hsc.2⟩
   · intro e' he'
     rcases List.mem_append.1 he' with h | h
     · exact h1 e' h
     · simp at h; subst h; exact hein
   · rw [List.map_append, List.nodup_append]
     refine ⟨h2, by simp, fun a ha b hb2 hab => ?_⟩
     simp at hb2
     subst hb2
     subst hab
     simp at hnew
     obtain ⟨x, hx, hxe⟩ := List.mem_map.1 ha
     exact hnew x hx hxe
   · rw [List.map_append, h3, List.map_append, List.map_singleton, List.map_singleton, hk1, hk2]
end
end Go.Proofs.YtjecjaihficcdaaGreat
namespace Go.Proofs.YtjecjaihficcdaaGreat
open Go.RowKit
def keyL (told : List (Int × Value)) : List Int := told.flatMap fun p => [p.1, -p.1]
theorem keyL_len (told : List (Int × Value)) : (keyL told).length = 2 * told.length := by
 unfold keyL
 induction told with
 | nil => rfl
 | cons p t ih => rw [List.flatMap_cons, List.length_append, ih, List.length_cons]; simp; omega
theorem keyL_snoc (told : List (Int × Value)) (p : Int × Value) : keyL (told ++ [p]) = keyL told ++ [p.1, -p.1] := by unfold keyL; rw [List.flatMap_append]; simp
theorem ri2 (w : World) (x y : Int) : RI (w.alloc (.cells #[.int .i64 x, .int .i64 y] 3)) (.slice (some ⟨w.heap.size, 0, none⟩) 2 2) [x, y] := lit0 w [x, y] (by simp)
theorem mem_keyL (told : List (Int × Value)) (x : Int) : x ∈ keyL told ↔ ∃ p ∈ told, x = p.1 ∨ x = -p.1 := by
 unfold keyL
 simp only [List.mem_flatMap, List.mem_cons, List.not_mem_nil, or_false]
theorem keyL_var {f : List (List Int)} {ks told : List (Int × Value)} (hm : mayCnfB f = true) (hd : ∀ n, n ∈ ks.map Prod.fst ↔ -n ∈ lits2 f) (hs : ∀ p ∈ told, p ∈ ks) : ∀ x ∈ keyL told, varOf x ≠ 0 := fun x hx => by
 obtain ⟨p, hp, h⟩ := (mem_keyL told x).1 hx
 have h1 := lits2_var hm _ ((hd p.1).1 (List.mem_map.2 ⟨p, hs p hp, rfl⟩))
 rw [varOf_neg] at h1
 rcases h with rfl | rfl
 · exact h1
 · rw [varOf_neg]; exact h1
theorem keyL_set {f : List (List Int)} {ks told : List (Int × Value)} (hd : ∀ n, n ∈ ks.map Prod.fst ↔ -n ∈ lits2 f) (hs : ∀ p ∈ told, p ∈ ks) (ha : ∀ p ∈ ks, ∃ q ∈ told, q.1 = p.1) : setL [] (keyL told) = graphLits f := by
 refine sorted_ext blt_asym (setL_sorted _ List.Pairwise.nil) (setL_sorted _ List.Pairwise.nil) fun x => ?_
 rw [mem_graphLits, mem_setL, mem_keyL]
 constructor
 · rintro (h | ⟨p, hp, rfl | rfl⟩)
   · cases h
   · exact .inr ((hd _).1 (List.mem_map.2 ⟨p, hs p hp, rfl⟩))
   · exact .inl ((hd _).1 (List.mem_map.2 ⟨p, hs p hp, rfl⟩))
 · rintro (h | h)
   · obtain ⟨p, hp, he⟩ := List.mem_map.1 ((hd (-x)).2 (by simpa using h))
     obtain ⟨q, hq, hqe⟩ := ha p hp
     exact .inr ⟨q, hq, .inr (by omega)⟩
   · obtain ⟨p, hp, he⟩ := List.mem_map.1 ((hd x).2 h)
     obtain ⟨q, hq, hqe⟩ := ha p hp
     exact .inr ⟨q, hq, .inl (by omega)⟩
set_option maxRecDepth 100000 in
set_option maxHeartbeats 2000000 in
theorem literals_any (f : List (List Int)) (g : Nat) (ks : List (Int × Value)) (w : World) (hg : GR w g ks f) (hm : mayCnfB f = true) (hkl : ks.length ≤ 100000) :
 Calls Tryz.prog 46 #[.map (some g)] w fun e w' => ∃ v, e = .returned v ∧ OwnI w' w.heap.size v (graphLits f) ∧ Ext w w' := by
 obtain ⟨w1, hrun, hmr, hE, hsz⟩ := hg.map.range (P := Tryz.prog) Tryz.underlying67
 have hgl : g < w.heap.size := hg.map.lt
 have HMR := Lib.hid hmr
 have HE := Lib.hid hE
 have HG := Lib.hid hg
 have HM := Lib.hid hm
 have hz1 : w.heap.size + 1 ≤ w1.heap.size := by omega
 clear hmr hE hg hm hsz
 go_enter Tryz.func46, Tryz.ntmps46
 go_wp2
 go_loopg [3] ks.length (fun gn v wr => ∃ told, gn + told.length = ks.length ∧ Hid (MR kvI wr g w.heap.size ks told ∧ OwnI wr (w.heap.size + 1) v (keyL told) ∧ Ext w wr ∧ (∀ p ∈ told, p ∈ ks) ∧ w.heap.size + 1 ≤ wr.heap.size))
 case atStart => exact ⟨[], rfl, Lib.hid ⟨HMR.out, OwnI.nil _ _, HE.out, by simp, hz1⟩⟩
 case round =>
  obtain ⟨told, hgn, HS⟩ := hrel
  obtain ⟨w2, rfl⟩ : ∃ w2 : World, w2 = wr := ⟨_, rfl⟩
  rcases HS.out.1.next (P := Tryz.prog) (by omega) 0 with ⟨hall, hnext⟩ | ⟨p, hp, w3, hnext, hent, hmr3, hc3⟩
  · have hall' : ∀ p ∈ ks, ∃ q ∈ told, q.1 = p.1 := fun p hp => by
     obtain ⟨q, hq, h1, -⟩ := hall p hp
     unfold kvI at h1
     injection h1 with _ h1
     exact ⟨q, hq, h1⟩
    have hvar := keyL_var HM.out HG.out.dom HS.out.2.2.2.1
    have h64 : All64 (keyL told) := fun x hx => by have := varOf_eq (hvar x hx); have := varOf_range x; unfold I64; omega
    have hlen : (keyL told).length ≤ 1000000 := by rw [keyL_len]; have := HS.out.1.len; omega
    have HST := Lib.hid (keyL_set HG.out.dom HS.out.2.2.2.1 hall')
    have HVAR := Lib.hid hvar
    have H64 := Lib.hid h64
    have HO := Lib.hid HS.out.2.1
    have HE2 := Lib.hid HS.out.2.2.1
    have HLEN := Lib.hid hlen
    clear hall hall' hvar h64 HS hgn hrun hlen
    go_wp2_with (first
     | (go_at_call 51; refine (SortE_own (keyL told) _ _ _ HO.out (by have := HLEN.out; omega) H64.out).mono ?_; rintro e w4 ⟨ys, rfl, ho, hgr, hp, hs⟩; have HO2 := Lib.hid ho; have HE4 := Lib.hid (HE2.out.grown hgr (fun k hk => by have := (own_typed HO.out hk).1; omega)); have HC := Lib.hid (sortE_compact hp hs HVAR.out); have HYL : Hid (ys.length ≤ 1000000) := Lib.hid (by rw [hp.length_eq]; exact HLEN.out); clear ho hgr hp hs)
     | (go_at_call 74; refine (Compact_own ys _ _ _ HO2.out (by have := HYL.out; omega)).mono ?_; rintro e w5 ⟨v5, rfl, ho, hgr, -⟩; rw [HC.out, HST.out] at ho; have HO5 := Lib.hid ho; have HE5 := Lib.hid (HE4.out.grown hgr (fun k hk => by have := (own_typed HO2.out hk).1; omega)); clear ho hgr))
    go_ret
    exact ⟨_, rfl, own_lower HO5.out (by omega), HE5.out⟩
  · have hpk : varOf p.1 ≠ 0 := by
     have h1 := lits2_var HM.out _ ((HG.out.dom p.1).1 (List.mem_map.2 ⟨p, hp, rfl⟩))
     rwa [varOf_neg] at h1
    have hpv := varOf_eq hpk
    have hpr := varOf_range p.1
    have hO3 : OwnI w3 (w.heap.size + 1) u3 (keyL told) := hc3.own HS.out.2.1 (fun b hb e => by have := (own_typed HS.out.2.1 hb).1; omega)
    have hE3 : Ext w w3 := hc3.toExt HS.out.2.2.1 (fun i hi => by omega)
    have hs3 : w.heap.size + 1 ≤ w3.heap.size := Nat.le_trans HS.out.2.2.2.2 hc3.size
    have hlen := hmr3.len
    rw [List.length_append, List.length_singleton] at hlen
    have HP := Lib.hid hp
    obtain ⟨k, hk⟩ : ∃ k, k = p.1 := ⟨_, rfl⟩
    rw [← hk] at hpv hpr hpk
    unfold kvI at hnext hent
    rw [← hk] at hnext hent
    have hk1 : -65536 ≤ k := by omega
    have hk2 : k ≤ 65536 := by omega
    have HKE := Lib.hid hk
    have HO3 := Lib.hid hO3
    have HE3 := Lib.hid hE3
    have HMR3 := Lib.hid hmr3
    have hkl2 : (keyL told).length ≤ 200000 := by rw [keyL_len]; omega
    have HKL2 := Lib.hid hkl2
    obtain ⟨pv, hpv2⟩ : ∃ pv, pv = p.2 := ⟨_, rfl⟩
    rw [← hpv2] at hnext hent
    clear hp hpk hpv hpr hO3 hE3 hmr3 hc3 hk hkl2 hpv2 hrun
    go_wp2_with (at_builtin
                 refine app_I rfl (.tmp 11) (.tmp 15) rfl (base := w.heap.size + 1) (xs := keyL told) (ys := [k, -k]) rfl rfl (own_ext HO3.out (Ext.alloc _ _)) (ri2 w3 k (-k)) (by have := HKL2.out; simp; omega) (by simp; omega) ?_
                 intro v' w4 hown hgr
                 have HO4 := Lib.hid hown
                 have hne : ∀ b, some b = u3.ownBlock → ¬ b = w.heap.size := fun b hb e => by have := (own_typed HO3.out hb.symm).1; omega
                 have hgc := grown_chg hgr
                 have HMR4 := Lib.hid ((HMR3.out.keep ((Ext.alloc w3 (.cells #[.int .i64 k, .int .i64 (-k)] 3)).chg (fun _ => False)) id id).keep hgc (fun h => by have := (own_typed HO3.out h.symm).1; omega) (fun h => hne _ h rfl))
                 have HE4 := Lib.hid ((HE3.out.trans (Ext.alloc w3 (.cells #[.int .i64 k, .int .i64 (-k)] 3))).grown hgr (fun b hb => by have := (own_typed HO3.out hb).1; omega))
                 have hs4 : w.heap.size + 1 ≤ w4.heap.size := (by have := hgr.size; simp at this; omega)
                 clear hown hgr hne hgc)
    go_roundg (ks.length - (told.length + 1))
    case measure => omega
    case rel => exact ⟨told ++ [p], by rw [List.length_append, List.length_singleton]; omega, Lib.hid ⟨HMR4.out, by rw [keyL_snoc, ← HKE.out]; exact HO4.out, HE4.out, fun q hq => by
     rcases List.mem_append.1 hq with h | h
     · exact HS.out.2.2.2.1 q h
     · simp at h; subst h; exact HP.out, hs4⟩⟩
end Go.Proofs.YtjecjaihficcdaaGreat
namespace Go.Proofs.YtjecjaihficcdaaGreat
open Go.RowKit
theorem fv_failed1 : Fv Tryz.prog 47 := ⟨_, Tryz.func47, by kernel_rfl, by kernel_rfl⟩
set_option maxHeartbeats 400000 in
theorem failed1_fn (f : List (List Int)) (g b : Nat) (ks : List (Int × Value)) (x : Int) (w : World) (hf : f.length ≤ 20000) (hg : GR w g ks f) (hb : w.cell? ⟨b, 0, none⟩ = some (.map (some g))) (h1 : -65536 ≤ x) (h2 : x ≤ 65536) :
 Calls Tryz.prog 47 #[.int .i64 x, .pointer (some ⟨b, 0, none⟩)] w fun e w' => e = .returned (.bool (!decide (-x ∈ reachL f x))) ∧ Ext w w' := by
 have HR := Lib.hid (reaches_any f g ks x (-x) w hf hg)
 obtain ⟨r, hr⟩ : ∃ r, r = decide (-x ∈ reachL f x) := ⟨_, rfl⟩
 rw [← hr] at HR ⊢
 clear hr hg
 go_enter Tryz.func47, Tryz.ntmps47
 go_wp2_with (go_at_call 48; refine HR.out.mono ?_; rintro e w' ⟨rfl, hE⟩; have HE := Lib.hid hE; clear hE)
 cases r
 all_goals
  go_ret
  exact ⟨rfl, HE.out⟩
theorem keys_len {f : List (List Int)} {g : Nat} {ks : List (Int × Value)} {w : World} (hg : GR w g ks f) : ks.length ≤ 2 * f.length := by
 have h1 := MapK.nodup hg.map
 have h2 := nodup_len (ks.map Prod.fst) ((lits2 f).map fun x => -x) h1 (fun x hx => List.mem_map.2 ⟨-x, (hg.dom x).1 hx, by omega⟩)
 rw [List.length_map, List.length_map] at h2
 have := lits2_len f
 omega
set_option maxHeartbeats 1000000 in
theorem Failed_any (f : List (List Int)) (u : Value) (w : World) (h64 : All64L f) (kr : RLL w u f) (ht : f.length ≤ 20000 → total f ≤ 9223372036854775807) :
 Calls Tryz.prog 14 #[u] w fun e w' => ∃ v, e = .returned v ∧ OwnI w' w.heap.size v (FailV f) ∧ Ext w w' := by
 have HM := Lib.hid (fun w' (h : Ext w w') => mayCnf_any u f w' (RLL.ext' kr h) h64 ht)
 have HKR := Lib.hid kr
 obtain ⟨A, c, vs, rfl, k1, k2, -⟩ := kr
 unfold FailV
 cases hm : mayCnfB f
 · rw [if_pos rfl]
   rw [hm] at HM
   clear hm
   go_enter Tryz.func14, Tryz.ntmps14
   go_wp2_with (go_at_call 37; refine (HM.out _ (Ext.refl _)).mono ?_; rintro e w1 ⟨rfl, hE⟩; have HE := Lib.hid hE; clear hE)
   go_ret
   exact ⟨_, rfl, OwnI.nil _ _, HE.out⟩
 · rw [if_neg (by simp)]
   rw [hm] at HM
   have HMM := Lib.hid hm
   obtain ⟨R, hR⟩ : ∃ R, R = (graphLits f).filter fun x => decide (-x ∈ reachL f x) := ⟨_, rfl⟩
   rw [← hR]
   have HRR := Lib.hid hR
   clear hm hR
   go_enter Tryz.func14, Tryz.ntmps14
   go_wp2_with (first
    | (go_at_call 37; refine (HM.out _ (Ext.refl _)).mono ?_; rintro e w1 ⟨rfl, hE⟩; have HE := Lib.hid hE; clear hE)
    | (go_at_call 39; refine (implications_any f _ _ h64 (RLL.ext' HKR.out HE.out) HMM.out).mono ?_; rintro e w2 ⟨g, ks, rfl, hg, hE⟩; have HG := Lib.hid (GM.reads hg); have HE2 := Lib.hid (HE.out.trans hE); clear hg hE)
    | (go_at_call 46
       refine (literals_any f g ks _ (HG.out.ext (Ext.alloc w2 _)) HMM.out (by have := keys_len HG.out; have := mayCnfB_len HMM.out; omega)).mono ?_
       rintro e w3 ⟨v3, rfl, ho, hE⟩
       have HO := Lib.hid ho
       have HE3 := Lib.hid (HE2.out.trans ((Ext.alloc w2 _).trans hE))
       have HG3 := Lib.hid (HG.out.ext ((Ext.alloc w2 _).trans hE))
       have HB3 := Lib.hid ((Var1.new w2 67 (.map (some g))).ext hE)
       clear ho hE)
    | (go_at_call 45
       refine (deleteI 47 #[.pointer (some ⟨w2.heap.size, 0, none⟩)] fv_failed1 _ v3 (graphLits f) (fun x => !decide (-x ∈ reachL f x)) _ HO.out (fun x hx w' hw' => (by
        have hgr := grown_chg hw'
        have hown : ∀ b, some b = v3.ownBlock → w2.heap.size + 1 ≤ b := fun b hb => by have := (own_typed HO.out hb.symm).1; simpa using this
        have hg' := HG3.out.chg hgr (fun k hk h => by have := HG.out.lt hk; have := hown k h; omega)
        have hb' := hgr.cell HB3.out.cell (fun h => by have := hown _ h; simp at this; omega)
        have hv : varOf x ≠ 0 := by
         rcases (mem_graphLits f x).1 hx with h | h
         · exact lits2_var HMM.out x h
         · have := lits2_var HMM.out _ h; rwa [varOf_neg] at this
        have := varOf_eq hv
        have := varOf_range x
        exact failed1_fn f g w2.heap.size ks x w' (mayCnfB_len HMM.out) hg' hb' (by omega) (by omega)))).mono ?_
       rintro e w4 ⟨v4, rfl, ho, hgr⟩
       have HO4 := Lib.hid ho
       have HE4 := Lib.hid (HE3.out.grown hgr (fun k hk => (by have := (own_typed HO.out hk).1; simp at this; have := HE2.out.size; omega)))
       clear ho hgr))
   go_ret
   refine ⟨_, rfl, ?_, HE4.out⟩
   have := HO4.out
   simp only [Bool.not_not] at this
   rw [← HRR.out, List.length_map] at this
   exact own_lower this (by have := HE2.out.size; simp; omega)
end Go.Proofs.YtjecjaihficcdaaGreat
namespace Go.Proofs.YtjecjaihficcdaaGreat
open Go.RowKit
section
variable {κ : Type} [DecidableEq κ] {P : Program} {T K E : TypeId} {kv : κ → Value} {w : World} {g : Nat} {ks : List (κ × Value)}
theorem findIdx_born (es : List MapEntry) (e : MapEntry) (hn : (es.map (·.born)).Nodup) (j : Nat) (hj : j < es.length) (he : es[j] = e) : es.findIdx? (fun x => (x.born : Int) == (e.born : Int)) = some j := by
 rw [List.findIdx?_eq_some_iff_getElem]
 refine ⟨hj, by simp [he], fun i hi => ?_⟩
 simp only [beq_iff_eq]
 intro hb
 have h1 : (es.map (·.born))[i]? = (es.map (·.born))[j]? := by
  simp only [List.getElem?_map, List.getElem?_eq_getElem hj, List.getElem?_eq_getElem (show i < es.length by omega), Option.map_some, he]
  congr 1; omega
 have := (List.getElem?_inj (by simp; omega) hn).1 h1
 omega
theorem arr_findIdx (xs : Array MapEntry) (p : MapEntry → Bool) : xs.findIdx? p = xs.toList.findIdx? p := by obtain ⟨l⟩ := xs; simp
theorem MapK.entry_new (h : MapK kv w g ks) (F : KeyFam P K kv) (hT : P.underlying T = some (.map K E)) {z : Value} (hz : (zeroValue E).run P w = .ok z w) (n : κ) (hno : lkp ks n = none) :
 ∃ st w1, (Instr.mapEntry T (.map (some g)) (kv n)).run P w = .ok (.tuple #[z, .int .i64 st]) w1 ∧ MapK kv w1 g (ks ++ [(n, z)]) ∧ Chg (fun k => k = g) w w1 ∧
  ∀ w2 v, w2.heap[g]? = w1.heap[g]? → ∃ w3, (Instr.entryStore T (.map (some g)) (.int .i64 st) v).run P w2 = .ok () w3 ∧ MapK kv w3 g (kput ks n v) ∧ Chg (fun k => k = g) w2 w3 := by
 obtain ⟨es, clock, hg, hs, hm⟩ := h
 have hf := F.find ks es.toList n w hm
 have hc := F.chk false n w
 have hidx : idxK ks n 0 = none := by
  have := idxK_val ks n 0
  rw [hno] at this
  simpa using this
 rw [hidx] at hf
 have hno' := idxK_none hidx
 have hkeys : ∀ x ∈ es.toList, x.key ≠ kv n := fun x hx e => by
  have : (x.key, x.val) ∈ ks.map fun p => (kv p.1, p.2) := by rw [← hm]; exact List.mem_map.2 ⟨x, hx, rfl⟩
  obtain ⟨p, hp, hpe⟩ := List.mem_map.1 this
  have h1 : kv p.1 = kv n := (congrArg Prod.fst hpe).trans e
  exact hno' (by rw [← F.inj _ _ h1]; exact List.mem_map.2 ⟨p, hp, rfl⟩)
 have hst := MapKept.stamped_push (val := z) hs hkeys
 have hg1 := setObjW_at (o' := .map (es.push { key := kv n, val := z, born := clock }) (clock + 1)) hg
 refine ⟨(clock : Int), setObjW w g (.map (es.push { key := kv n, val := z, born := clock }) (clock + 1)), ?_, ⟨_, _, hg1, hst, ?_⟩, setObjW_chg w g _, fun w2 v hw2 => ?_⟩
 · simp [Instr.mapEntry, run_underlying hT, MapKept.run_getObj_map hg, hc, hf, hz, Result.andThen, MapKept.run_setObj_map _ hg, setObjW, goInt]
 · rw [Array.toList_push, List.map_append, hm]; simp
 · have hg2 := hw2.trans hg1
   have hfi : (es.push { key := kv n, val := z, born := clock }).findIdx? (fun e => (e.born : Int) == (clock : Int)) = some es.size := by
    rw [arr_findIdx]
    have hb : (es.push { key := kv n, val := z, born := clock }).toList.length = es.size + 1 := by simp
    have := findIdx_born (es.push { key := kv n, val := z, born := clock }).toList { key := kv n, val := z, born := clock } hst.2.1 es.size (by omega) (by simp)
    exact this
   refine ⟨setObjW w2 g (.map ((es.push { key := kv n, val := z, born := clock }).modify es.size fun e => { e with val := v }) (clock + 1)), ?_, ⟨_, _, setObjW_at hg2, MapKept.stamped_modify hst _ _ (fun _ _ => rfl) (fun _ _ _ => rfl), ?_⟩, setObjW_chg w2 g _⟩
   · simp [Instr.entryStore, MapKept.run_getObj_map hg2, asInt, asIntOf, hfi, Result.andThen, MapKept.run_setObj_map _ hg2, setObjW]
   · have hes : ((es.push { key := kv n, val := z, born := clock }).modify es.size fun e => { e with val := v }).toList = es.toList ++ [{ key := kv n, val := v, born := clock }] := by
      rw [Array.toList_modify, modify_set _ _ _ (by simp)]
      simp
     rw [hes, List.map_append, hm, kput_new hno']; simp
omit [DecidableEq κ] in
theorem MapK.len (h : MapK kv w g ks) (hT : P.underlying T = some (.map K E)) (ty : TypeId) : (Builtin.len_ #[T] ty #[.map (some g)]).run P w = .ok (.int .i64 (ks.length : Int)) w := by
 obtain ⟨es, clock, hg, hl⟩ := h.size
 simp [Builtin.len_, run_underlying hT, MapKept.run_getObj_map hg, Result.andThen, Builtin.lenOf, goInt, hl]
end
end Go.Proofs.YtjecjaihficcdaaGreat
namespace Go.Proofs.YtjecjaihficcdaaGreat
open Go.RowKit
def OwnCl (w : World) (base : Nat) (pv cv : Value) (vs : List Value) (cls : List (List Int)) : Prop :=
 w.ownsRow base 24 1 cv vs.length vs ∧ vs.length = cls.length ∧ (∀ j (h : j < vs.length) (h' : j < cls.length), OwnI w base vs[j] cls[j]) ∧
  (∀ v ∈ vs, ∀ k, v.ownBlock = some k → pv.ownBlock ≠ some k) ∧ vs.Pairwise fun a b => ∀ k, a.ownBlock = some k → b.ownBlock ≠ some k
structure FB where
 F : Nat
 g : Nat
 gn : Nat
 gl : Nat
 go : Nat
 ks : List (Int × Value)
 lv : Value
 lx : List Int
structure TW (base : Nat) (f : List (List Int)) (B : FB) (w : World) (pv cv : Value) (vs : List Value) (s : Tj) : Prop where
 fb : Blk w B.F 80 [.map (some B.g), .map (some B.gn), .map (some B.gl), .map (some B.go), pv, cv]
 gr : GR w B.g B.ks f
 gb : ∀ k, GB B.g B.ks k → k < base
 num : ∃ kn, MapK kvI w B.gn kn ∧ kn.length = s.cnt ∧ ∀ n, lkp kn n = if s.num n = 0 then none else some (.int .i64 (s.num n))
 low : ∃ kl, MapK kvI w B.gl kl ∧ (∀ n, (lkp kl n).getD (.int .i64 0) = .int .i64 (s.low n)) ∧ ∀ n, s.num n = 0 → lkp kl n = none
 on : ∃ ko, MapK kvI w B.go ko ∧ (∀ n, (lkp ko n).getD (.bool false) = .bool (s.on n)) ∧ ∀ n, s.num n = 0 → lkp ko n = none
 path : OwnI w base pv s.path
 cls : OwnCl w base pv cv vs s.cls
 ne : B.gn ≠ B.gl ∧ B.gn ≠ B.go ∧ B.gl ≠ B.go
 bs : base ≤ B.F ∧ base ≤ B.gn ∧ base ≤ B.gl ∧ base ≤ B.go
 sz : base ≤ w.heap.size
 lit : OwnI w base B.lv B.lx
 litp : ∀ k, B.lv.ownBlock = some k → pv.ownBlock ≠ some k
structure Kp (base : Nat) (w w' : World) : Prop where
 chg : Chg (fun i => base ≤ i) w w'
 row : ∀ (b : Nat) (cur : Array Value), w.heap[b]? = some (.cells cur 113 (0, 0)) → w'.heap[b]? = w.heap[b]?
theorem Kp.refl (base : Nat) (w : World) : Kp base w w := ⟨Chg.refl _ _, fun _ _ _ => rfl⟩
theorem Kp.trans {base : Nat} {a b c : World} (h : Kp base a b) (k : Kp base b c) : Kp base a c :=
 ⟨h.chg.trans k.chg, fun i cur hi => (k.row i cur ((h.row i cur hi).trans hi)).trans (h.row i cur hi)⟩
theorem Kp.ext {base : Nat} {w w' : World} (h : Ext w w') : Kp base w w' := ⟨h.chg _, fun i _ hi => h.block i (Array.getElem?_eq_some_iff.1 hi).1⟩
theorem Kp.own {base : Nat} {w w' : World} (h : Kp base w w') {n : Nat} {v : Value} {xs : List Value} (ho : w.ownsRow base 113 2 v n xs) : w'.ownsRow base 113 2 v n xs := by
 obtain ⟨h1, h2 | ⟨g, cap, cur, rfl, hb, hg, r⟩⟩ := ho
 · exact ⟨h1, .inl h2⟩
 · exact ⟨h1, .inr ⟨g, cap, cur, rfl, hb, (h.row g cur hg).trans hg, r⟩⟩
theorem Kp.of {base : Nat} {w w' : World} {S : Nat → Prop} (h : Chg S w w') (h1 : ∀ i, S i → base ≤ i) (h2 : ∀ i, S i → ∀ cur : Array Value, w.heap[i]? ≠ some (.cells cur 113 (0, 0))) : Kp base w w' :=
 ⟨h.mono h1, fun b cur hb => h.block b (Array.getElem?_eq_some_iff.1 hb).1 fun hs => h2 b hs cur hb⟩
theorem int_ne_step {w : World} {base n k : Nat} {v : Value} {xs : List Value} {e : TypeId} (he : e ≠ 113) (h : w.ownsRow base e 1 v n xs) (hk : v.ownBlock = some k) : ∀ cur : Array Value, w.heap[k]? ≠ some (.cells cur 113 (0, 0)) := fun cur hc => by
 obtain ⟨-, -, cur', h1⟩ := own_typed h hk
 rw [h1] at hc
 injection hc with hc
 injection hc with _ hc
 exact he hc
theorem map_ne_step {w : World} {g : Nat} {ks : List (Int × Value)} (h : MapK kvI w g ks) : ∀ cur : Array Value, w.heap[g]? ≠ some (.cells cur 113 (0, 0)) := fun cur hc => by
 obtain ⟨es, clock, h1, -⟩ := h
 rw [h1] at hc; cases hc
theorem map_ne_blk {w : World} {g b : Nat} {e : TypeId} {cur : List Value} {ks : List (Int × Value)} (h : MapK kvI w g ks) (hb : Blk w b e cur) : b ≠ g := fun e1 => by
 subst e1
 obtain ⟨es, clock, h1, -⟩ := h
 unfold Blk at hb
 rw [h1] at hb; cases hb
section
variable {base : Nat} {f : List (List Int)} {B : FB} {w w' : World} {pv cv : Value} {vs : List Value} {s s' : Tj}
theorem OwnCl.keep {S : Nat → Prop} {cls : List (List Int)} (h : OwnCl w base pv cv vs cls) (hc : Chg S w w') (hS : ∀ i, S i → ∀ cur : Array Value, w.heap[i]? = some (.cells cur 3 (0, 0)) ∨ w.heap[i]? = some (.cells cur 24 (0, 0)) → False) : OwnCl w' base pv cv vs cls := by
 obtain ⟨h1, h2, h3, h4, h5⟩ := h
 refine ⟨hc.own h1 (fun k hk hs => ?_), h2, fun j hj hj' => hc.own (h3 j hj hj') (fun k hk hs => ?_), h4, h5⟩
 · obtain ⟨-, -, cur, hcur⟩ := own_typed h1 hk
   exact hS k hs cur (.inr hcur)
 · obtain ⟨-, -, cur, hcur⟩ := own_typed (h3 j hj hj') hk
   exact hS k hs cur (.inl hcur)
theorem TW.ext (h : TW base f B w pv cv vs s) (k : Ext w w') : TW base f B w' pv cv vs s := by
 obtain ⟨kn, n1, n2⟩ := h.num
 obtain ⟨kl, l1, l2⟩ := h.low
 obtain ⟨ko, o1, o2⟩ := h.on
 exact ⟨(k.chg (fun _ => False)).blk h.fb id, h.gr.ext k, h.gb, ⟨kn, n1.ext k, n2⟩, ⟨kl, l1.ext k, l2⟩, ⟨ko, o1.ext k, o2⟩, own_ext h.path k, h.cls.keep (k.chg (fun _ => False)) (fun _ h => h.elim), h.ne, h.bs, Nat.le_trans h.sz k.size, own_ext h.lit k, h.litp⟩
theorem TW.upd (h : TW base f B w pv cv vs s) (hc : Chg (fun i => i = B.gn ∨ i = B.gl ∨ i = B.go) w w') (hp : s'.path = s.path) (hcl : s'.cls = s.cls)
 (hn : ∃ kn, MapK kvI w' B.gn kn ∧ kn.length = s'.cnt ∧ ∀ n, lkp kn n = if s'.num n = 0 then none else some (.int .i64 (s'.num n)))
 (hl : ∃ kl, MapK kvI w' B.gl kl ∧ (∀ n, (lkp kl n).getD (.int .i64 0) = .int .i64 (s'.low n)) ∧ ∀ n, s'.num n = 0 → lkp kl n = none)
 (ho : ∃ ko, MapK kvI w' B.go ko ∧ (∀ n, (lkp ko n).getD (.bool false) = .bool (s'.on n)) ∧ ∀ n, s'.num n = 0 → lkp ko n = none) : TW base f B w' pv cv vs s' ∧ Kp base w w' := by
 obtain ⟨kn, n1, n2⟩ := h.num
 obtain ⟨kl, l1, l2⟩ := h.low
 obtain ⟨ko, o1, o2⟩ := h.on
 obtain ⟨b1, b2, b3, b4⟩ := h.bs
 have hmap : ∀ i, (i = B.gn ∨ i = B.gl ∨ i = B.go) → ∃ es clock, w.heap[i]? = some (.map es clock) := fun i hi => by
  rcases hi with rfl | rfl | rfl
  · obtain ⟨es, c, h1, -⟩ := n1; exact ⟨es, c, h1⟩
  · obtain ⟨es, c, h1, -⟩ := l1; exact ⟨es, c, h1⟩
  · obtain ⟨es, c, h1, -⟩ := o1; exact ⟨es, c, h1⟩
 have hbase : ∀ i, (i = B.gn ∨ i = B.gl ∨ i = B.go) → base ≤ i := fun i hi => by rcases hi with rfl | rfl | rfl <;> assumption
 have hcells : ∀ i, (i = B.gn ∨ i = B.gl ∨ i = B.go) → ∀ (cur : Array Value) (e : TypeId), w.heap[i]? ≠ some (.cells cur e (0, 0)) := fun i hi cur e hc2 => by
  obtain ⟨es, c, h1⟩ := hmap i hi
  rw [h1] at hc2; cases hc2
 refine ⟨⟨hc.blk h.fb (fun hs => hcells _ hs _ _ h.fb), h.gr.chg hc (fun k hk hs => by have := h.gb k hk; have := hbase k hs; omega), h.gb, hn, hl, ho, ?_, ?_, h.ne, h.bs, Nat.le_trans h.sz hc.size, hc.own h.lit (fun k hk hs => by obtain ⟨-, -, cur, h1⟩ := own_typed h.lit hk; exact hcells k hs _ _ h1), h.litp⟩,
  Kp.of hc hbase (fun i hi cur => hcells i hi cur _)⟩
 · rw [hp]
   exact hc.own h.path (fun k hk hs => by obtain ⟨-, -, cur, h1⟩ := own_typed h.path hk; exact hcells k hs _ _ h1)
 · rw [hcl]
   exact h.cls.keep hc (fun i hi cur hh => hh.elim (hcells i hi _ _) (hcells i hi _ _))
theorem fin_ne_own {w : World} {F n k : Nat} {cur : List Value} {v : Value} {xs : List Value} {e : TypeId} {sz : Nat} (he : e ≠ 80) (hb : Blk w F 80 cur) (h : w.ownsRow base e sz v n xs) (hk : v.ownBlock = some k) : k ≠ F := fun e1 => by
 subst e1
 obtain ⟨-, -, cur', h1⟩ := own_typed h hk
 unfold Blk at hb
 rw [hb] at h1
 injection h1 with h1
 injection h1 with _ h1
 exact he h1.symm
theorem TW.newPath {S : Nat → Prop} (h : TW base f B w pv cv vs s) (hc : Chg S w w') (hS : ∀ i, S i → i = B.F ∨ pv.ownBlock = some i) (pv' : Value) (path' : List Int) (ho : OwnI w' base pv' path')
 (hl : ∀ k, pv'.ownBlock = some k → pv.ownBlock = some k ∨ w.heap.size ≤ k) (hb : Blk w' B.F 80 [.map (some B.g), .map (some B.gn), .map (some B.gl), .map (some B.go), pv', cv]) :
 TW base f B w' pv' cv vs { s with path := path' } ∧ Kp base w w' := by
 obtain ⟨kn, n1, n2⟩ := h.num
 obtain ⟨kl, l1, l2⟩ := h.low
 obtain ⟨ko, o1, o2⟩ := h.on
 obtain ⟨b1, b2, b3, b4⟩ := h.bs
 have hmap : ∀ g ks, MapK kvI w g ks → ¬ S g := fun g ks hm hs => by
  rcases hS g hs with rfl | h1
  · exact map_ne_blk hm h.fb rfl
  · exact row_ne_map h.path hm g h1 rfl
 have hbase : ∀ i, S i → base ≤ i := fun i hs => by
  rcases hS i hs with rfl | h1
  · exact b1
  · exact (own_typed h.path h1).1
 obtain ⟨v1, v2, v3, v4, v5⟩ := h.cls
 have hrow : ∀ v ∈ vs, ∀ k, v.ownBlock = some k → ¬ S k := fun v hv k hk hs => by
  rcases hS k hs with h1 | h1
  · obtain ⟨j, hj, rfl⟩ := List.getElem_of_mem hv
    exact fin_ne_own (by decide) h.fb (v3 j hj (by omega)) hk h1
  · exact v4 v hv k hk h1
 refine ⟨⟨hb, h.gr.chg hc (fun k hk hs => by have := h.gb k hk; have := hbase k hs; omega), h.gb, ⟨kn, n1.keep hc (hmap _ _ n1), n2⟩, ⟨kl, l1.keep hc (hmap _ _ l1), l2⟩, ⟨ko, o1.keep hc (hmap _ _ o1), o2⟩, ho,
  ⟨hc.own v1 (fun k hk hs => ?_), v2, fun j hj hj' => hc.own (v3 j hj hj') (hrow _ (List.getElem_mem hj)), fun v hv k hk hp => ?_, v5⟩, h.ne, h.bs, Nat.le_trans h.sz hc.size, hc.own h.lit (fun k hk hs => ?_), fun k hk hp => ?_⟩, Kp.of hc hbase fun i hi cur hcur => ?_⟩
 · rcases hS k hs with h1 | h1
   · exact fin_ne_own (by decide) h.fb v1 hk h1
   · obtain ⟨-, -, c1, e1⟩ := own_typed v1 hk
     obtain ⟨-, -, c2, e2⟩ := own_typed h.path h1
     rw [e1] at e2
     injection e2 with e2
     injection e2 with _ e2
     exact absurd e2 (by decide)
 · rcases hl k hp with h1 | h1
   · exact v4 v hv k hk h1
   · obtain ⟨j, hj, rfl⟩ := List.getElem_of_mem hv
     have := (own_typed (v3 j hj (by omega)) hk).2.1
     omega
 · rcases hS k hs with h1 | h1
   · exact fin_ne_own (by decide) h.fb h.lit hk h1
   · exact h.litp k hk h1
 · rcases hl k hp with h1 | h1
   · exact h.litp k hk h1
   · have := (own_typed h.lit hk).2.1
     omega
 · rcases hS i hi with rfl | h1
   · have := h.fb
     unfold Blk at this
     rw [this] at hcur
     injection hcur with hcur
     injection hcur with _ hcur
     exact absurd hcur (by decide)
   · exact int_ne_step (by decide) h.path h1 cur hcur
theorem TW.newCls {S : Nat → Prop} (h : TW base f B w pv cv vs s) (hc : Chg S w w') (hS : ∀ i, S i → i = B.F ∨ cv.ownBlock = some i) (cv' u : Value) (cl : List Int) (hu : OwnI w base u cl)
 (hpu : ∀ k, u.ownBlock = some k → pv.ownBlock ≠ some k) (hvu : ∀ v ∈ vs, ∀ k, v.ownBlock = some k → u.ownBlock ≠ some k) (ho : w'.ownsRow base 24 1 cv' (vs.length + 1) (vs ++ [u]))
 (hb : Blk w' B.F 80 [.map (some B.g), .map (some B.gn), .map (some B.gl), .map (some B.go), pv, cv']) :
 TW base f B w' pv cv' (vs ++ [u]) { s with cls := s.cls ++ [cl] } ∧ Kp base w w' := by
 obtain ⟨kn, n1, n2⟩ := h.num
 obtain ⟨kl, l1, l2⟩ := h.low
 obtain ⟨ko, o1, o2⟩ := h.on
 obtain ⟨b1, b2, b3, b4⟩ := h.bs
 obtain ⟨v1, v2, v3, v4, v5⟩ := h.cls
 have hmap : ∀ g ks, MapK kvI w g ks → ¬ S g := fun g ks hm hs => by
  rcases hS g hs with rfl | h1
  · exact map_ne_blk hm h.fb rfl
  · exact row_ne_map v1 hm g h1 rfl
 have hbase : ∀ i, S i → base ≤ i := fun i hs => by
  rcases hS i hs with rfl | h1
  · exact b1
  · exact (own_typed v1 h1).1
 have hint : ∀ {v : Value} {xs : List Int}, OwnI w base v xs → ∀ k, v.ownBlock = some k → ¬ S k := fun hv k hk hs => by
  rcases hS k hs with h1 | h1
  · exact fin_ne_own (by decide) h.fb hv hk h1
  · obtain ⟨-, -, c1, e1⟩ := own_typed v1 h1
    obtain ⟨-, -, c2, e2⟩ := own_typed hv hk
    rw [e1] at e2
    injection e2 with e2
    injection e2 with _ e2
    exact absurd e2 (by decide)
 refine ⟨⟨hb, h.gr.chg hc (fun k hk hs => by have := h.gb k hk; have := hbase k hs; omega), h.gb, ⟨kn, n1.keep hc (hmap _ _ n1), n2⟩, ⟨kl, l1.keep hc (hmap _ _ l1), l2⟩, ⟨ko, o1.keep hc (hmap _ _ o1), o2⟩, hc.own h.path (hint h.path),
  ⟨by simpa using ho, by simp [v2], fun j hj hj' => ?_, fun v hv k hk => ?_, ?_⟩, h.ne, h.bs, Nat.le_trans h.sz hc.size, hc.own h.lit (hint h.lit), h.litp⟩, Kp.of hc hbase fun i hi cur hcur => ?_⟩
 · by_cases hlt : j < vs.length
   · have e1 : (vs ++ [u])[j] = vs[j] := List.getElem_append_left hlt
     have e2 : (s.cls ++ [cl])[j] = s.cls[j]'(by omega) := List.getElem_append_left (by omega)
     rw [e1, e2]
     exact hc.own (v3 j hlt (by omega)) (hint (v3 j hlt (by omega)))
   · have e : j = vs.length := by simp at hj; omega
     subst e
     rw [List.getElem_append_right (Nat.le_refl _), List.getElem_append_right (by omega)]
     simp only [Nat.sub_self, List.getElem_cons_zero, v2]
     exact hc.own hu (hint hu)
 · rcases List.mem_append.1 hv with hv | hv
   · exact v4 v hv k hk
   · simp at hv; subst hv; exact hpu k hk
 · rw [List.pairwise_append]
   refine ⟨v5, by simp, fun a ha b hb2 k hk => ?_⟩
   simp at hb2; subst hb2
   exact hvu a ha k hk
 · rcases hS i hi with rfl | h1
   · have := h.fb
     unfold Blk at this
     rw [this] at hcur
     injection hcur with hcur
     injection hcur with _ hcur
     exact absurd hcur (by decide)
   · exact int_ne_step (by decide) v1 h1 cur hcur
end
end Go.Proofs.YtjecjaihficcdaaGreat
namespace Go.Proofs.YtjecjaihficcdaaGreat
open Go.RowKit
set_option maxRecDepth 100000 in
set_option maxHeartbeats 4000000 in
theorem enter_any (base : Nat) (f : List (List Int)) (B : FB) (w : World) (pv cv : Value) (vs : List Value) (s : Tj) (h : TW base f B w pv cv vs s) (x : Int) (h0 : s.num x = 0) (hcn : s.cnt ≤ 1000000) (hpl : s.path.length ≤ 1000000) :
 Calls Tryz.prog 98 #[.pointer (some ⟨B.F, 0, none⟩), .int .i64 x] w fun e w' => ∃ pv', e = .returned (.tuple #[]) ∧ TW base f B w' pv' cv vs (tEnter s x) ∧ Kp base w w' := by
 have H := Lib.hid h
 have c1 := h.fb.cell 1
 have c2 := h.fb.cell 2
 have c3 := h.fb.cell 3
 simp only [List.getElem?_cons_zero, List.getElem?_cons_succ] at c1 c2 c3
 obtain ⟨kn, n1, n2, n3⟩ := h.num
 obtain ⟨kl, l1, l2, l3⟩ := h.low
 obtain ⟨ko, o1, o2, o3⟩ := h.on
 obtain ⟨d1, d2, d3⟩ := h.ne
 have hnF := map_ne_blk n1 h.fb
 have hlF := map_ne_blk l1 h.fb
 have hoF := map_ne_blk o1 h.fb
 have hnx : lkp kn x = none := by rw [n3, if_pos h0]
 have hlen := (n1.ext (Ext.drew w)).len (P := Tryz.prog) Tryz.underlying77 3
 rw [n2] at hlen
 obtain ⟨w1, hup1, m1, hc1, hs1⟩ := (n1.ext (Ext.drew w)).update (P := Tryz.prog) fam_kvI Tryz.underlying77 x (.int .i64 ((s.cnt : Int) + 1))
 have hcw1 : Chg (fun k => k = B.gn) w w1 := ((Ext.drew w).chg _).trans hc1
 have l1' : MapK kvI w1 B.gl kl := l1.keep hcw1 (fun e => d1 e.symm)
 have o1' : MapK kvI w1 B.go ko := o1.keep hcw1 (fun e => d2 e.symm)
 obtain ⟨st2, w2, he2, m2, hc2, hst2⟩ := (l1'.ext (Ext.drew w1)).entry_new (P := Tryz.prog) fam_kvI Tryz.underlying77 (zeroValue_int _) x (l3 x h0)
 have hcw2 : Chg (fun k => k = B.gl) w1 w2 := ((Ext.drew w1).chg _).trans hc2
 obtain ⟨w3, hs3, m3, hc3⟩ := hst2 w2 (.int .i64 ((s.cnt : Int) + 1)) rfl
 have m1' : MapK kvI w2 B.gn _ := m1.keep hcw2 (fun e => d1 e)
 have hlk1 := (m1.ext (Ext.drew w1)).lookup (P := Tryz.prog) fam_kvI Tryz.underlying77 (zeroValue_int _) x
 have hlk2 := m1'.lookup (P := Tryz.prog) fam_kvI Tryz.underlying77 (zeroValue_int _) x
 rw [lkp_kput, if_pos rfl] at hlk1 hlk2
 simp only [Option.getD_some] at hlk1 hlk2
 have hcw3 : Chg (fun k => k = B.gl) w1 w3 := hcw2.trans hc3
 have o3' : MapK kvI w3 B.go ko := o1'.keep hcw3 (fun e => d3 e.symm)
 obtain ⟨st4, w4, he4, m4, hc4, hst4⟩ := o3'.entry_new (P := Tryz.prog) fam_kvI Tryz.underlying78 (zeroValue_b _) x (o3 x h0)
 obtain ⟨w5, hs5, m5, hc5⟩ := hst4 w4 (.bool true) rfl
 have hcw5 : Chg (fun k => k = B.go) w3 w5 := hc4.trans hc5
 have hcA : Chg (fun i => i = B.gn ∨ i = B.gl ∨ i = B.go) w w5 := ((hcw1.mono fun i hi => .inl hi).trans (hcw3.mono fun i hi => .inr (.inl hi))).trans (hcw5.mono fun i hi => .inr (.inr hi))
 have c1a := hcw1.cell c1 hnF
 have c2a := hcw1.cell c2 hnF
 have c3a := hcw1.cell c3 hnF
 have c1b := hcw2.cell c1a hlF
 have c2b := hcw2.cell c2a hlF
 have c3b := hcw2.cell c3a hlF
 have c1c := hc3.cell c1b hlF
 have c2c := hc3.cell c2b hlF
 have c3c := hc3.cell c3b hlF
 have c1d := hc4.cell c1c hoF
 have c2d := hc4.cell c2c hoF
 have c3d := hc4.cell c3c hoF
 have c1e := hc5.cell c1d hoF
 have c2e := hc5.cell c2d hoF
 have c3e := hc5.cell c3d hoF
 unfold kvI at hup1 he2 he4 hlk1 hlk2
 obtain ⟨T5, K5⟩ := h.upd (s' := { tEnter s x with path := s.path }) hcA rfl rfl
  ⟨_, (m1'.keep hc3 (fun e => d1 e)).keep hcw5 (fun e => d2 e), by
   rw [kput_new (lkp_none.1 hnx), List.length_append, n2]; rfl, fun n => by
   rw [lkp_kput]
   show _ = if fset s.num x (s.cnt + 1) n = 0 then none else some (Value.int .i64 (fset s.num x (s.cnt + 1) n))
   by_cases e : n = x
   · subst e; rw [if_pos rfl, fset_same, if_neg (by omega)]
   · rw [if_neg e, fset_ne _ _ e]; exact n3 n⟩
  ⟨_, m3.keep hcw5 (fun e => d3 e), fun n => by
   rw [lkp_kput]
   show _ = Value.int .i64 (fset s.low x (s.cnt + 1) n)
   by_cases e : n = x
   · subst e; rw [if_pos rfl, fset_same]; rfl
   · rw [if_neg e, fset_ne _ _ e]; exact l2 n, fun n hn => by
   have hn' : fset s.num x (s.cnt + 1) n = 0 := hn
   rw [lkp_kput]
   by_cases e : n = x
   · subst e; rw [fset_same] at hn'; omega
   · rw [if_neg e]; rw [fset_ne _ _ e] at hn'; exact l3 n hn'⟩
  ⟨_, m5, fun n => by
   rw [lkp_kput]
   show _ = Value.bool (fset s.on x true n)
   by_cases e : n = x
   · subst e; rw [if_pos rfl, fset_same]; rfl
   · rw [if_neg e, fset_ne _ _ e]; exact o2 n, fun n hn => by
   have hn' : fset s.num x (s.cnt + 1) n = 0 := hn
   rw [lkp_kput]
   by_cases e : n = x
   · subst e; rw [fset_same] at hn'; omega
   · rw [if_neg e]; rw [fset_ne _ _ e] at hn'; exact o3 n hn'⟩
 have HT5 := Lib.hid T5
 have HK5 := Lib.hid K5
 have c4e := T5.fb.cell 4
 have f4e := T5.fb.free 4
 simp only [List.getElem?_cons_zero, List.getElem?_cons_succ] at c4e
 obtain ⟨A, c, hpve, q1, q2, -⟩ := OwnI.reads T5.path
 have HPV := Lib.hid hpve
 rw [hpve] at c4e
 clear h n1 n2 n3 l1 l2 l3 o1 o2 o3 d1 d2 d3 hnF hlF hoF m1 hc1 hs1 hcw1 l1' o1' m2 hc2 hst2 hcw2 m3 hc3 m1' hcw3 o3' m4 hc4 hst4 m5 hc5 hcw5 hcA T5 K5 hpve H h0 hnx
 have hwr : IntKind.i64.wrap ((s.cnt : Int) + 1) = (s.cnt : Int) + 1 := IntWalk.i64_in _ (by omega)
 go_enter Tryz.func98, Tryz.ntmps98
 go_wp2
 go_still_tail 11, (by kernel_rfl)
 go_wp2
 go_region_held3 (fun w' => w'.cell? ⟨B.F, 1, none⟩ = some (.map (some B.gn)) ∧ w'.cell? ⟨B.F, 2, none⟩ = some (.map (some B.gl)) ∧ w'.cell? ⟨B.F, 3, none⟩ = some (.map (some B.go))) (first | exact ⟨c1a, c2a, c3a⟩ | exact ⟨c1b, c2b, c3b⟩ | exact ⟨c1c, c2c, c3c⟩ | exact ⟨c1d, c2d, c3d⟩ | exact ⟨c1e, c2e, c3e⟩ | go_keep) (fail)
 all_goals
  go_wp2_with (at_builtin
               refine app_1l rfl (.tmp 39) (.tmp 41) rfl (base := base) (v := .slice A s.path.length c) (xs := s.path) (y := x) rfl rfl (by rw [← HPV.out]; exact HT5.out.path) (by omega) HT5.out.sz ?_
               intro g cap w6 hown hch hat hlt
               have hch2 : Chg (fun i => some i = pv.ownBlock) w5 w6 := (by rw [HPV.out]; exact hch)
               have hb6 := hch2.blk HT5.out.fb (fun h => fin_ne_own (by decide) HT5.out.fb HT5.out.path h.symm rfl)
               have b64 := hb6.cell 4
               have f64 := hb6.free 4
               have HB6 := Lib.hid hb6
               have HCH := Lib.hid hch2
               have HOW := Lib.hid hown
               have HAT : Hid (pv.ownBlock = some g ∨ g = w5.heap.size + 1) := Lib.hid (by rw [HPV.out]; exact hat)
               clear hown hch hch2 hat hlt hb6)
  have hset := Chg.set w6 B.F 4 (.slice (some ⟨g, 0, none⟩) (s.path.length + 1) cap)
  have hfin := HT5.out.newPath (S := fun i => i = B.F ∨ pv.ownBlock = some i) ((HCH.out.mono fun i hi => .inr hi.symm).trans (hset.mono fun i hi => .inl hi)) (fun _ h => h) (.slice (some ⟨g, 0, none⟩) (s.path.length + 1) cap) (s.path ++ [x])
   (hset.own HOW.out (fun b hb e => fin_ne_own (by decide) HB6.out HOW.out hb e)) (fun k hk => by
    injection hk with hk
    have hk' : g = k := hk
    subst hk'
    exact HAT.out.imp id (fun h => by omega)) (HB6.out.set 4 _)
  go_end0
  exact ⟨_, rfl, hfin.1, HK5.out.trans hfin.2⟩
end Go.Proofs.YtjecjaihficcdaaGreat
