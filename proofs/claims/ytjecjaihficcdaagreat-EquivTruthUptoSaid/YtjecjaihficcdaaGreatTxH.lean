/- Walks and plain laws that this claim uses. -/
import Derived.Test.YtjecjaihficcdaaGreatTxG
import Derived.Test.YtjecjaihficcdaaGreatTxF
import Derived.BigRegion
import Derived.StillTailTactics
import Derived.Test.YtjecjaihficcdaaGreatTxC
namespace Go.Proofs.YtjecjaihficcdaaGreat
open Go.RowKit
def OwnCl (w : World) (base : Nat) (pv cv : Value) (vs : List Value) (cls : List (List Int)) : Prop :=
 w.ownsRow base 24 1 cv vs.length vs ∧ vs.length = cls.length ∧ (∀ j (h : j < vs.length) (h' : j < cls.length), OwnI w base vs[j] cls[j]) ∧
  (∀ v ∈ vs, ∀ k, v.ownBlock = some k → pv.ownBlock ≠ some k) ∧ vs.Pairwise fun a b => ∀ k, a.ownBlock = some k → b.ownBlock ≠ some k
structure FB where
 F : Nat
 g : Nat
 gn : Nat
 gl : Nat
 go : Nat
 ks : List (Int × Value)
 lv : Value
 lx : List Int
structure TW (base : Nat) (f : List (List Int)) (B : FB) (w : World) (pv cv : Value) (vs : List Value) (s : Tj) : Prop where
 fb : Blk w B.F 80 [.map (some B.g), .map (some B.gn), .map (some B.gl), .map (some B.go), pv, cv]
 gr : GR w B.g B.ks f
 gb : ∀ k, GB B.g B.ks k → k < base
 num : ∃ kn, MapK kvI w B.gn kn ∧ kn.length = s.cnt ∧ ∀ n, lkp kn n = if s.num n = 0 then none else some (.int .i64 (s.num n))
 low : ∃ kl, MapK kvI w B.gl kl ∧ (∀ n, (lkp kl n).getD (.int .i64 0) = .int .i64 (s.low n)) ∧ ∀ n, s.num n = 0 → lkp kl n = none
 on : ∃ ko, MapK kvI w B.go ko ∧ (∀ n, (lkp ko n).getD (.bool false) = .bool (s.on n)) ∧ ∀ n, s.num n = 0 → lkp ko n = none
 path : OwnI w base pv s.path
 cls : OwnCl w base pv cv vs s.cls
 ne : B.gn ≠ B.gl ∧ B.gn ≠ B.go ∧ B.gl ≠ B.go
 bs : base ≤ B.F ∧ base ≤ B.gn ∧ base ≤ B.gl ∧ base ≤ B.go
 sz : base ≤ w.heap.size
 lit : OwnI w base B.lv B.lx
 litp : ∀ k, B.lv.ownBlock = some k → pv.ownBlock ≠ some k
structure Kp (base : Nat) (w w' : World) : Prop where
 chg : Chg (fun i => base ≤ i) w w'
 row : ∀ (b : Nat) (cur : Array Value), w.heap[b]? = some (.cells cur 113 (0, 0)) → w'.heap[b]? = w.heap[b]?
theorem Kp.refl (base : Nat) (w : World) : Kp base w w := ⟨Chg.refl _ _, fun _ _ _ => rfl⟩
theorem Kp.trans {base : Nat} {a b c : World} (h : Kp base a b) (k : Kp base b c) : Kp base a c :=
 ⟨h.chg.trans k.chg, fun i cur hi => (k.row i cur ((h.row i cur hi).trans hi)).trans (h.row i cur hi)⟩
theorem Kp.ext {base : Nat} {w w' : World} (h : Ext w w') : Kp base w w' := ⟨h.chg _, fun i _ hi => h.block i (Array.getElem?_eq_some_iff.1 hi).1⟩
theorem Kp.own {base : Nat} {w w' : World} (h : Kp base w w') {n : Nat} {v : Value} {xs : List Value} (ho : w.ownsRow base 113 2 v n xs) : w'.ownsRow base 113 2 v n xs := by
 obtain ⟨h1, h2 | ⟨g, cap, cur, rfl, hb, hg, r⟩⟩ := ho
 · exact ⟨h1, .inl h2⟩
 · exact ⟨h1, .inr ⟨g, cap, cur, rfl, hb, (h.row g cur hg).trans hg, r⟩⟩
theorem Kp.of {base : Nat} {w w' : World} {S : Nat → Prop} (h : Chg S w w') (h1 : ∀ i, S i → base ≤ i) (h2 : ∀ i, S i → ∀ cur : Array Value, w.heap[i]? ≠ some (.cells cur 113 (0, 0))) : Kp base w w' :=
 ⟨h.mono h1, fun b cur hb => h.block b (Array.getElem?_eq_some_iff.1 hb).1 fun hs => h2 b hs cur hb⟩
theorem int_ne_step {w : World} {base n k : Nat} {v : Value} {xs : List Value} {e : TypeId} (he : e ≠ 113) (h : w.ownsRow base e 1 v n xs) (hk : v.ownBlock = some k) : ∀ cur : Array Value, w.heap[k]? ≠ some (.cells cur 113 (0, 0)) := fun cur hc => by
 obtain ⟨-, -, cur', h1⟩ := own_typed h hk
 rw [h1] at hc
 injection hc with hc
 injection hc with _ hc
 exact he hc
theorem map_ne_step {w : World} {g : Nat} {ks : List (Int × Value)} (h : MapK kvI w g ks) : ∀ cur : Array Value, w.heap[g]? ≠ some (.cells cur 113 (0, 0)) := fun cur hc => by
 obtain ⟨es, clock, h1, -⟩ := h
 rw [h1] at hc; cases hc
theorem map_ne_blk {w : World} {g b : Nat} {e : TypeId} {cur : List Value} {ks : List (Int × Value)} (h : MapK kvI w g ks) (hb : Blk w b e cur) : b ≠ g := fun e1 => by
 subst e1
 obtain ⟨es, clock, h1, -⟩ := h
 unfold Blk at hb
 rw [h1] at hb; cases hb
section
variable {base : Nat} {f : List (List Int)} {B : FB} {w w' : World} {pv cv : Value} {vs : List Value} {s s' : Tj}
theorem OwnCl.keep {S : Nat → Prop} {cls : List (List Int)} (h : OwnCl w base pv cv vs cls) (hc : Chg S w w') (hS : ∀ i, S i → ∀ cur : Array Value, w.heap[i]? = some (.cells cur 3 (0, 0)) ∨ w.heap[i]? = some (.cells cur 24 (0, 0)) → False) : OwnCl w' base pv cv vs cls := by
 obtain ⟨h1, h2, h3, h4, h5⟩ := h
 refine ⟨hc.own h1 (fun k hk hs => ?_), h2, fun j hj hj' => hc.own (h3 j hj hj') (fun k hk hs => ?_), h4, h5⟩
 · obtain ⟨-, -, cur, hcur⟩ := own_typed h1 hk
   exact hS k hs cur (.inr hcur)
 · obtain ⟨-, -, cur, hcur⟩ := own_typed (h3 j hj hj') hk
   exact hS k hs cur (.inl hcur)
theorem TW.ext (h : TW base f B w pv cv vs s) (k : Ext w w') : TW base f B w' pv cv vs s := by
 obtain ⟨kn, n1, n2⟩ := h.num
 obtain ⟨kl, l1, l2⟩ := h.low
 obtain ⟨ko, o1, o2⟩ := h.on
 exact ⟨(k.chg (fun _ => False)).blk h.fb id, h.gr.ext k, h.gb, ⟨kn, n1.ext k, n2⟩, ⟨kl, l1.ext k, l2⟩, ⟨ko, o1.ext k, o2⟩, own_ext h.path k, h.cls.keep (k.chg (fun _ => False)) (fun _ h => h.elim), h.ne, h.bs, Nat.le_trans h.sz k.size, own_ext h.lit k, h.litp⟩
theorem TW.upd (h : TW base f B w pv cv vs s) (hc : Chg (fun i => i = B.gn ∨ i = B.gl ∨ i = B.go) w w') (hp : s'.path = s.path) (hcl : s'.cls = s.cls)
 (hn : ∃ kn, MapK kvI w' B.gn kn ∧ kn.length = s'.cnt ∧ ∀ n, lkp kn n = if s'.num n = 0 then none else some (.int .i64 (s'.num n)))
 (hl : ∃ kl, MapK kvI w' B.gl kl ∧ (∀ n, (lkp kl n).getD (.int .i64 0) = .int .i64 (s'.low n)) ∧ ∀ n, s'.num n = 0 → lkp kl n = none)
 (ho : ∃ ko, MapK kvI w' B.go ko ∧ (∀ n, (lkp ko n).getD (.bool false) = .bool (s'.on n)) ∧ ∀ n, s'.num n = 0 → lkp ko n = none) : TW base f B w' pv cv vs s' ∧ Kp base w w' := by
 obtain ⟨kn, n1, n2⟩ := h.num
 obtain ⟨kl, l1, l2⟩ := h.low
 obtain ⟨ko, o1, o2⟩ := h.on
 obtain ⟨b1, b2, b3, b4⟩ := h.bs
 have hmap : ∀ i, (i = B.gn ∨ i = B.gl ∨ i = B.go) → ∃ es clock, w.heap[i]? = some (.map es clock) := fun i hi => by
  rcases hi with rfl | rfl | rfl
  · obtain ⟨es, c, h1, -⟩ := n1; exact ⟨es, c, h1⟩
  · obtain ⟨es, c, h1, -⟩ := l1; exact ⟨es, c, h1⟩
  · obtain ⟨es, c, h1, -⟩ := o1; exact ⟨es, c, h1⟩
 have hbase : ∀ i, (i = B.gn ∨ i = B.gl ∨ i = B.go) → base ≤ i := fun i hi => by rcases hi with rfl | rfl | rfl <;> assumption
 have hcells : ∀ i, (i = B.gn ∨ i = B.gl ∨ i = B.go) → ∀ (cur : Array Value) (e : TypeId), w.heap[i]? ≠ some (.cells cur e (0, 0)) := fun i hi cur e hc2 => by
  obtain ⟨es, c, h1⟩ := hmap i hi
  rw [h1] at hc2; cases hc2
 refine ⟨⟨hc.blk h.fb (fun hs => hcells _ hs _ _ h.fb), h.gr.chg hc (fun k hk hs => by have := h.gb k hk; have := hbase k hs; omega), h.gb, hn, hl, ho, ?_, ?_, h.ne, h.bs, Nat.le_trans h.sz hc.size, hc.own h.lit (fun k hk hs => by obtain ⟨-, -, cur, h1⟩ := own_typed h.lit hk; exact hcells k hs _ _ h1), h.litp⟩,
  Kp.of hc hbase (fun i hi cur => hcells i hi cur _)⟩
 · rw [hp]
   exact hc.own h.path (fun k hk hs => by obtain ⟨-, -, cur, h1⟩ := own_typed h.path hk; exact hcells k hs _ _ h1)
 · rw [hcl]
   exact h.cls.keep hc (fun i hi cur hh => hh.elim (hcells i hi _ _) (hcells i hi _ _))
theorem fin_ne_own {w : World} {F n k : Nat} {cur : List Value} {v : Value} {xs : List Value} {e : TypeId} {sz : Nat} (he : e ≠ 80) (hb : Blk w F 80 cur) (h : w.ownsRow base e sz v n xs) (hk : v.ownBlock = some k) : k ≠ F := fun e1 => by
 subst e1
 obtain ⟨-, -, cur', h1⟩ := own_typed h hk
 unfold Blk at hb
 rw [hb] at h1
 injection h1 with h1
 injection h1 with _ h1
 exact he h1.symm
theorem TW.newPath {S : Nat → Prop} (h : TW base f B w pv cv vs s) (hc : Chg S w w') (hS : ∀ i, S i → i = B.F ∨ pv.ownBlock = some i) (pv' : Value) (path' : List Int) (ho : OwnI w' base pv' path')
 (hl : ∀ k, pv'.ownBlock = some k → pv.ownBlock = some k ∨ w.heap.size ≤ k) (hb : Blk w' B.F 80 [.map (some B.g), .map (some B.gn), .map (some B.gl), .map (some B.go), pv', cv]) :
 TW base f B w' pv' cv vs { s with path := path' } ∧ Kp base w w' := by
 obtain ⟨kn, n1, n2⟩ := h.num
 obtain ⟨kl, l1, l2⟩ := h.low
 obtain ⟨ko, o1, o2⟩ := h.on
 obtain ⟨b1, b2, b3, b4⟩ := h.bs
 have hmap : ∀ g ks, MapK kvI w g ks → ¬ S g := fun g ks hm hs => by
  rcases hS g hs with rfl | h1
  · exact map_ne_blk hm h.fb rfl
  · exact row_ne_map h.path hm g h1 rfl
 have hbase : ∀ i, S i → base ≤ i := fun i hs => by
  rcases hS i hs with rfl | h1
  · exact b1
  · exact (own_typed h.path h1).1
 obtain ⟨v1, v2, v3, v4, v5⟩ := h.cls
 have hrow : ∀ v ∈ vs, ∀ k, v.ownBlock = some k → ¬ S k := fun v hv k hk hs => by
  rcases hS k hs with h1 | h1
  · obtain ⟨j, hj, rfl⟩ := List.getElem_of_mem hv
    exact fin_ne_own (by decide) h.fb (v3 j hj (by omega)) hk h1
  · exact v4 v hv k hk h1
 refine ⟨⟨hb, h.gr.chg hc (fun k hk hs => by have := h.gb k hk; have := hbase k hs; omega), h.gb, ⟨kn, n1.keep hc (hmap _ _ n1), n2⟩, ⟨kl, l1.keep hc (hmap _ _ l1), l2⟩, ⟨ko, o1.keep hc (hmap _ _ o1), o2⟩, ho,
  ⟨hc.own v1 (fun k hk hs => ?_), v2, fun j hj hj' => hc.own (v3 j hj hj') (hrow _ (List.getElem_mem hj)), fun v hv k hk hp => ?_, v5⟩, h.ne, h.bs, Nat.le_trans h.sz hc.size, hc.own h.lit (fun k hk hs => ?_), fun k hk hp => ?_⟩, Kp.of hc hbase fun i hi cur hcur => ?_⟩
 · rcases hS k hs with h1 | h1
   · exact fin_ne_own (by decide) h.fb v1 hk h1
   · obtain ⟨-, -, c1, e1⟩ := own_typed v1 hk
     obtain ⟨-, -, c2, e2⟩ := own_typed h.path h1
     rw [e1] at e2
     injection e2 with e2
     injection e2 with _ e2
     exact absurd e2 (by decide)
 · rcases hl k hp with h1 | h1
   · exact v4 v hv k hk h1
   · obtain ⟨j, hj, rfl⟩ := List.getElem_of_mem hv
     have := (own_typed (v3 j hj (by omega)) hk).2.1
     omega
 · rcases hS k hs with h1 | h1
   · exact fin_ne_own (by decide) h.fb h.lit hk h1
   · exact h.litp k hk h1
 · rcases hl k hp with h1 | h1
   · exact h.litp k hk h1
   · have := (own_typed h.lit hk).2.1
     omega
 · rcases hS i hi with rfl | h1
   · have := h.fb
     unfold Blk at this
     rw [this] at hcur
     injection hcur with hcur
     injection hcur with _ hcur
     exact absurd hcur (by decide)
   · exact int_ne_step (by decide) h.path h1 cur hcur
theorem TW.newCls {S : Nat → Prop} (h : TW base f B w pv cv vs s) (hc : Chg S w w') (hS : ∀ i, S i → i = B.F ∨ cv.ownBlock = some i) (cv' u : Value) (cl : List Int) (hu : OwnI w base u cl)
 (hpu : ∀ k, u.ownBlock = some k → pv.ownBlock ≠ some k) (hvu : ∀ v ∈ vs, ∀ k, v.ownBlock = some k → u.ownBlock ≠ some k) (ho : w'.ownsRow base 24 1 cv' (vs.length + 1) (vs ++ [u]))
 (hb : Blk w' B.F 80 [.map (some B.g), .map (some B.gn), .map (some B.gl), .map (some B.go), pv, cv']) :
 TW base f B w' pv cv' (vs ++ [u]) { s with cls := s.cls ++ [cl] } ∧ Kp base w w' := by
 obtain ⟨kn, n1, n2⟩ := h.num
 obtain ⟨kl, l1, l2⟩ := h.low
 obtain ⟨ko, o1, o2⟩ := h.on
 obtain ⟨b1, b2, b3, b4⟩ := h.bs
 obtain ⟨v1, v2, v3, v4, v5⟩ := h.cls
 have hmap : ∀ g ks, MapK kvI w g ks → ¬ S g := fun g ks hm hs => by
  rcases hS g hs with rfl | h1
  · exact map_ne_blk hm h.fb rfl
  · exact row_ne_map v1 hm g h1 rfl
 have hbase : ∀ i, S i → base ≤ i := fun i hs => by
  rcases hS i hs with rfl | h1
  · exact b1
  · exact (own_typed v1 h1).1
 have hint : ∀ {v : Value} {xs : List Int}, OwnI w base v xs → ∀ k, v.ownBlock = some k → ¬ S k := fun hv k hk hs => by
  rcases hS k hs with h1 | h1
  · exact fin_ne_own (by decide) h.fb hv hk h1
  · obtain ⟨-, -, c1, e1⟩ := own_typed v1 h1
    obtain ⟨-, -, c2, e2⟩ := own_typed hv hk
    rw [e1] at e2
    injection e2 with e2
    injection e2 with _ e2
    exact absurd e2 (by decide)
 refine ⟨⟨hb, h.gr.chg hc (fun k hk hs => by have := h.gb k hk; have := hbase k hs; omega), h.gb, ⟨kn, n1.keep hc (hmap _ _ n1), n2⟩, ⟨kl, l1.keep hc (hmap _ _ l1), l2⟩, ⟨ko, o1.keep hc (hmap _ _ o1), o2⟩, hc.own h.path (hint h.path),
  ⟨by simpa using ho, by simp [v2], fun j hj hj' => ?_, fun v hv k hk => ?_, ?_⟩, h.ne, h.bs, Nat.le_trans h.sz hc.size, hc.own h.lit (hint h.lit), h.litp⟩, Kp.of hc hbase fun i hi cur hcur => ?_⟩
 · by_cases hlt : j < vs.length
   · have e1 : (vs ++ [u])[j] = vs[j] := List.getElem_append_left hlt
     have e2 : (s.cls ++ [cl])[j] = s.cls[j]'(by omega) := List.getElem_append_left (by omega)
     rw [e1, e2]
     exact hc.own (v3 j hlt (by omega)) (hint (v3 j hlt (by omega)))
   · have e : j = vs.length := by simp at hj; omega
     subst e
     rw [List.getElem_append_right (Nat.le_refl _), List.getElem_append_right (by omega)]
     simp only [Nat.sub_self, List.getElem_cons_zero, v2]
     exact hc.own hu (hint hu)
 · rcases List.mem_append.1 hv with hv | hv
   · exact v4 v hv k hk
   · simp at hv; subst hv; exact hpu k hk
 · rw [List.pairwise_append]
   refine ⟨v5, by simp, fun a ha b hb2 k hk => ?_⟩
   simp at hb2; subst hb2
   exact hvu a ha k hk
 · rcases hS i hi with rfl | h1
   · have := h.fb
     unfold Blk at this
     rw [this] at hcur
     injection hcur with hcur
     injection hcur with _ hcur
     exact absurd hcur (by decide)
   · exact int_ne_step (by decide) v1 h1 cur hcur
end
end Go.Proofs.YtjecjaihficcdaaGreat
namespace Go.Proofs.YtjecjaihficcdaaGreat
open Go.RowKit
set_option maxRecDepth 100000 in
set_option maxHeartbeats 4000000 in
theorem enter_any (base : Nat) (f : List (List Int)) (B : FB) (w : World) (pv cv : Value) (vs : List Value) (s : Tj) (h : TW base f B w pv cv vs s) (x : Int) (h0 : s.num x = 0) (hcn : s.cnt ≤ 1000000) (hpl : s.path.length ≤ 1000000) :
 Calls Tryz.prog 98 #[.pointer (some ⟨B.F, 0, none⟩), .int .i64 x] w fun e w' => ∃ pv', e = .returned (.tuple #[]) ∧ TW base f B w' pv' cv vs (tEnter s x) ∧ Kp base w w' := by
 have H := Lib.hid h
 have c1 := h.fb.cell 1
 have c2 := h.fb.cell 2
 have c3 := h.fb.cell 3
 simp only [List.getElem?_cons_zero, List.getElem?_cons_succ] at c1 c2 c3
 obtain ⟨kn, n1, n2, n3⟩ := h.num
 obtain ⟨kl, l1, l2, l3⟩ := h.low
 obtain ⟨ko, o1, o2, o3⟩ := h.on
 obtain ⟨d1, d2, d3⟩ := h.ne
 have hnF := map_ne_blk n1 h.fb
 have hlF := map_ne_blk l1 h.fb
 have hoF := map_ne_blk o1 h.fb
 have hnx : lkp kn x = none := by rw [n3, if_pos h0]
 have hlen := (n1.ext (Ext.drew w)).len (P := Tryz.prog) Tryz.underlying77 3
 rw [n2] at hlen
 obtain ⟨w1, hup1, m1, hc1, hs1⟩ := (n1.ext (Ext.drew w)).update (P := Tryz.prog) fam_kvI Tryz.underlying77 x (.int .i64 ((s.cnt : Int) + 1))
 have hcw1 : Chg (fun k => k = B.gn) w w1 := ((Ext.drew w).chg _).trans hc1
 have l1' : MapK kvI w1 B.gl kl := l1.keep hcw1 (fun e => d1 e.symm)
 have o1' : MapK kvI w1 B.go ko := o1.keep hcw1 (fun e => d2 e.symm)
 obtain ⟨st2, w2, he2, m2, hc2, hst2⟩ := (l1'.ext (Ext.drew w1)).entry_new (P := Tryz.prog) fam_kvI Tryz.underlying77 (zeroValue_int _) x (l3 x h0)
 have hcw2 : Chg (fun k => k = B.gl) w1 w2 := ((Ext.drew w1).chg _).trans hc2
 obtain ⟨w3, hs3, m3, hc3⟩ := hst2 w2 (.int .i64 ((s.cnt : Int) + 1)) rfl
 have m1' : MapK kvI w2 B.gn _ := m1.keep hcw2 (fun e => d1 e)
 have hlk1 := (m1.ext (Ext.drew w1)).lookup (P := Tryz.prog) fam_kvI Tryz.underlying77 (zeroValue_int _) x
 have hlk2 := m1'.lookup (P := Tryz.prog) fam_kvI Tryz.underlying77 (zeroValue_int _) x
 rw [lkp_kput, if_pos rfl] at hlk1 hlk2
 simp only [Option.getD_some] at hlk1 hlk2
 have hcw3 : Chg (fun k => k = B.gl) w1 w3 := hcw2.trans hc3
 have o3' : MapK kvI w3 B.go ko := o1'.keep hcw3 (fun e => d3 e.symm)
 obtain ⟨st4, w4, he4, m4, hc4, hst4⟩ := o3'.entry_new (P := Tryz.prog) fam_kvI Tryz.underlying78 (zeroValue_b _) x (o3 x h0)
 obtain ⟨w5, hs5, m5, hc5⟩ := hst4 w4 (.bool true) rfl
 have hcw5 : Chg (fun k => k = B.go) w3 w5 := hc4.trans hc5
 have hcA : Chg (fun i => i = B.gn ∨ i = B.gl ∨ i = B.go) w w5 := ((hcw1.mono fun i hi => .inl hi).trans (hcw3.mono fun i hi => .inr (.inl hi))).trans (hcw5.mono fun i hi => .inr (.inr hi))
 have c1a := hcw1.cell c1 hnF
 have c2a := hcw1.cell c2 hnF
 have c3a := hcw1.cell c3 hnF
 have c1b := hcw2.cell c1a hlF
 have c2b := hcw2.cell c2a hlF
 have c3b := hcw2.cell c3a hlF
 have c1c := hc3.cell c1b hlF
 have c2c := hc3.cell c2b hlF
 have c3c := hc3.cell c3b hlF
 have c1d := hc4.cell c1c hoF
 have c2d := hc4.cell c2c hoF
 have c3d := hc4.cell c3c hoF
 have c1e := hc5.cell c1d hoF
 have c2e := hc5.cell c2d hoF
 have c3e := hc5.cell c3d hoF
 unfold kvI at hup1 he2 he4 hlk1 hlk2
 obtain ⟨T5, K5⟩ := h.upd (s' := { tEnter s x with path := s.path }) hcA rfl rfl
  ⟨_, (m1'.keep hc3 (fun e => d1 e)).keep hcw5 (fun e => d2 e), by
   rw [kput_new (lkp_none.1 hnx), List.length_append, n2]; rfl, fun n => by
   rw [lkp_kput]
   show _ = if fset s.num x (s.cnt + 1) n = 0 then none else some (Value.int .i64 (fset s.num x (s.cnt + 1) n))
   by_cases e : n = x
   · subst e; rw [if_pos rfl, fset_same, if_neg (by omega)]
   · rw [if_neg e, fset_ne _ _ e]; exact n3 n⟩
  ⟨_, m3.keep hcw5 (fun e => d3 e), fun n => by
   rw [lkp_kput]
   show _ = Value.int .i64 (fset s.low x (s.cnt + 1) n)
   by_cases e : n = x
   · subst e; rw [if_pos rfl, fset_same]; rfl
   · rw [if_neg e, fset_ne _ _ e]; exact l2 n, fun n hn => by
   have hn' : fset s.num x (s.cnt + 1) n = 0 := hn
   rw [lkp_kput]
   by_cases e : n = x
   · subst e; rw [fset_same] at hn'; omega
   · rw [if_neg e]; rw [fset_ne _ _ e] at hn'; exact l3 n hn'⟩
  ⟨_, m5, fun n => by
   rw [lkp_kput]
   show _ = Value.bool (fset s.on x true n)
   by_cases e : n = x
   · subst e; rw [if_pos rfl, fset_same]; rfl
   · rw [if_neg e, fset_ne _ _ e]; exact o2 n, fun n hn => by
   have hn' : fset s.num x (s.cnt + 1) n = 0 := hn
   rw [lkp_kput]
   by_cases e : n = x
   · subst e; rw [fset_same] at hn'; omega
   · rw [if_neg e]; rw [fset_ne _ _ e] at hn'; exact o3 n hn'⟩
 have HT5 := Lib.hid T5
 have HK5 := Lib.hid K5
 have c4e := T5.fb.cell 4
 have f4e := T5.fb.free 4
 simp only [List.getElem?_cons_zero, List.getElem?_cons_succ] at c4e
 obtain ⟨A, c, hpve, q1, q2, -⟩ := OwnI.reads T5.path
 have HPV := Lib.hid hpve
 rw [hpve] at c4e
 clear h n1 n2 n3 l1 l2 l3 o1 o2 o3 d1 d2 d3 hnF hlF hoF m1 hc1 hs1 hcw1 l1' o1' m2 hc2 hst2 hcw2 m3 hc3 m1' hcw3 o3' m4 hc4 hst4 m5 hc5 hcw5 hcA T5 K5 hpve H h0 hnx
 have hwr : IntKind.i64.wrap ((s.cnt : Int) + 1) = (s.cnt : Int) + 1 := IntWalk.i64_in _ (by omega)
 go_enter Tryz.func98, Tryz.ntmps98
 go_wp2
 go_still_tail 11, (by kernel_rfl)
 go_wp2
 go_region_held3 (fun w' => w'.cell? ⟨B.F, 1, none⟩ = some (.map (some B.gn)) ∧ w'.cell? ⟨B.F, 2, none⟩ = some (.map (some B.gl)) ∧ w'.cell? ⟨B.F, 3, none⟩ = some (.map (some B.go))) (first | exact ⟨c1a, c2a, c3a⟩ | exact ⟨c1b, c2b, c3b⟩ | exact ⟨c1c, c2c, c3c⟩ | exact ⟨c1d, c2d, c3d⟩ | exact ⟨c1e, c2e, c3e⟩ | go_keep) (fail)
 all_goals
  go_wp2_with (at_builtin
               refine app_1l rfl (.tmp 39) (.tmp 41) rfl (base := base) (v := .slice A s.path.length c) (xs := s.path) (y := x) rfl rfl (by rw [← HPV.out]; exact HT5.out.path) (by omega) HT5.out.sz ?_
               intro g cap w6 hown hch hat hlt
               have hch2 : Chg (fun i => some i = pv.ownBlock) w5 w6 := (by rw [HPV.out]; exact hch)
               have hb6 := hch2.blk HT5.out.fb (fun h => fin_ne_own (by decide) HT5.out.fb HT5.out.path h.symm rfl)
               have b64 := hb6.cell 4
               have f64 := hb6.free 4
               have HB6 := Lib.hid hb6
               have HCH := Lib.hid hch2
               have HOW := Lib.hid hown
               have HAT : Hid (pv.ownBlock = some g ∨ g = w5.heap.size + 1) := Lib.hid (by rw [HPV.out]; exact hat)
               clear hown hch hch2 hat hlt hb6)
  have hset := Chg.set w6 B.F 4 (.slice (some ⟨g, 0, none⟩) (s.path.length + 1) cap)
  have hfin := HT5.out.newPath (S := fun i => i = B.F ∨ pv.ownBlock = some i) ((HCH.out.mono fun i hi => .inr hi.symm).trans (hset.mono fun i hi => .inl hi)) (fun _ h => h) (.slice (some ⟨g, 0, none⟩) (s.path.length + 1) cap) (s.path ++ [x])
   (hset.own HOW.out (fun b hb e => fin_ne_own (by decide) HB6.out HOW.out hb e)) (fun k hk => by
    injection hk with hk
    have hk' : g = k := hk
    subst hk'
    exact HAT.out.imp id (fun h => by omega)) (HB6.out.set 4 _)
  go_end0
  exact ⟨_, rfl, hfin.1, HK5.out.trans hfin.2⟩
end Go.Proofs.YtjecjaihficcdaaGreat
namespace Go.Proofs.YtjecjaihficcdaaGreat
def tRun (nb : Int → List Int) : Nat → Tj → Tj
 | 0, s => s
 | n + 1, s => if s.work = [] then s else tRun nb n (tStep nb s)
theorem tRun_nil (nb : Int → List Int) (n : Nat) {s : Tj} (h : s.work = []) : tRun nb n s = s := by
 cases n with
 | zero => rfl
 | succ n => show (if s.work = [] then s else _) = s; rw [if_pos h]
theorem tRun_succ (nb : Int → List Int) (n : Nat) {s : Tj} (h : s.work ≠ []) : tRun nb (n + 1) s = tRun nb n (tStep nb s) := by
 show (if s.work = [] then s else _) = _; rw [if_neg h]
def muW (nb : Int → List Int) (work : List (Int × Nat)) : Nat := (work.map fun p => (nb p.1).length - p.2 + 1).sum
def muU (nb : Int → List Int) (num : Int → Int) (U : List Int) : Nat := (U.map fun u => if num u = 0 then (nb u).length + 1 else 0).sum
def mu (nb : Int → List Int) (U : List Int) (s : Tj) : Nat := muW nb s.work + muU nb s.num U
theorem muU_out (nb : Int → List Int) (num : Int → Int) (y v : Int) (hv : v ≠ 0) (h0 : num y = 0) : ∀ U : List Int, U.Nodup → (y ∈ U → muU nb (fset num y v) U + ((nb y).length + 1) = muU nb num U) ∧ (y ∉ U → muU nb (fset num y v) U = muU nb num U)
 | [], _ => ⟨fun h => absurd h (by simp), fun _ => rfl⟩
 | u :: U, hn => by
   rw [List.nodup_cons] at hn
   obtain ⟨h1, h2⟩ := muU_out nb num y v hv h0 U hn.2
   unfold muU at *
   simp only [List.map_cons, List.sum_cons, List.mem_cons]
   constructor
   · rintro (h | h)
     · subst h
       rw [h2 hn.1, fset_same, if_neg hv, if_pos h0]; omega
     · have e : u ≠ y := fun e => hn.1 (e ▸ h)
       rw [fset_ne _ _ e]
       have := h1 h
       omega
   · intro h
     rw [not_or] at h
     rw [h2 h.2, fset_ne _ _ (fun e => h.1 e.symm)]
def tStart (s : Tj) (x : Int) : Tj := { tEnter s x with work := [(x, 0)] }
def tVisit (nb : Int → List Int) (U : List Int) (s : Tj) (x : Int) : Tj := tRun nb (mu nb U (tStart s x)) (tStart s x)
structure TV (nb : Int → List Int) (U : List Int) (s : Tj) (fr : List Fr) : Prop where
 ti : TI nb s fr
 inU : ∀ y, s.num y ≠ 0 → y ∈ U
 cnt : s.cnt = s.path.length + s.cls.flatten.length
section
variable {nb : Int → List Int} {U : List Int} {s : Tj} {fr : List Fr}
theorem TV.len (h : TV nb U s fr) : s.path.length + s.cls.flatten.length ≤ U.length := by
 rw [← List.length_append]
 refine nodup_len _ _ ?_ fun y hy => ?_
 · rw [List.nodup_append]
   exact ⟨h.ti.nodup, h.ti.clsn, fun a ha b hb e => h.ti.disj a ha (e ▸ hb)⟩
 · exact h.inU y ((h.ti.ent y).2 (List.mem_append.1 hy))
theorem flat_len {l : List (List Int)} (h : ∀ C ∈ l, C ≠ []) : l.length ≤ l.flatten.length := by
 induction l with
 | nil => simp
 | cons c l ih =>
   have h1 := ih (fun C hC => h C (by simp [hC]))
   have h2 := List.length_pos_iff.2 (h c (by simp))
   simp only [List.length_cons, List.flatten_cons, List.length_append]
   omega
theorem TV.clsl (h : TV nb U s fr) : s.cls.length ≤ U.length := by
 have h1 := flat_len fun C hC => (h.ti.clss C hC).1
 have := h.len
 omega
theorem TV.top {x : Int} {k : Nat} {rest : List (Int × Nat)} (h : TV nb U s fr) (hw : s.work = (x, k) :: rest) : ∃ r fs, fr = ⟨x, k, r⟩ :: fs ∧ s.path = pathOf fs ++ x :: r ∧ x ∉ pathOf fs ∧ rest = fs.map fun f => (f.x, f.k) := by
 have h1 := h.ti.work
 rw [hw] at h1
 cases fr with
 | nil => cases h1
 | cons f fs =>
   obtain ⟨fx, fk, r⟩ := f
   simp only [List.map_cons, List.cons.injEq, Prod.mk.injEq] at h1
   obtain ⟨⟨rfl, rfl⟩, h2⟩ := h1
   have hp : s.path = pathOf fs ++ x :: r := h.ti.path
   refine ⟨r, fs, rfl, hp, fun hm => ?_, h2⟩
   have hnd := h.ti.nodup
   rw [hp] at hnd
   exact (List.nodup_append.1 hnd).2.2 x hm x (by simp) rfl
theorem tEnter_TV (h : TV nb U s fr) (y : Int) (h0 : s.num y = 0) (hU : y ∈ U) (hc : ∀ f fs, fr = f :: fs → Rch nb f.x y) : TV nb U { tEnter s y with work := (y, 0) :: s.work } (⟨y, 0, []⟩ :: fr) := by
 refine ⟨h.ti.enter y h0 hc, fun z hz => ?_, ?_⟩
 · have hz' : fset s.num y (s.cnt + 1) z ≠ 0 := hz
   by_cases e : z = y
   · exact e ▸ hU
   · rw [fset_ne _ _ e] at hz'; exact h.inU z hz'
 · show s.cnt + 1 = (s.path ++ [y]).length + s.cls.flatten.length
   have := h.cnt
   rw [List.length_append, List.length_singleton]; omega
theorem tLeave_TV {x : Int} {s' : Tj} {fs : List Fr} (h : TI nb (tLeave s' x) fs) (hi : ∀ y, s'.num y ≠ 0 → y ∈ U) (hcnt : s'.cnt = s'.path.length + s'.cls.flatten.length) : TV nb U (tLeave s' x) fs := by
 refine ⟨h, hi, ?_⟩
 show s'.cnt = (s'.path.take _).length + (s'.cls ++ [s'.path.drop _]).flatten.length
 rw [hcnt, List.flatten_append, List.length_append, List.length_take]
 have e : [s'.path.drop (s'.path.idxOf x)].flatten = s'.path.drop (s'.path.idxOf x) := by simp
 rw [e, List.length_drop]
 omega
theorem tStep_new {x : Int} {k : Nat} {rest : List (Int × Nat)} (hw : s.work = (x, k) :: rest) (hk : k < (nb x).length) (h0 : s.num (nb x)[k] = 0) : tStep nb s = { tEnter s (nb x)[k] with work := ((nb x)[k], 0) :: (x, k + 1) :: rest } := by
 unfold tStep; rw [hw]; simp only [dif_pos hk, if_pos h0]
theorem tStep_on {x : Int} {k : Nat} {rest : List (Int × Nat)} (hw : s.work = (x, k) :: rest) (hk : k < (nb x).length) (h0 : s.num (nb x)[k] ≠ 0) (h1 : s.on (nb x)[k] = true) : tStep nb s = { s with low := fset s.low x (min (s.low x) (s.num (nb x)[k])), work := (x, k + 1) :: rest } := by
 unfold tStep; rw [hw]; simp only [dif_pos hk, if_neg h0, if_pos h1]
theorem tStep_off {x : Int} {k : Nat} {rest : List (Int × Nat)} (hw : s.work = (x, k) :: rest) (hk : k < (nb x).length) (h0 : s.num (nb x)[k] ≠ 0) (h1 : s.on (nb x)[k] = false) : tStep nb s = { s with work := (x, k + 1) :: rest } := by
 unfold tStep; rw [hw]; simp only [dif_pos hk, if_neg h0, h1]; rw [if_neg (by simp)]
theorem tStep_pop {x : Int} {k : Nat} {rest : List (Int × Nat)} (hw : s.work = (x, k) :: rest) (hk : ¬ k < (nb x).length) : tStep nb s = tPop s x rest := by
 unfold tStep; rw [hw]; simp only [dif_neg hk]
theorem TV.bump {x : Int} {k : Nat} {r : List Int} {fs : List Fr} (h : TV nb U s (⟨x, k, r⟩ :: fs)) (hk : k < (nb x).length) (hn : s.num (nb x)[k] ≠ 0) (low' : Int → Int) (hl : low' = if s.on (nb x)[k] = true then fset s.low x (min (s.low x) (s.num (nb x)[k])) else s.low) :
 TV nb U { s with low := low', work := (x, k + 1) :: fs.map fun f => (f.x, f.k) } (⟨x, k + 1, r⟩ :: fs) := ⟨h.ti.next hk hn low' hl, h.inU, h.cnt⟩
theorem TV.step (h : TV nb U s fr) (hU : U.Nodup) (hnb : ∀ y ∈ U, ∀ z ∈ nb y, z ∈ U) (hw : s.work ≠ []) : ∃ fr', TV nb U (tStep nb s) fr' ∧ mu nb U (tStep nb s) + 1 = mu nb U s := by
 obtain ⟨⟨x, k⟩, rest, hw⟩ : ∃ p rest, s.work = p :: rest := List.exists_cons_of_ne_nil hw
 obtain ⟨r, fs, rfl, hp, hx, hr⟩ := h.top hw
 have hkl : k ≤ (nb x).length := (h.ti.frk _ List.mem_cons_self).1
 have hxp : x ∈ s.path := by rw [hp]; simp
 by_cases hk : k < (nb x).length
 · have hy : (nb x)[k] ∈ nb x := List.getElem_mem hk
   have hyU : (nb x)[k] ∈ U := hnb x (h.inU x ((h.ti.ent x).2 (.inl hxp))) _ hy
   by_cases h0 : s.num (nb x)[k] = 0
   · rw [tStep_new hw hk h0]
     have hpath : s.path = pathOf (⟨x, k + 1, r⟩ :: fs) := hp
     have h2 : TV nb U { tEnter s (nb x)[k] with work := ((nb x)[k], 0) :: (x, k + 1) :: rest } (⟨(nb x)[k], 0, []⟩ :: ⟨x, k + 1, r⟩ :: fs) := by
      have h3 := tEnter_TV h (nb x)[k] h0 hyU (fun f fs' he => by injection he with he; subst he; exact Rch.start.step hy)
      have t := h3.ti
      refine ⟨⟨?_, ?_, t.sorted, t.onp, t.ent, t.pos, t.disj, t.lowle, t.lowr, fun f hf v hv => ?_, fun f hf => ?_, ?_, t.clss, t.clsc, t.clsn⟩, h3.inU, h3.cnt⟩
      · simp [hr]
      · exact t.path
      · rcases List.mem_cons.1 hf with rfl | hf
        · cases hv
        · rcases List.mem_cons.1 hf with rfl | hf
          · exact t.frx ⟨x, k, r⟩ (by simp) v hv
          · exact t.frx f (by simp [hf]) v hv
      · rcases List.mem_cons.1 hf with rfl | hf
        · exact t.frk _ (by simp)
        · rcases List.mem_cons.1 hf with rfl | hf
          · obtain ⟨h4, h5⟩ := t.frk ⟨x, k, r⟩ (by simp)
            refine ⟨hk, fun z hz => ?_⟩
            have hz' : z ∈ (nb x).take (k + 1) := hz
            rw [List.take_succ_eq_append_getElem hk, List.mem_append] at hz'
            rcases hz' with hz' | hz'
            · exact h5 z hz'
            · simp at hz'
              subst hz'
              refine ⟨?_, fun _ => ?_⟩
              · show fset s.num _ _ _ ≠ 0
                rw [fset_same]; have := (h.ti.pos (nb x)[k]).2; omega
              · show fset s.low _ _ x ≤ fset s.num _ _ _
                have hne : x ≠ (nb x)[k] := fun e => (h.ti.ent x).2 (.inl hxp) (by rw [e]; exact h0)
                rw [fset_same, fset_ne _ _ hne]
                have := h.ti.lowle x hxp
                have := (h.ti.pos x).2
                omega
          · exact t.frk f (by simp [hf])
      · have := t.chain
        simpa using this
     refine ⟨_, h2, ?_⟩
     have h4 := (muU_out nb s.num (nb x)[k] (s.cnt + 1) (by omega) h0 U hU).1 hyU
     unfold mu muW
     rw [hw]
     show (List.map _ (((nb x)[k], 0) :: (x, k + 1) :: rest)).sum + muU nb (fset s.num (nb x)[k] (s.cnt + 1)) U + 1 = _
     simp only [List.map_cons, List.sum_cons, Nat.sub_zero]
     omega
   · obtain ⟨low', hl⟩ : ∃ low', low' = if s.on (nb x)[k] = true then fset s.low x (min (s.low x) (s.num (nb x)[k])) else s.low := ⟨_, rfl⟩
     have hb := h.bump hk h0 low' hl
     rw [← hr] at hb
     have he : tStep nb s = { s with low := low', work := (x, k + 1) :: rest } := by
      cases h1 : s.on (nb x)[k] with
      | true => rw [tStep_on hw hk h0 h1, hl, if_pos h1]
      | false => rw [tStep_off hw hk h0 h1, hl, if_neg (by simp [h1])]
     rw [he]
     refine ⟨_, hb, ?_⟩
     unfold mu muW
     rw [hw]
     simp only [List.map_cons, List.sum_cons]
     omega
 · have hk' : (nb x).length ≤ k := by omega
   rw [tStep_pop hw hk]
   have hmu : ∀ s' : Tj, s'.work = rest → s'.num = s.num → mu nb U s' + 1 = mu nb U s := fun s' e1 e2 => by
    unfold mu muW
    rw [e1, e2, hw]
    simp only [List.map_cons, List.sum_cons]
    omega
   have hle := h.ti.lowle x hxp
   cases fs with
   | nil =>
     have hr0 : rest = [] := hr
     subst hr0
     have heq : s.low x = s.num x := by
      obtain ⟨u, hu, h1, h2⟩ := h.ti.lowr x hxp
      have hso := h.ti.sorted
      rw [hp] at hso hu
      simp only [pathOf, List.nil_append, List.pairwise_cons] at hso hu
      rcases List.mem_cons.1 hu with rfl | hu
      · exact h1.symm
      · have := hso.1 u hu; omega
     have hl := (h.ti.leave hk' heq s.low (fun _ _ => rfl)).1
     have e : tPop s x [] = tLeave { s with low := s.low, work := ([] : List Fr).map fun f => (f.x, f.k) } x := by
      unfold tPop tUp
      simp only [if_pos heq, List.map_nil]
     rw [e]
     exact ⟨_, tLeave_TV hl h.inU h.cnt, hmu _ rfl rfl⟩
   | cons g gs =>
     have hr1 : rest = (g.x, g.k) :: gs.map fun f => (f.x, f.k) := hr
     have hgp : g.x ∈ s.path := by rw [hp]; simp [pathOf]
     have hgx : x ≠ g.x := fun e => hx (by rw [e]; simp [pathOf])
     have hlt : s.num g.x < s.num x := by
      have hso := h.ti.sorted
      rw [hp] at hso
      exact (List.pairwise_append.1 hso).2.2 g.x (by simp [pathOf]) x (by simp)
     have hgl := h.ti.lowle g.x hgp
     have hs2 : tUp { s with work := rest } x rest = { s with low := fset s.low g.x (min (s.low g.x) (s.low x)), work := rest } := by rw [hr1]; rfl
     unfold tPop
     simp only [hs2, fset_ne _ _ hgx]
     by_cases he : s.low x = s.num x
     · rw [if_pos he]
       have hl := (h.ti.leave hk' he (fset s.low g.x (min (s.low g.x) (s.low x))) (fun v _ => by
        by_cases e : v = g.x
        · rw [e, fset_same]; omega
        · rw [fset_ne _ _ e])).1
       rw [← hr] at hl
       exact ⟨_, tLeave_TV hl h.inU h.cnt, hmu _ rfl rfl⟩
     · rw [if_neg he]
       have hm := h.ti.merge hk' (by omega)
       have hm2 : TI nb { s with low := fset s.low g.x (min (s.low g.x) (s.low x)), work := rest } (⟨g.x, g.k, g.r ++ x :: r⟩ :: gs) := by rw [hr]; exact hm
       exact ⟨_, ⟨hm2, h.inU, h.cnt⟩, hmu _ rfl rfl⟩
end
end Go.Proofs.YtjecjaihficcdaaGreat
namespace Go.Proofs.YtjecjaihficcdaaGreat
open Go.RowKit
def encW (work : List (Int × Nat)) : List Value := work.reverse.flatMap fun p => [.int .i64 p.1, .int .i64 (p.2 : Int)]
theorem encW_cons (p : Int × Nat) (rest : List (Int × Nat)) : encW (p :: rest) = encW rest ++ [.int .i64 p.1, .int .i64 (p.2 : Int)] := by
 unfold encW; rw [List.reverse_cons, List.flatMap_append]; simp
theorem encW_len : ∀ work : List (Int × Nat), (encW work).length = work.length * 2
 | [] => rfl
 | p :: rest => by rw [encW_cons, List.length_append, encW_len rest, List.length_cons]; simp; omega
def WS (w : World) (base g cap : Nat) (work : List (Int × Nat)) : Prop :=
 w.ownsRow base 113 2 (.slice (some ⟨g, 0, none⟩) work.length cap) work.length (encW work)
section
variable {w w' : World} {base g cap : Nat} {x : Int} {k : Nat} {rest work : List (Int × Nat)}
theorem WS.raw (h : WS w base g cap work) : ∃ cur : Array Value, w.heap[g]? = some (.cells cur 113 (0, 0)) ∧ base ≤ g ∧ work.length ≤ cap ∧ cap ≤ maxLen ∧ cur.size = cap * 2 ∧ cur.toList.take (work.length * 2) = encW work := by
 obtain ⟨-, ⟨h1, -⟩ | ⟨g', cap', cur, he, hb, hg, hn, hm, hs, ht⟩⟩ := h
 · cases h1
 · injection he with e1 e2 e3
   injection e1 with e1
   injection e1 with e1
   subst e1 e3
   exact ⟨cur, hg, hb, hn, hm, hs, ht⟩
theorem WS.mk' {cur : Array Value} (hg : w.heap[g]? = some (.cells cur 113 (0, 0))) (hb : base ≤ g) (hn : work.length ≤ cap) (hm : cap ≤ maxLen) (hs : cur.size = cap * 2) (ht : cur.toList.take (work.length * 2) = encW work) : WS w base g cap work :=
 ⟨encW_len work, .inr ⟨g, cap, cur, rfl, hb, hg, hn, hm, hs, ht⟩⟩
theorem WS.kp {b0 : Nat} (h : WS w base g cap work) (k : Kp b0 w w') : WS w' base g cap work := by
 obtain ⟨cur, hg, hb, hn, hm, hs, ht⟩ := h.raw
 exact WS.mk' ((k.row g cur hg).trans hg) hb hn hm hs ht
theorem WS.ext (h : WS w base g cap work) (k : Ext w w') : WS w' base g cap work := own_ext h k
theorem WS.chg {S : Nat → Prop} (h : WS w base g cap work) (k : Chg S w w') (hn : ¬ S g) : WS w' base g cap work := k.own h (fun b hb => by simp [Value.ownBlock] at hb; subst hb; exact hn)
theorem WS.cellsOf (h : WS w base g cap ((x, k) :: rest)) : w.cell? ⟨g, rest.length * 2, none⟩ = some (.int .i64 x) ∧ w.cell? ⟨g, rest.length * 2 + 1, none⟩ = some (.int .i64 (k : Int)) ∧ w.frozen? ⟨g, rest.length * 2 + 1, none⟩ = false := by
 obtain ⟨cur, hg, hb, hn, hm, hs, ht⟩ := h.raw
 rw [encW_cons] at ht
 have h0 := congrArg (fun l => l[rest.length * 2]?) ht
 have h1 := congrArg (fun l => l[rest.length * 2 + 1]?) ht
 simp only [List.length_cons] at h0 h1
 rw [List.getElem?_take_of_lt (by omega), List.getElem?_append_right (by rw [encW_len]; omega), encW_len, Nat.sub_self] at h0
 rw [List.getElem?_take_of_lt (by omega), List.getElem?_append_right (by rw [encW_len]; omega), encW_len, show rest.length * 2 + 1 - rest.length * 2 = 1 by omega] at h1
 simp only [List.getElem?_cons_zero, List.getElem?_cons_succ, Array.getElem?_toList] at h0 h1
 refine ⟨?_, ?_, ?_⟩
 · rw [cell_of_row w g _ cur _ (0, 0) hg]; exact h0
 · rw [cell_of_row w g _ cur _ (0, 0) hg]; exact h1
 · have hl := World.block_lt_of_cell? w ⟨g, rest.length * 2 + 1, none⟩ (by rw [cell_of_row w g _ cur _ (0, 0) hg]; exact h1)
   show w.frozen? ⟨g, rest.length * 2 + 1, none⟩ = false
   unfold World.frozen?
   simp [hg]
theorem WS.bump (h : WS w base g cap ((x, k) :: rest)) : WS (w.setCell ⟨g, rest.length * 2 + 1, none⟩ (.int .i64 ((k : Int) + 1))) base g cap ((x, k + 1) :: rest) := by
 obtain ⟨cur, hg, hb, hn, hm, hs, ht⟩ := h.raw
 have hh : (w.setCell ⟨g, rest.length * 2 + 1, none⟩ (.int .i64 ((k : Int) + 1))).heap[g]? = some (.cells (cur.setIfInBounds (rest.length * 2 + 1) (.int .i64 ((k : Int) + 1))) 113 (0, 0)) := heap_setCell_same w g _ cur _ _ hg
 refine WS.mk' hh hb hn hm (by simpa using hs) ?_
 rw [encW_cons] at ht ⊢
 rw [Array.toList_setIfInBounds, List.take_set]
 have ht' : List.take (((x, k + 1) :: rest).length * 2) cur.toList = encW rest ++ [.int .i64 x, .int .i64 (k : Int)] := ht
 rw [ht', List.set_append_right _ _ (by rw [encW_len]; omega), encW_len, show rest.length * 2 + 1 - rest.length * 2 = 1 by omega]
 rfl
theorem WS.pop (h : WS w base g cap ((x, k) :: rest)) : WS w base g cap rest := by
 obtain ⟨cur, hg, hb, hn, hm, hs, ht⟩ := h.raw
 rw [List.length_cons] at hn ht
 refine WS.mk' hg hb (by omega) hm hs ?_
 have := congrArg (List.take (rest.length * 2)) ht
 rw [List.take_take, Nat.min_eq_left (by omega), encW_cons, List.take_left' (encW_len rest)] at this
 exact this
theorem WS.one (w : World) (base : Nat) (x : Int) (hb : base ≤ w.heap.size) : WS (w.alloc (.cells #[.int .i64 x, .int .i64 0] 113)) base w.heap.size 1 [(x, 0)] :=
 WS.mk' (heap_alloc_new w _) hb (by simp) (by decide) (by simp) (by simp [encW])
theorem WS.push (h : w.ownsRow base 113 2 (.slice (some ⟨g, 0, none⟩) (work.length + 1) cap) (work.length + 1) (encW work ++ [.int .i64 x, .int .i64 (k : Int)])) : WS w base g cap ((x, k) :: work) := by
 unfold WS; rw [encW_cons, List.length_cons]; exact h
theorem TW.step {b0 : Nat} {f : List (List Int)} {B : FB} {pv cv : Value} {vs : List Value} {s : Tj} {S : Nat → Prop} (h : TW b0 f B w pv cv vs s) (hc : Chg S w w') (hS : ∀ i, S i → b0 ≤ i ∧ ∃ cur : Array Value, w.heap[i]? = some (.cells cur 113 (0, 0))) : TW b0 f B w' pv cv vs s := by
 obtain ⟨kn, n1, n2⟩ := h.num
 obtain ⟨kl, l1, l2⟩ := h.low
 obtain ⟨ko, o1, o2⟩ := h.on
 have hmap : ∀ g ks, MapK kvI w g ks → ¬ S g := fun g ks hm hs => by
  obtain ⟨-, cur, h1⟩ := hS g hs
  exact map_ne_step hm cur h1
 have hown : ∀ {e : TypeId} {n : Nat} {v : Value} {xs : List Value}, e ≠ 113 → w.ownsRow b0 e 1 v n xs → ∀ k, v.ownBlock = some k → ¬ S k := fun he ho k hk hs => by
  obtain ⟨-, cur, h1⟩ := hS k hs
  exact int_ne_step he ho hk cur h1
 obtain ⟨v1, v2, v3, v4, v5⟩ := h.cls
 refine ⟨hc.blk h.fb (fun hs => ?_), h.gr.chg hc (fun k hk hs => by have := h.gb k hk; have := (hS k hs).1; omega), h.gb, ⟨kn, n1.keep hc (hmap _ _ n1), n2⟩, ⟨kl, l1.keep hc (hmap _ _ l1), l2⟩, ⟨ko, o1.keep hc (hmap _ _ o1), o2⟩,
  hc.own h.path (hown (by decide) h.path), ⟨hc.own v1 (hown (by decide) v1), v2, fun j hj hj' => hc.own (v3 j hj hj') (hown (by decide) (v3 j hj hj')), v4, v5⟩, h.ne, h.bs, Nat.le_trans h.sz hc.size, hc.own h.lit (hown (by decide) h.lit), h.litp⟩
 obtain ⟨-, cur, h1⟩ := hS _ hs
 have := h.fb
 unfold Blk at this
 rw [this] at h1
 injection h1 with h1
 injection h1 with _ h1
 exact absurd h1 (by decide)
end
end Go.Proofs.YtjecjaihficcdaaGreat
namespace Go.Proofs.YtjecjaihficcdaaGreat
open Go.RowKit
theorem idxI_mid (P r : List Int) (x : Int) (h : x ∉ P) : idxI (P ++ x :: r) x = (P.length : Int) := by
 unfold idxI
 rw [if_pos (by simp), idxOf_mid _ _ _ h]
theorem onSet_step (on : Int → Bool) (cl : List Int) (k : Nat) (hk : k < cl.length) : (fun y => if y ∈ cl.take (k + 1) then false else on y) = fset (fun y => if y ∈ cl.take k then false else on y) cl[k] false := by
 have hm : ∀ z, z ∈ cl.take (k + 1) ↔ z ∈ cl.take k ∨ z = cl[k] := fun z => by rw [List.take_succ_eq_append_getElem hk, List.mem_append, List.mem_singleton]
 funext y
 by_cases h : y = cl[k]
 · subst h; rw [fset_same, if_pos ((hm _).2 (.inr rfl))]
 · rw [fset_ne _ _ h]
   by_cases h2 : y ∈ cl.take k
   · rw [if_pos ((hm _).2 (.inl h2)), if_pos h2]
   · rw [if_neg (fun h3 => ((hm _).1 h3).elim h2 h), if_neg h2]
set_option maxRecDepth 100000 in
set_option maxHeartbeats 4000000 in
theorem leave_any (base : Nat) (f : List (List Int)) (B : FB) (w : World) (pv cv : Value) (vs : List Value) (s : Tj) (h : TW base f B w pv cv vs s) (x : Int) (P r : List Int) (hp : s.path = P ++ x :: r) (hx : x ∉ P) (hnum : ∀ y ∈ s.path, s.num y ≠ 0) (hpl : s.path.length ≤ 1000000) (hcl : s.cls.length ≤ 1000000) :
 Calls Tryz.prog 99 #[.pointer (some ⟨B.F, 0, none⟩), .int .i64 x] w fun e w' => ∃ pv' cv' vs', e = .returned (.tuple #[]) ∧ TW base f B w' pv' cv' vs' (tLeave s x) ∧ Kp base w w' := by
 have H := Lib.hid h
 have hidx : s.path.idxOf x = P.length := by rw [hp, idxOf_mid _ _ _ hx]
 have htl : tLeave s x = { s with on := fun y => if y ∈ x :: r then false else s.on y, path := P, cls := s.cls ++ [x :: r] } := by
  unfold tLeave
  rw [hidx, hp, List.drop_left', List.take_left'] <;> rfl
 have HTL := Lib.hid htl
 obtain ⟨A, c, hpve, q1, q2, -⟩ := OwnI.reads h.path
 obtain ⟨A5, cc5, hcve, k1, k2⟩ : ∃ A5 c5, cv = .slice A5 vs.length c5 ∧ vs.length ≤ c5 ∧ vs.length ≤ 1000000 := by
  obtain ⟨h1, h2, -⟩ := h.cls
  obtain ⟨A, c, e, h3, h4, -⟩ := own_row h1
  exact ⟨A, c, e, h3, by omega⟩
 have c4 := h.fb.cell 4
 have f4 := h.fb.free 4
 have f5 := h.fb.free 5
 simp only [List.getElem?_cons_zero, List.getElem?_cons_succ] at c4
 have hpath := h.path
 rw [hpve] at c4
 have HPV := Lib.hid hpve
 have HCV := Lib.hid hcve
 obtain ⟨N, hN⟩ : ∃ N, N = s.path.length := ⟨_, rfl⟩
 rw [← hN] at c4 q1 q2
 obtain ⟨j, hj⟩ : ∃ j, j = P.length := ⟨_, rfl⟩
 have hN1 : N ≤ 1000000 := by omega
 have hjN : j ≤ N := by rw [hj, hN, hp]; simp
 have hL : N - j = (x :: r).length := by rw [hj, hN, hp]; simp
 have hIX := Lib.hid (fun w' (hE : Ext w w') => Index_any s.path x pv w' (OwnI.reads (own_ext h.path hE)))
 rw [show idxI s.path x = (j : Int) by rw [hp, hj]; exact idxI_mid P r x hx, hpve, ← hN] at hIX
 have hsl1 := slice_from (P := Tryz.prog) Tryz.underlying24 info_int A N c j hjN
 rw [Nat.mul_one] at hsl1
 obtain ⟨TA, hTA⟩ : ∃ TA, (if c = j then A else A.map (·.add j)) = TA := ⟨_, rfl⟩
 have hsl : ∀ W : World, (Instr.slice 24 (.slice A N c) (some (.int .i64 (j : Int))) none none).run Tryz.prog W = .ok (.slice TA (N - j) (c - j)) W := fun W => by rw [← hTA]; exact hsl1 W
 have hRT : ∀ w', Ext w w' → RI w' (.slice TA (N - j) (c - j)) (x :: r) := fun w' hE => by
  obtain ⟨A', c', e1, -, -, e4⟩ := OwnI.reads (own_ext h.path hE)
  rw [hpve] at e1
  injection e1 with a1 a2 a3
  subst a1 a3
  refine ⟨TA, c - j, by rw [hL], by rw [← hL]; omega, by rw [← hL]; omega, fun i hi => ?_⟩
  rw [List.length_map] at hi
  have hne : ¬ c = j := fun e => by
   have : (x :: r).length = 0 := by rw [← hL]; omega
   simp at this
  rw [← hTA, if_neg hne]
  have hij : j + i < s.path.length := by rw [← hN]; have := hL; omega
  obtain ⟨ad, rfl, hc⟩ := e4 (j + i) (by simpa using hij)
  refine ⟨ad.add j, rfl, ?_⟩
  rw [show (ad.add j).add i = ad.add (j + i) by unfold Addr.add; split <;> split <;> simp_all <;> omega, hc]
  simp only [List.getElem_map]
  congr 2
  have he : s.path[j + i]? = (x :: r)[i]? := by rw [hp, List.getElem?_append_right (by omega)]; congr 1; omega
  rw [List.getElem?_eq_getElem hij, List.getElem?_eq_getElem hi] at he
  exact Option.some.inj he
 have hst := slice_to (P := Tryz.prog) Tryz.underlying24 info_int A N c j (by omega)
 have HRT := Lib.hid hRT
 have HL := Lib.hid hL
 have HJ := Lib.hid hj
 have HN := Lib.hid hN
 have HP := Lib.hid hp
 clear h htl hidx hpve hcve hpath hj hRT hL hN hTA hsl1 hp
 go_enter Tryz.func99, Tryz.ntmps99
 go_upto_region 3 with (first
  | (go_at_call 128; refine (hIX.out _ (Ext.refl _)).mono ?_; rintro e w1 ⟨rfl, hE⟩; have HE1 := Lib.hid hE; have c4b := hE.cell c4; have f4b := (by rw [Below.frozen hE (World.block_lt_of_cell? _ _ c4)]; exact f4 : w1.frozen? ⟨B.F, 4, none⟩ = false); clear hE)
  | (go_at_call 59; refine (cloneI_any _ (x :: r) _ (HRT.out _ HE1.out) (by rw [← HL.out]; omega)).mono ?_; rintro e w2 ⟨v2, rfl, ho, hE⟩; have HE2 := Lib.hid (HE1.out.trans hE); have HO2 := Lib.hid ho; have c4c := hE.cell c4b; have f4c := (by rw [Below.frozen hE (World.block_lt_of_cell? _ _ c4b)]; exact f4b : w2.frozen? ⟨B.F, 4, none⟩ = false); clear hE ho))
 have hset := Chg.set w2 B.F 4 (.slice A j c)
 have hTW2 := H.out.ext HE2.out
 have hpathT : OwnI w2 base (.slice A j c) P := by
  have h1 := hTW2.path
  rw [HPV.out] at h1
  unfold OwnI at h1
  rw [← HN.out] at h1
  have h2 := own_shorter h1 hjN (fun e => by
   subst e
   have := OwnI.reads hTW2.path
   obtain ⟨A', c', e1, e2, e3, e4⟩ := this
   rw [HPV.out] at e1
   injection e1 with a1 a2 a3
   subst a1
   have h5 : s.path.length = 0 := by
    by_cases h0 : s.path.length = 0
    · exact h0
    · obtain ⟨ad, h6, -⟩ := e4 0 (by simp; omega)
      cases h6
   have := HP.out
   rw [this] at h5
   simp at h5)
  have h3 : s.path.take j = P := by rw [HP.out, HJ.out, List.take_left']; rfl
  rw [← List.map_take, h3] at h2
  unfold OwnI
  rw [← HJ.out]; exact h2
 have hnp := hTW2.newPath (S := fun i => i = B.F) hset (fun _ h => .inl h) (.slice A j c) P (hset.own hpathT (fun b hb e => fin_ne_own (by decide) hTW2.fb hpathT hb e)) (fun k hk => .inl (by rw [HPV.out]; cases A with | none => simp [Value.ownBlock] at hk | some a => exact hk)) (hTW2.fb.set 4 _)
 have hO3 : OwnI (w2.setCell ⟨B.F, 4, none⟩ (.slice A j c)) base v2 (x :: r) := own_lower (hset.own HO2.out (fun b hb e => fin_ne_own (by decide) hTW2.fb HO2.out hb e)) (Nat.le_trans H.out.sz HE1.out.size)
 have hv2lo : ∀ k, v2.ownBlock = some k → w.heap.size ≤ k := fun k hk => by have := (own_typed HO2.out hk).1; have := HE1.out.size; omega
 generalize w2.setCell ⟨B.F, 4, none⟩ (.slice A j c) = w3 at hnp hO3 ⊢
 obtain ⟨A2, c2, hv2e, r1, r2, -⟩ := OwnI.reads hO3
 obtain ⟨L, hLe⟩ : ∃ L, L = (x :: r).length := ⟨_, rfl⟩
 rw [← hLe] at hv2e r1 r2
 have HLE := Lib.hid hLe
 have HV2E := Lib.hid hv2e
 have HT3 := Lib.hid hnp.1
 have HK3 := Lib.hid ((Kp.ext HE2.out).trans hnp.2)
 have HO3 := Lib.hid hO3
 have HLO := Lib.hid hv2lo
 have hL1 : L ≤ 1000000 := by have := HL.out; rw [hLe, ← this]; omega
 subst hv2e
 clear hnp hO3 hv2lo hLe hset hTW2 hpathT c4 f4 f5 c4c f4c c4b f4b
 go_wp2
 go_loopg [32] L (fun gn i wr => ∃ k : Nat, k ≤ L ∧ gn + k = L ∧ i = .int .i64 k ∧ Hid (TW base f B wr (.slice A j c) cv vs { s with path := P, on := fun y => if y ∈ (x :: r).take k then false else s.on y }) ∧ Hid (Kp base w wr) ∧ Hid (OwnI wr base (.slice A2 L c2) (x :: r)))
 case atStart => exact ⟨0, Nat.zero_le _, by omega, rfl, by simpa using HT3, HK3, HO3⟩
 case round =>
  obtain ⟨k, hk, hgk, rfl, HT, HK, HO⟩ := hrel
  obtain ⟨w4, rfl⟩ : ∃ w4 : World, w4 = wr := ⟨_, rfl⟩
  by_cases hlt : k < L
  · have hkf : k < (x :: r).length := by rw [← HLE.out]; exact hlt
    obtain ⟨ad, rfl, hcell⟩ := (OwnI.reads HO.out).row.2.2.2.int k hkf
    have c3 := HT.out.fb.cell 3
    simp only [List.getElem?_cons_zero, List.getElem?_cons_succ] at c3
    obtain ⟨ko, o1, o2, o3⟩ := HT.out.on
    obtain ⟨d1, d2, d3⟩ := HT.out.ne
    have hyp : (x :: r)[k] ∈ s.path := by rw [HP.out]; exact List.mem_append_right _ (List.getElem_mem hkf)
    have hony := onSet_step s.on (x :: r) k hkf
    generalize (x :: r)[k] = y at hcell hyp hony
    obtain ⟨w5, hup, m5, hc5, -⟩ := o1.update (P := Tryz.prog) fam_kvI Tryz.underlying78 y (.bool false)
    unfold kvI at hup
    obtain ⟨T5, K5⟩ := HT.out.upd (s' := { s with path := P, on := fun z => if z ∈ (x :: r).take (k + 1) then false else s.on z }) (hc5.mono fun i hi => .inr (.inr hi)) rfl rfl
     (by obtain ⟨kn, n1, n2⟩ := HT.out.num; exact ⟨kn, n1.keep hc5 (fun e => d2 e), n2⟩)
     (by obtain ⟨kl, l1, l2⟩ := HT.out.low; exact ⟨kl, l1.keep hc5 (fun e => d3 e), l2⟩)
     ⟨_, m5, fun n => by
      rw [lkp_kput]
      show _ = Value.bool ((fun z => if z ∈ (x :: r).take (k + 1) then false else s.on z) n)
      rw [hony]
      by_cases e : n = y
      · subst e; rw [if_pos rfl, fset_same]; rfl
      · rw [if_neg e, fset_ne _ _ e]; exact o2 n, fun n hn => by
      rw [lkp_kput, if_neg (fun e => by subst e; exact hnum _ hyp hn)]; exact o3 n hn⟩
    have HT5 := Lib.hid T5
    have HK5 := Lib.hid (HK.out.trans K5)
    have HO5 := Lib.hid (hc5.own HO.out (fun b hb => row_ne_map HO.out o1 b hb))
    clear o1 o2 o3 d1 d2 d3 hyp hony m5 hc5 T5 K5
    go_wp2
    go_roundg (L - (k + 1))
    case measure => omega
    case rel => exact ⟨k + 1, by omega, by omega, by go_num, HT5, HK5, HO5⟩
  · obtain rfl : k = L := by omega
    have hfull : (x :: r).take k = x :: r := by rw [HLE.out, List.take_length]
    rw [hfull] at HT
    have c5 := HT.out.fb.cell 5
    have f5 := HT.out.fb.free 5
    simp only [List.getElem?_cons_zero, List.getElem?_cons_succ] at c5
    rw [HCV.out] at c5
    clear hfull
    obtain ⟨i0, hi, hz0, hz1, hz2⟩ := info_parts info_ints
    have HI := Lib.hid hi
    have HZ := Lib.hid hz0
    have HZ1 := Lib.hid hz1
    have HZ2 := Lib.hid hz2
    clear hi hz0 hz1 hz2
    have f5' := HT.out.fb.free 5
    go_wp2_with (at_builtin; refine wpList_append_own _ rfl (.tmp 46) (.tmp 48) 22 rfl base 24 i0 (.slice none 0 0) 1 24 Tryz.underlying22 HI.out HZ.out HZ1.out HZ2.out rfl (by decide) _ vs.length vs rfl (own_ext (by rw [← HCV.out]; exact HT.out.cls.1) (Ext.alloc w4 _)) ⟨w4.heap.size, 0, none⟩ 1 1 [.slice A2 k c2] rfl rfl (one_cell w4 _ _) (by simp [Value.oneCell']) (by unfold maxLen; omega) (by omega) (by have := HT.out.sz; simp; omega) ?_; intro v' w6 ho6 hg6 _; obtain ⟨A7, c7, hv7, -⟩ := own_row (vs := vs ++ [.slice A2 k c2]) (by rw [List.length_append]; exact ho6); have hv8 : v' = .slice A7 (vs.length + 1) c7 := (by rw [hv7, List.length_append]; rfl); clear hv7; subst hv8; have HO6 := Lib.hid ho6; have HC6 := Lib.hid (grown_chg hg6); clear ho6 hg6
                 have hch2 : Chg (fun i => some i = cv.ownBlock) w4 w6 := ((Ext.alloc w4 _).chg _).trans (by rw [HCV.out]; exact HC6.out)
                 have hb6 := hch2.blk HT.out.fb (fun h => fin_ne_own (by decide) HT.out.fb HT.out.cls.1 h.symm rfl)
                 have b65 := hb6.cell 5
                 have f65 := hb6.free 5
                 simp only [List.getElem?_cons_zero, List.getElem?_cons_succ] at b65
                 have HB6 := Lib.hid hb6
                 have HCH := Lib.hid hch2
                 clear hch2 hb6)
    have hset := Chg.set w6 B.F 5 (.slice A7 (vs.length + 1) c7)
    have HT' := HT.out
    have hcl5 : OwnI w4 base (.slice A2 k c2) (x :: r) := HO.out
    have hfin := HT'.newCls (S := fun i => i = B.F ∨ cv.ownBlock = some i) ((HCH.out.mono fun i hi => .inr hi.symm).trans (hset.mono fun i hi => .inl hi)) (fun _ h => h) (.slice A7 (vs.length + 1) c7) (.slice A2 k c2) (x :: r) hcl5
     (fun b hb hp => by
      have h1 := HLO.out b hb
      have h2 := (own_typed H.out.path (g := b) (by rw [HPV.out]; cases A with | none => simp [Value.ownBlock] at hp | some a => exact hp)).2.1
      omega)
     (fun v hv b hb hp => by
      obtain ⟨v1, v2, v3, -, -⟩ := H.out.cls
      obtain ⟨i, hi, rfl⟩ := List.getElem_of_mem hv
      have h1 := HLO.out b hp
      have h2 := (own_typed (v3 i hi (by omega)) hb).2.1
      omega)
     (hset.own HO6.out (fun b hb e => fin_ne_own (by decide) HB6.out HO6.out hb e)) (HB6.out.set 5 _)
    rw [HTL.out]
    go_end0
    exact ⟨_, _, _, rfl, hfin.1, HK.out.trans hfin.2⟩
end Go.Proofs.YtjecjaihficcdaaGreat
namespace Go.Proofs.YtjecjaihficcdaaGreat
open Go.RowKit
theorem TW.wk {base : Nat} {f : List (List Int)} {B : FB} {w : World} {pv cv : Value} {vs : List Value} {s : Tj} (h : TW base f B w pv cv vs s) (l : List (Int × Nat)) : TW base f B w pv cv vs { s with work := l } :=
 ⟨h.fb, h.gr, h.gb, h.num, h.low, h.on, h.path, h.cls, h.ne, h.bs, h.sz, h.lit, h.litp⟩
theorem two_cells (w : World) (a b : Value) (t : TypeId) : ∀ j u, [a, b][j]? = some u → (w.alloc (.cells #[a, b] t)).cell? ((⟨w.heap.size, 0, none⟩ : Addr).add j) = some u := fun j u hu => by
 have h : (w.alloc (.cells #[a, b] t)).heap[w.heap.size]? = some (.cells #[a, b] t (0, 0)) := heap_alloc_new w _
 have hadd : (⟨w.heap.size, 0, none⟩ : Addr).add j = ⟨w.heap.size, j, none⟩ := by unfold Addr.add; split <;> simp_all
 rw [hadd, cell_of_row _ _ j _ t (0, 0) h]
 simpa using hu
theorem own_some {w : World} {base n sz : Nat} {e : TypeId} {v : Value} {xs : List Value} (h : w.ownsRow base e sz v (n + 1) xs) : ∃ g cap, v = .slice (some ⟨g, 0, none⟩) (n + 1) cap ∧ n + 1 ≤ cap := by
 obtain ⟨-, ⟨-, h⟩ | ⟨g, cap, cur, rfl, -, -, hn, -⟩⟩ := h
 · cases h
 · exact ⟨g, cap, rfl, hn⟩
theorem pathOf_len : ∀ fr : List Fr, fr.length ≤ (pathOf fr).length
 | [] => Nat.le_refl _
 | f :: fs => by have := pathOf_len fs; simp only [pathOf, List.length_append, List.length_cons]; omega
theorem TV.workl {nb : Int → List Int} {U : List Int} {s : Tj} {fr : List Fr} (h : TV nb U s fr) : s.work.length ≤ U.length := by
 have h1 := pathOf_len fr
 have h2 := h.len
 rw [h.ti.work, List.length_map]
 rw [h.ti.path] at h2
 omega
theorem TV.bottom {nb : Int → List Int} {U : List Int} {s : Tj} {fr : List Fr} {x : Int} {k : Nat} (h : TV nb U s fr) (hw : s.work = [(x, k)]) : s.low x = s.num x := by
 obtain ⟨r, fs, rfl, hp, hx, hr⟩ := h.top hw
 have hfs : fs = [] := List.map_eq_nil_iff.1 hr.symm
 subst hfs
 have hxp : x ∈ s.path := by rw [hp]; simp
 have hle := h.ti.lowle x hxp
 obtain ⟨u, hu, h1, h2⟩ := h.ti.lowr x hxp
 have hso := h.ti.sorted
 rw [hp] at hso hu
 simp only [pathOf, List.nil_append, List.pairwise_cons] at hso hu
 rcases List.mem_cons.1 hu with rfl | hu
 · exact h1.symm
 · have := hso.1 u hu; omega
theorem info_step : (Tryz.prog.info? 113).map (fun i => (i.zero, i.size, i.bytes)) = some (some (.agg #[.int .i64 0, .int .i64 0]), 2, 16) := by kernel_rfl
section
variable {base : Nat} {f : List (List Int)} {B : FB} {w : World} {pv cv : Value} {vs : List Value} {s : Tj}
theorem TW.lkn (h : TW base f B w pv cv vs s) (n : Int) : (Instr.lookup 77 (.map (some B.gn)) (.int .i64 n) false).run Tryz.prog w = .ok (.int .i64 (s.num n)) w := by
 obtain ⟨kn, n1, -, n3⟩ := h.num
 have := n1.lookup (P := Tryz.prog) fam_kvI Tryz.underlying77 (zeroValue_int _) n
 unfold kvI at this
 rw [this, n3]
 by_cases e : s.num n = 0
 · rw [if_pos e, e]; rfl
 · rw [if_neg e]; rfl
theorem TW.lkl (h : TW base f B w pv cv vs s) (n : Int) : (Instr.lookup 77 (.map (some B.gl)) (.int .i64 n) false).run Tryz.prog w = .ok (.int .i64 (s.low n)) w := by
 obtain ⟨kl, n1, n2, -⟩ := h.low
 have := n1.lookup (P := Tryz.prog) fam_kvI Tryz.underlying77 (zeroValue_int _) n
 unfold kvI at this
 rw [this, n2]
theorem TW.lko (h : TW base f B w pv cv vs s) (n : Int) : (Instr.lookup 78 (.map (some B.go)) (.int .i64 n) false).run Tryz.prog w = .ok (.bool (s.on n)) w := by
 obtain ⟨ko, n1, n2, -⟩ := h.on
 have := n1.lookup (P := Tryz.prog) fam_kvI Tryz.underlying78 (zeroValue_b _) n
 unfold kvI at this
 rw [this, n2]
theorem TW.setLow (h : TW base f B w pv cv vs s) (t v : Int) (hn : s.num t ≠ 0) : ∃ w', (Instr.mapUpdate 77 (.map (some B.gl)) (.int .i64 t) (.int .i64 v)).run Tryz.prog w = .ok () w' ∧ TW base f B w' pv cv vs { s with low := fset s.low t v } ∧ Kp base w w' := by
 obtain ⟨kl, l1, l2, l3⟩ := h.low
 obtain ⟨d1, d2, d3⟩ := h.ne
 obtain ⟨w', hup, m', hc, -⟩ := l1.update (P := Tryz.prog) fam_kvI Tryz.underlying77 t (.int .i64 v)
 refine ⟨w', hup, h.upd (s' := { s with low := fset s.low t v }) (hc.mono fun i hi => .inr (.inl hi)) rfl rfl ?_ ⟨_, m', fun n => ?_, fun n hz => ?_⟩ ?_⟩
 · obtain ⟨kn, n1, n2⟩ := h.num; exact ⟨kn, n1.keep hc (fun e => d1 e), n2⟩
 · rw [lkp_kput]
   show _ = Value.int .i64 (fset s.low t v n)
   by_cases e : n = t
   · subst e; rw [if_pos rfl, fset_same]; rfl
   · rw [if_neg e, fset_ne _ _ e]; exact l2 n
 · rw [lkp_kput, if_neg (fun e => by subst e; exact hn hz)]; exact l3 n hz
 · obtain ⟨ko, o1, o2⟩ := h.on; exact ⟨ko, o1.keep hc (fun e => d3 e.symm), o2⟩
end
set_option maxRecDepth 100000 in
set_option maxHeartbeats 8000000 in
theorem visit_any (base : Nat) (f : List (List Int)) (B : FB) (w : World) (pv cv : Value) (vs : List Value) (s : Tj) (h : TW base f B w pv cv vs s) (ht : TV (nbL f) (graphLits f) s []) (x : Int) (h0 : s.num x = 0) (hx : x ∈ graphLits f) (hU : (graphLits f).length ≤ 100000) (hnd : (graphLits f).Nodup) (hnb : ∀ y ∈ graphLits f, ∀ z ∈ nbL f y, z ∈ graphLits f) :
 Calls Tryz.prog 50 #[.pointer (some ⟨B.F, 0, none⟩), .int .i64 x] w fun e w' => ∃ pv' cv' vs', e = .returned (.tuple #[]) ∧ TW base f B w' pv' cv' vs' (tVisit (nbL f) (graphLits f) s x) ∧ TV (nbL f) (graphLits f) (tVisit (nbL f) (graphLits f) s x) [] ∧ Chg (fun i => base ≤ i) w w' := by
 have hpl : s.path.length ≤ 1000000 := by have := ht.len; omega
 have hcn : s.cnt ≤ 1000000 := by have := ht.cnt; have := ht.len; omega
 have hwk : s.work = [] := ht.ti.work
 have hst : TV (nbL f) (graphLits f) (tStart s x) [⟨x, 0, []⟩] := by
  have := tEnter_TV ht x h0 hx (fun f fs h => by cases h)
  rw [hwk] at this; exact this
 obtain ⟨fin, hfin⟩ : ∃ fin, fin = tVisit (nbL f) (graphLits f) s x := ⟨_, rfl⟩
 rw [← hfin]
 have HFIN := Lib.hid hfin
 have HST := Lib.hid hst
 have H := Lib.hid h
 have HU := Lib.hid hU
 have HND := Lib.hid hnd
 have HNB := Lib.hid hnb
 have HEN := Lib.hid (fun w' (hE : Ext w w') => enter_any base f B w' pv cv vs s (h.ext hE) x h0 hcn hpl)
 have hws := WS.one w w.heap.size x (Nat.le_refl _)
 clear hfin hst h ht hU hnd hnb hwk hcn hpl
 obtain ⟨w1, hw1⟩ : ∃ w1, w1 = w.alloc (.cells #[.int .i64 x, .int .i64 0] 113) := ⟨_, rfl⟩
 have hE1 : Ext w w1 := hw1 ▸ Ext.alloc w _
 rw [← hw1] at hws
 have HWS := Lib.hid hws
 have HE1 := Lib.hid hE1
 clear hws hE1
 go_enter Tryz.func50, Tryz.ntmps50
 go_upto_region 2 with (go_at_call 98; try rw [← hw1]; refine (HEN.out _ HE1.out).mono ?_; rintro e w2 ⟨pv2, rfl, ht, hk⟩; have HT2 := Lib.hid ht; have HK2 := Lib.hid hk; clear ht hk)
 have HWS2 := Lib.hid (HWS.out.kp HK2.out)
 have HC2 : Hid (Chg (fun i => base ≤ i) w w2) := Lib.hid ((HE1.out.chg _).trans HK2.out.chg)
 obtain ⟨M, hM⟩ : ∃ M, M = mu (nbL f) (graphLits f) (tStart s x) := ⟨_, rfl⟩
 have HM := Lib.hid hM
 clear hM
 go_loopg [4] M (fun gn i wr => ∃ s' fr pv' cv' vs' g cap n, i = .slice (some ⟨g, 0, none⟩) n cap ∧ n ≤ 1000000 ∧ n ≤ cap ∧ Hid (n = s'.work.length) ∧ Hid (TV (nbL f) (graphLits f) s' fr) ∧ Hid (gn = mu (nbL f) (graphLits f) s') ∧ Hid (tRun (nbL f) gn s' = fin) ∧ Hid (TW base f B wr pv' cv' vs' s') ∧ Hid (WS wr w.heap.size g cap s'.work) ∧ Hid (Chg (fun i => base ≤ i) w wr))
 case atStart =>
  exact ⟨tStart s x, _, pv2, cv, vs, w.heap.size, 1, 1, rfl, by omega, by omega, Lib.hid rfl, HST, HM, Lib.hid (by rw [HM.out]; exact HFIN.out.symm), Lib.hid (HT2.out.wk [(x, 0)]), HWS2, HC2⟩
 case round =>
  obtain ⟨s', fr, pv', cv', vs', g, cap, n, rfl, hn, hcap, HN, HTV, HMU, HFI, HT, HW, HC⟩ := hrel
  obtain ⟨w4, rfl⟩ : ∃ w4 : World, w4 = wr := ⟨_, rfl⟩
  by_cases hn0 : n = 0
  · subst hn0
    have hwn : s'.work = [] := List.length_eq_zero_iff.1 HN.out.symm
    have hfe : s' = fin := by have := HFI.out; rw [tRun_nil _ _ hwn] at this; exact this
    subst hfe
    have hfr : fr = [] := by have := HTV.out.ti.work; rw [hwn] at this; exact List.map_eq_nil_iff.1 this.symm
    subst hfr
    have HHF := Lib.hid hwn
    clear hwn
    go_wp2
    go_end0
    exact ⟨_, _, _, rfl, HT.out, HTV.out, HC.out⟩
  · obtain ⟨t, k, rest, hwk⟩ : ∃ t k rest, s'.work = (t, k) :: rest := by
     cases hw : s'.work with
     | nil => have := HN.out; rw [hw] at this; exact absurd this hn0
     | cons p rest => exact ⟨p.1, p.2, rest, rfl⟩
    obtain ⟨m, hm⟩ : ∃ m, m = rest.length := ⟨_, rfl⟩
    have hnm : n = m + 1 := by have := HN.out; rw [hwk, List.length_cons, ← hm] at this; exact this
    have hwr1 : IntKind.i64.wrap ((n : Int) - 1) = (m : Int) := by rw [IntWalk.i64_in _ (by omega)]; omega
    have hn1 : 0 < n := by omega
    have hn2 : (0 : Int) < n := by omega
    have hmn : m < n := by omega
    have hm1 : m ≤ 1000000 := by omega
    have HNM := Lib.hid hnm
    obtain ⟨r, fs, hfr, hpth, htp, hrest⟩ := HTV.out.top hwk
    have hwz := HW.out
    rw [hwk] at hwz
    obtain ⟨ct, ck, fk⟩ := hwz.cellsOf
    rw [← hm] at ct ck fk
    have hlt := hwz.raw
    have c0 := HT.out.fb.cell 0
    have c1 := HT.out.fb.cell 1
    have c2 := HT.out.fb.cell 2
    have c3 := HT.out.fb.cell 3
    simp only [List.getElem?_cons_zero, List.getElem?_cons_succ] at c0 c1 c2 c3
    have hlk := HT.out.gr.lookup t
    obtain ⟨A, c, hrow, hA1, hA2, hA3⟩ := HT.out.gr.row t
    rw [hrow] at hlk
    obtain ⟨L, hL⟩ : ∃ L, L = (nbL f t).length := ⟨_, rfl⟩
    have hfa := HTV.out.ti.frk ⟨t, k, r⟩ (by rw [hfr]; simp)
    have hkL : k ≤ L := by rw [hL]; exact hfa.1
    have hL2 : L ≤ 9223372036854775807 := by rw [hL]; omega
    rw [← hL] at hlk hA1
    have HWK := Lib.hid hwk
    have HRM := Lib.hid hm
    have HWZ := Lib.hid hwz
    have HROW := Lib.hid hrow
    have HA3 := Lib.hid hA3
    have HLL := Lib.hid hL
    have HFR := Lib.hid hfr
    have HPT := Lib.hid hpth
    have HTP := Lib.hid htp
    have HRE := Lib.hid hrest
    clear hn0 hnm hwk hm hwz hrow hA3 hL hfr hpth htp hrest hlt hfa
    have hw0 : s'.work ≠ [] := by rw [HWK.out]; simp
    obtain ⟨fr2, htv2, hmu2⟩ := HTV.out.step HND.out HNB.out hw0
    have hfi2 : tRun (nbL f) (mu (nbL f) (graphLits f) (tStep (nbL f) s')) (tStep (nbL f) s') = fin := by
     have := HFI.out
     rw [HMU.out, ← hmu2, tRun_succ _ _ hw0] at this
     exact this
    have hwl2 : (tStep (nbL f) s').work.length ≤ 1000000 := Nat.le_trans htv2.workl (Nat.le_trans HU.out (by decide))
    have hmlt : mu (nbL f) (graphLits f) (tStep (nbL f) s') < gk := by rw [HMU.out]; omega
    have hpath2 : s'.path.length ≤ 1000000 := by have := HTV.out.len; have := HU.out; omega
    have hcls2 : s'.cls.length ≤ 1000000 := by have := HTV.out.clsl; have := HU.out; omega
    have hcnt2 : s'.cnt ≤ 1000000 := by have := HTV.out.len; have := HTV.out.cnt; have := HU.out; omega
    have htp' : t ∈ s'.path := by rw [HPT.out]; simp
    have htn : s'.num t ≠ 0 := (HTV.out.ti.ent t).2 (.inl htp')
    have HTV2 := Lib.hid htv2
    have HFI2 := Lib.hid hfi2
    have HWL2 := Lib.hid hwl2
    have HMLT := Lib.hid hmlt
    have HPA2 := Lib.hid hpath2
    have HCL2 := Lib.hid hcls2
    have HCN2 := Lib.hid hcnt2
    have HTN := Lib.hid htn
    clear hw0 htv2 hmu2 hfi2 hwl2 hmlt hpath2 hcls2 hcnt2 htp' htn
    have hlk1 := (HT.out.gr.ext (Ext.drew w4)).lookup t
    have hlk2 := ((HT.out.gr.ext (Ext.drew w4)).ext (Ext.drew _)).lookup t
    rw [HROW.out, ← HLL.out] at hlk1 hlk2
    go_wp2
    by_cases hkl : k < L
    · have hkb : decide ((k : Int) < (L : Int)) = true := by simpa using hkl
      go_region
      have hkf : k < (nbL f t).length := Nat.lt_of_lt_of_le hkl (Nat.le_of_eq HLL.out)
      obtain ⟨ad, had, hcy⟩ := HA3.out.int k hkf
      subst had
      generalize hy : (nbL f t)[k] = y at hcy
      have HY : Hid (∃ h : k < (nbL f t).length, (nbL f t)[k] = y) := Lib.hid ⟨hkf, hy⟩
      have hk0 : (0 : Int) ≤ k := by omega
      have hk1 : (k : Int) < L := by omega
      clear hy hkf
      have hwrk : IntKind.i64.wrap ((k : Int) + 1) = (k : Int) + 1 := IntWalk.i64_in _ (by omega)
      have hgB : base ≤ g := Nat.le_trans H.out.sz (by have := HWZ.out.raw; obtain ⟨_, _, h, _⟩ := this; exact h)
      have hT6 : TW base f B ((w4.setCell ⟨g, m * 2 + 1, none⟩ (.int .i64 ((k : Int) + 1))).drew.drew) pv' cv' vs' s' :=
       ((HT.out.step (Chg.set w4 g (m * 2 + 1) (.int .i64 ((k : Int) + 1))) (fun i hi => by
         subst hi
         obtain ⟨cur, h1, -⟩ := HWZ.out.raw
         exact ⟨hgB, cur, h1⟩)).ext (Ext.drew _)).ext (Ext.drew _)
      have hW6 : WS ((w4.setCell ⟨g, m * 2 + 1, none⟩ (.int .i64 ((k : Int) + 1))).drew.drew) w.heap.size g cap ((t, k + 1) :: rest) := by
       have := HWZ.out.bump
       rw [← HRM.out] at this
       exact (this.ext (Ext.drew _)).ext (Ext.drew _)
      have hC6 : Chg (fun i => base ≤ i) w ((w4.setCell ⟨g, m * 2 + 1, none⟩ (.int .i64 ((k : Int) + 1))).drew.drew) :=
       HC.out.trans (((Chg.set w4 g _ _).mono fun i hi => by subst hi; exact hgB).trans (((Ext.drew _).chg _).trans ((Ext.drew _).chg _)))
      have hFg : B.F ≠ g := fun e => by
       obtain ⟨cur, h1, -⟩ := HWZ.out.raw
       have h2 := HT.out.fb
       unfold Blk at h2
       rw [e, h1] at h2
       injection h2 with h2
       injection h2 with _ h2
       exact absurd h2 (by decide)
      have hgF : g ≠ B.F := fun e => hFg e.symm
      have hn6 := hT6.lkn y
      have ho6 := hT6.lko y
      have HT6 := Lib.hid hT6
      have HW6 := Lib.hid hW6
      have HC6 := Lib.hid hC6
      clear hT6 hW6 hC6
      obtain ⟨ny, hny⟩ : ∃ ny, ny = s'.num y := ⟨_, rfl⟩
      obtain ⟨oy, hoy⟩ : ∃ oy, oy = s'.on y := ⟨_, rfl⟩
      rw [← hny] at hn6
      rw [← hoy] at ho6
      have HNY := Lib.hid hny
      have HOY := Lib.hid hoy
      clear hny hoy
      go_wp2
      go_region
      have HNN : Hid (n = ((t, k + 1) :: rest).length) := Lib.hid (by rw [HNM.out, HRM.out]; rfl)
      by_cases hz : ny = 0
      · have HZY : Hid (s'.num y = 0) := Lib.hid (by rw [← HNY.out, hz])
        have HSE : Hid (tStep (nbL f) s' = { tEnter s' y with work := (y, 0) :: (t, k + 1) :: rest }) := Lib.hid (by
         obtain ⟨h1, h2⟩ := HY.out
         subst h2
         exact tStep_new HWK.out h1 HZY.out)
        subst hz
        obtain ⟨i0, hi, hz0, hz1, hz2⟩ := info_parts info_step
        have HI := Lib.hid hi
        have HZ := Lib.hid hz0
        have HZ1 := Lib.hid hz1
        have HZ2 := Lib.hid hz2
        clear hi hz0 hz1 hz2
        go_wp2_with (first
         | (go_at_call 98; refine (enter_any base f B _ pv' cv' vs' s' HT6.out y HZY.out HCN2.out HPA2.out).mono ?_; rintro e w7 ⟨pv7, rfl, ht, hk⟩; have HT7 := Lib.hid ht; have HW7 := Lib.hid (HW6.out.kp hk); have HC7 := Lib.hid (HC6.out.trans hk.chg); clear ht hk)
         | (at_builtin; refine wpList_append_own _ rfl (.tmp 70) (.tmp 73) 114 rfl w.heap.size 113 i0 (.agg #[.int .i64 0, .int .i64 0]) 2 16 Tryz.underlying114 HI.out HZ.out HZ1.out HZ2.out rfl (by decide) _ n (encW ((t, k + 1) :: rest)) rfl (own_ext (by have := HW7.out; unfold WS at this; rw [← HNN.out] at this; exact this) (Ext.alloc w7 _)) ⟨w7.heap.size, 0, none⟩ 1 1 [.int .i64 y, .int .i64 0] rfl rfl (two_cells w7 _ _ _) (by simp [Value.oneCell']) (by unfold maxLen; omega) (by omega) (by have := HC7.out.size; simp; omega) ?_
            intro v' w8 hown hgr _
            obtain ⟨g8, cap8, hv8, hcap8⟩ := own_some hown
            subst hv8
            have HOW8 := Lib.hid hown
            have HC8 := Lib.hid (grown_chg hgr)
            clear hown hgr))
        go_roundg (mu (nbL f) (graphLits f) (tStep (nbL f) s'))
        case measure => exact HMLT.out
        case rel =>
         have hwk2 : (tStep (nbL f) s').work = (y, 0) :: (t, k + 1) :: rest := by rw [HSE.out]
         have hn2 : n + 1 = (tStep (nbL f) s').work.length := by rw [hwk2, List.length_cons, ← HNN.out]
         have hch8 : Chg (fun i => i = g) w7 w8 := ((Ext.alloc w7 _).chg _).trans (HC8.out.mono fun i hi => Option.some.inj hi)
         refine ⟨tStep (nbL f) s', fr2, pv7, cv', vs', g8, cap8, n + 1, rfl, by rw [hn2]; exact HWL2.out, hcap8, Lib.hid hn2, HTV2, Lib.hid rfl, HFI2, Lib.hid ?_, Lib.hid ?_, Lib.hid ?_⟩
         · rw [HSE.out]
           exact (HT7.out.step hch8 (fun i hi => by
            subst hi
            obtain ⟨cur, h1, -⟩ := HW7.out.raw
            exact ⟨hgB, cur, h1⟩)).wk _
         · rw [hwk2]
           refine WS.push ?_
           rw [← HNN.out]
           exact HOW8.out
         · exact HC7.out.trans (hch8.mono fun i hi => by subst hi; exact hgB)
      · have hzb : (ny == 0) = false := by simpa using hz
        have HZY : Hid (s'.num y ≠ 0) := Lib.hid (by rw [← HNY.out]; exact hz)
        cases oy with
        | false =>
          have HSE : Hid (tStep (nbL f) s' = { s' with work := (t, k + 1) :: rest }) := Lib.hid (by
           obtain ⟨h1, h2⟩ := HY.out
           subst h2
           exact tStep_off HWK.out h1 HZY.out HOY.out.symm)
          go_wp2
          go_roundg (mu (nbL f) (graphLits f) (tStep (nbL f) s'))
          case measure => exact HMLT.out
          case rel =>
           have hwk2 : (tStep (nbL f) s').work = (t, k + 1) :: rest := by rw [HSE.out]
           refine ⟨tStep (nbL f) s', fr2, pv', cv', vs', g, cap, n, rfl, hn, hcap, Lib.hid (by rw [hwk2]; exact HNN.out), HTV2, Lib.hid rfl, HFI2, Lib.hid ?_, Lib.hid ?_, HC6⟩
           · rw [HSE.out]; exact HT6.out.wk _
           · rw [hwk2]; exact HW6.out
        | true =>
          have HSE : Hid (tStep (nbL f) s' = { s' with low := fset s'.low t (min (s'.low t) (s'.num y)), work := (t, k + 1) :: rest }) := Lib.hid (by
           obtain ⟨h1, h2⟩ := HY.out
           subst h2
           exact tStep_on HWK.out h1 HZY.out HOY.out.symm)
          obtain ⟨lt, hlt⟩ : ∃ lt, lt = s'.low t := ⟨_, rfl⟩
          obtain ⟨mn, hmn⟩ : ∃ mn, mn = min lt ny := ⟨_, rfl⟩
          have hmin : min lt ny = mn := hmn.symm
          have HMN : Hid (mn = min (s'.low t) (s'.num y)) := Lib.hid (by rw [hmn, hlt, HNY.out])
          have HLT := Lib.hid hlt
          clear hmn hlt
          go_wp2
          clear hn6 ho6 hlk hlk1 hlk2 c0 c1 c2 c3 ct ck fk hcy HT HW HWZ HC
          generalize (w4.setCell ⟨g, m * 2 + 1, none⟩ (.int .i64 ((k : Int) + 1))).drew.drew = w6 at HT6 HW6 HC6 ⊢
          have c1 := HT6.out.fb.cell 1
          have c2 := HT6.out.fb.cell 2
          simp only [List.getElem?_cons_zero, List.getElem?_cons_succ] at c1 c2
          obtain ⟨ct, -, -⟩ := HW6.out.cellsOf
          rw [← HRM.out] at ct
          have T6 := HT6.out.ext (Ext.drew _)
          have hl7 := T6.lkl t
          have hn7 := T6.lkn y
          rw [← HLT.out] at hl7
          rw [← HNY.out] at hn7
          obtain ⟨w7, hup7, t7, k7⟩ := T6.setLow t mn HTN.out
          have HT7 := Lib.hid t7
          have HW7 := Lib.hid ((HW6.out.ext (Ext.drew _)).kp k7)
          have HC7 := Lib.hid (HC6.out.trans (((Ext.drew _).chg _).trans k7.chg))
          clear T6 t7 k7
          go_still_tail 24, (by kernel_rfl)
          go_wp2
          go_roundg (mu (nbL f) (graphLits f) (tStep (nbL f) s'))
          case measure => exact HMLT.out
          case rel =>
           have hwk2 : (tStep (nbL f) s').work = (t, k + 1) :: rest := by rw [HSE.out]
           refine ⟨tStep (nbL f) s', fr2, pv', cv', vs', g, cap, n, rfl, hn, hcap, Lib.hid (by rw [hwk2]; exact HNN.out), HTV2, Lib.hid rfl, HFI2, Lib.hid ?_, Lib.hid ?_, HC7⟩
           · rw [HSE.out, ← HMN.out]; exact HT7.out.wk _
           · rw [hwk2]; exact HW7.out
    · obtain rfl : k = L := by omega
      have hTWa := HT.out.ext (Ext.drew w4)
      have hTWb := hTWa.ext (Ext.drew _)
      have HSE0 : Hid (tStep (nbL f) s' = tPop s' t rest) := Lib.hid (tStep_pop HWK.out (by rw [← HLL.out]; exact Nat.lt_irrefl k))
      have hWp := (HWZ.out.pop.ext (Ext.drew w4)).ext (Ext.drew _)
      obtain ⟨lt, hlt⟩ : ∃ lt, lt = s'.low t := ⟨_, rfl⟩
      obtain ⟨nt, hnt⟩ : ∃ nt, nt = s'.num t := ⟨_, rfl⟩
      have HLT := Lib.hid hlt
      have HNT := Lib.hid hnt
      have hst := slice_to (P := Tryz.prog) Tryz.underlying114 info_step (some ⟨g, 0, none⟩) n cap m (by omega)
      have HNUM : Hid (∀ z ∈ s'.path, s'.num z ≠ 0) := Lib.hid (fun z hz => (HTV.out.ti.ent z).2 (.inl hz))
      have hmcap : m ≤ cap := by omega
      cases rest with
      | nil =>
        have hm0 : m = 0 := HRM.out
        have hll := hTWb.lkl t
        have hnn := hTWb.lkn t
        have hbt := HTV.out.bottom HWK.out
        rw [← hbt, ← hlt] at hnn
        rw [← hlt] at hll
        have HTWB := Lib.hid hTWb
        have HWP := Lib.hid hWp
        have HSE : Hid (tStep (nbL f) s' = tLeave { s' with work := [] } t) := Lib.hid (by
         rw [HSE0.out]; unfold tPop tUp; simp only [if_pos hbt])
        clear hTWa hTWb hWp hbt hlt hnt HSE0
        subst hm0
        go_region
        go_wp2
        go_region
        go_wp2_with (go_at_call 99; refine (leave_any base f B _ pv' cv' vs' { s' with work := [] } (HTWB.out.wk []) t (pathOf fs) r HPT.out HTP.out HNUM.out HPA2.out HCL2.out).mono ?_; rintro e w7 ⟨pv7, cv7, vs7, rfl, ht, hk⟩; have HT7 := Lib.hid ht; have HW7 := Lib.hid (HWP.out.kp hk); have HC7 : Hid (Chg (fun i => base ≤ i) w w7) := Lib.hid (HC.out.trans (((Ext.drew w4).chg _).trans (((Ext.drew _).chg _).trans hk.chg))); clear ht hk)
        go_roundg (mu (nbL f) (graphLits f) (tStep (nbL f) s'))
        case measure => exact HMLT.out
        case rel =>
         have hwk2 : (tStep (nbL f) s').work = [] := by rw [HSE.out]; rfl
         refine ⟨tStep (nbL f) s', fr2, pv7, cv7, vs7, g, cap, 0, rfl, by omega, by omega, Lib.hid (by rw [hwk2]; rfl), HTV2, Lib.hid rfl, HFI2, Lib.hid ?_, Lib.hid ?_, HC7⟩
         · rw [HSE.out]; exact HT7.out
         · rw [hwk2]; exact HW7.out
      | cons p rest2 =>
        obtain ⟨u, ku⟩ := p
        obtain ⟨m2, hm2⟩ : ∃ m2, m2 = rest2.length := ⟨_, rfl⟩
        have hmm : m = m2 + 1 := by rw [HRM.out, hm2]; rfl
        have hwr2 : IntKind.i64.wrap ((m : Int) - 1) = (m2 : Int) := by rw [IntWalk.i64_in _ (by omega)]; omega
        have hm0 : 0 < m := by omega
        have hm0' : (0 : Int) < m := by omega
        have hmm2 : m2 < m := by omega
        have HMM := Lib.hid hmm
        obtain ⟨cu, -, -⟩ := HWZ.out.pop.cellsOf
        rw [← hm2] at cu
        have hup : u ∈ s'.path := by
         have h1 := HRE.out
         cases fs with
         | nil => cases h1
         | cons f1 fs1 =>
           simp only [List.map_cons, List.cons.injEq, Prod.mk.injEq] at h1
           rw [HPT.out, h1.1.1]
           simp [pathOf]
        have hut : t ≠ u := fun e => by
         have h1 := HRE.out
         have h2 := HTP.out
         cases fs with
         | nil => cases h1
         | cons f1 fs1 =>
           simp only [List.map_cons, List.cons.injEq, Prod.mk.injEq] at h1
           exact h2 (by rw [e, h1.1.1]; simp [pathOf])
        obtain ⟨lu, hlu⟩ : ∃ lu, lu = s'.low u := ⟨_, rfl⟩
        obtain ⟨mn, hmn⟩ : ∃ mn, mn = min lu lt := ⟨_, rfl⟩
        have hmin : min lu lt = mn := hmn.symm
        have HUN : Hid (s'.num u ≠ 0) := Lib.hid ((HTV.out.ti.ent u).2 (.inl hup))
        have HUT := Lib.hid hut
        have HSE1 : Hid (tStep (nbL f) s' = if lt = nt then tLeave { s' with low := fset s'.low u mn, work := (u, ku) :: rest2 } t else { s' with low := fset s'.low u mn, work := (u, ku) :: rest2 }) := Lib.hid (by
         rw [HSE0.out]; unfold tPop tUp
         simp only [fset_ne _ _ hut, hmn, hlt, hnt, hlu])
        have HRL : Hid (m = ((u, ku) :: rest2).length) := HRM
        have HTA := Lib.hid hTWa
        have HWA : Hid (WS w4.drew w.heap.size g cap ((u, ku) :: rest2)) := Lib.hid (HWZ.out.pop.ext (Ext.drew w4))
        have HCA : Hid (Chg (fun i => base ≤ i) w w4.drew) := Lib.hid (HC.out.trans ((Ext.drew w4).chg _))
        have HLU := Lib.hid hlu
        clear hTWa hTWb hWp hlt hnt hlu HSE0 hmm hm2 hup hut hmn
        go_region
        go_wp2
        clear hlk hlk1 hlk2 c0 c1 c2 c3 ct ck fk cu HT HW HWZ HC
        generalize w4.drew = w5 at HTA HWA HCA ⊢
        have c1 := HTA.out.fb.cell 1
        have c2 := HTA.out.fb.cell 2
        simp only [List.getElem?_cons_zero, List.getElem?_cons_succ] at c1 c2
        have T5 := HTA.out.ext (Ext.drew _)
        have hlu7 := T5.lkl u
        have hlt7 := T5.lkl t
        rw [← HLU.out] at hlu7
        rw [← HLT.out] at hlt7
        obtain ⟨w7, hup7, t7, k7⟩ := T5.setLow u mn HUN.out
        have HT7 := Lib.hid t7
        have HW7 := Lib.hid ((HWA.out.ext (Ext.drew _)).kp k7)
        have HC7 : Hid (Chg (fun i => base ≤ i) w w7) := Lib.hid (HCA.out.trans (((Ext.drew w5).chg _).trans k7.chg))
        clear T5 t7 k7
        go_still_tail 18, (by kernel_rfl)
        go_wp2
        clear c1 c2 hlu7 hlt7 hup7 HTA HWA HCA
        have c1 := HT7.out.fb.cell 1
        have c2 := HT7.out.fb.cell 2
        simp only [List.getElem?_cons_zero, List.getElem?_cons_succ] at c1 c2
        have T8 := HT7.out.ext (Ext.drew _)
        have hl8 := T8.lkl t
        have hn8 := T8.lkn t
        have e8 : fset s'.low u mn t = lt := by rw [fset_ne _ _ HUT.out, HLT.out]
        simp only [e8, ← HNT.out] at hl8 hn8
        have HT8 := Lib.hid (T8.wk ((u, ku) :: rest2))
        have HW8 := Lib.hid (HW7.out.ext (Ext.drew _))
        have HC8 : Hid (Chg (fun i => base ≤ i) w w7.drew) := Lib.hid (HC7.out.trans ((Ext.drew w7).chg _))
        clear T8 e8
        by_cases hle : lt = nt
        · subst hle
          have HSE : Hid (tStep (nbL f) s' = tLeave { s' with low := fset s'.low u mn, work := (u, ku) :: rest2 } t) := Lib.hid (by rw [HSE1.out, if_pos rfl])
          go_region
          go_wp2_with (go_at_call 99; refine (leave_any base f B _ pv' cv' vs' { s' with low := fset s'.low u mn, work := (u, ku) :: rest2 } HT8.out t (pathOf fs) r HPT.out HTP.out HNUM.out HPA2.out HCL2.out).mono ?_; rintro e w9 ⟨pv9, cv9, vs9, rfl, ht, hk⟩; have HT9 := Lib.hid ht; have HW9 := Lib.hid (HW8.out.kp hk); have HC9 : Hid (Chg (fun i => base ≤ i) w w9) := Lib.hid (HC8.out.trans hk.chg); clear ht hk)
          go_roundg (mu (nbL f) (graphLits f) (tStep (nbL f) s'))
          case measure => exact HMLT.out
          case rel =>
           have hwk2 : (tStep (nbL f) s').work = (u, ku) :: rest2 := by rw [HSE.out]; rfl
           refine ⟨tStep (nbL f) s', fr2, pv9, cv9, vs9, g, cap, m, rfl, by omega, hmcap, Lib.hid (by rw [hwk2]; exact HRL.out), HTV2, Lib.hid rfl, HFI2, Lib.hid ?_, Lib.hid ?_, HC9⟩
           · rw [HSE.out]; exact HT9.out
           · rw [hwk2]; exact HW9.out
        · have hleb : (lt == nt) = false := by simpa using hle
          have HSE : Hid (tStep (nbL f) s' = { s' with low := fset s'.low u mn, work := (u, ku) :: rest2 }) := Lib.hid (by rw [HSE1.out, if_neg hle])
          go_region
          go_wp2
          go_roundg (mu (nbL f) (graphLits f) (tStep (nbL f) s'))
          case measure => exact HMLT.out
          case rel =>
           have hwk2 : (tStep (nbL f) s').work = (u, ku) :: rest2 := by rw [HSE.out]
           refine ⟨tStep (nbL f) s', fr2, pv', cv', vs', g, cap, m, rfl, by omega, hmcap, Lib.hid (by rw [hwk2]; exact HRL.out), HTV2, Lib.hid rfl, HFI2, Lib.hid ?_, Lib.hid ?_, HC8⟩
           · rw [HSE.out]; exact HT8.out
           · rw [hwk2]; exact HW8.out
end Go.Proofs.YtjecjaihficcdaaGreat
namespace Go.Proofs.YtjecjaihficcdaaGreat
open Go.RowKit
abbrev Hp (w0 : World) (base : Nat) : Type := { p : Value × List Int // OwnI w0 base p.1 p.2 ∧ All64 p.2 ∧ p.2 ≠ [] }
def hdI (l : List Int) : Int := l.headD 0
def hpF {w0 : World} {base : Nat} (x y : Hp w0 base) : Int := ordE (hdI x.1.2) (hdI y.1.2)
theorem hpF_lt {w0 : World} {base : Nat} (x y : Hp w0 base) : ltOf hpF x y = decide (elt (hdI x.1.2) (hdI y.1.2)) := by
 unfold ltOf hpF
 rw [decide_eq_decide]
 exact ordE_neg _ _
theorem swo_hp (w0 : World) (base : Nat) : Sort.SWO (ltOf (hpF (w0 := w0) (base := base))) := by
 refine ⟨fun x => ?_, fun x y z h k => ?_, fun x y z h k => ?_⟩
 · rw [hpF_lt, decide_eq_false_iff_not]; unfold elt; omega
 · rw [hpF_lt, decide_eq_true_eq] at *; unfold elt at *; omega
 · rw [hpF_lt, decide_eq_false_iff_not] at *; unfold elt at *; omega
theorem hdI_64 {l : List Int} (h : All64 l) : I64 (hdI l) := by
 cases l with
 | nil => unfold hdI I64; simp
 | cons x l => exact h x (by simp)
theorem RI.headI {w : World} {v : Value} {l : List Int} (h : RI w v l) (hn : l ≠ []) : ∃ ad n c, v = .slice (some ad) n c ∧ 0 < n ∧ w.cell? ad = some (.int .i64 (hdI l)) := by
 obtain ⟨A, c, rfl, h1, h2, h3⟩ := h
 cases l with
 | nil => exact absurd rfl hn
 | cons x l =>
   obtain ⟨ad, rfl, hc⟩ := h3.int 0 (by simp)
   refine ⟨ad, _, c, rfl, by simp, ?_⟩
   have e : ad.add 0 = ad := by unfold Addr.add; split <;> simp_all
   rw [e] at hc
   exact hc
set_option maxRecDepth 100000 in
set_option maxHeartbeats 1000000 in
theorem classes1_fn (xs ys : List Int) (v u : Value) (w : World) (hr : RI w v xs) (kr : RI w u ys) (hx : All64 xs) (hy : All64 ys) (nx : xs ≠ []) (ny : ys ≠ []) :
 Calls Tryz.prog 53 #[v, u] w fun e w' => e = .returned (.int .i64 (ordE (hdI xs) (hdI ys))) ∧ ∃ q os', w' = Sort.grow (w.drewN q) os' := by
 obtain ⟨ad, n, c, rfl, hn, h1⟩ := hr.headI nx
 obtain ⟨ad2, n2, c2, rfl, hn2, h2⟩ := kr.headI ny
 have hx0 := hdI_64 hx
 have hy0 := hdI_64 hy
 generalize hdI xs = a at h1 hx0 ⊢
 generalize hdI ys = b at h2 hy0 ⊢
 have HO := Lib.hid (fun W => orderE_any a b hx0 hy0 W)
 clear hr kr hx hy nx ny hx0 hy0
 go_enter Tryz.func53, Tryz.ntmps53
 go_wp2
 go_still_tail 6, (by kernel_rfl)
 go_wp2_with (go_at_call 41; refine (HO.out _).mono ?_; rintro e w' ⟨rfl, o, rfl⟩)
 go_ret
 exact ⟨rfl, 1, #[o], (show (w.alloc o).drew = (w.drewN 1).alloc o from rfl).trans (Sort.alloc_eq_grow _ o)⟩
theorem own_neb {w : World} {b b' s s' n n' k : Nat} {e e' : TypeId} {v v' : Value} {xs xs' : List Value} (h : w.ownsRow b e s v n xs) (h' : w.ownsRow b' e' s' v' n' xs') (hne : e ≠ e') (hk : v.ownBlock = some k) : v'.ownBlock ≠ some k := fun hk' => by
 obtain ⟨-, -, c1, e1⟩ := own_typed h hk
 obtain ⟨-, -, c2, e2⟩ := own_typed h' hk'
 rw [e1] at e2
 injection e2 with e2
 injection e2 with _ e2
 exact hne e2
theorem sortHL (w : World) (base bo : Nat) (ps : List (Hp w base)) (v : Value) (hown : w.ownsRow bo 24 1 v ps.length (ps.map fun p => p.1.1)) (hl : ps.length ≤ 100000000) (hv : ps = [] → v = .slice none 0 0) :
 Calls Tryz.prog 52 #[v, .func (.func 53) #[] #[]] w fun e w' => ∃ qs : List (Hp w base), e = .returned (.tuple #[]) ∧ w'.ownsRow bo 24 1 v qs.length (qs.map fun p => p.1.1) ∧ w.grownBy w' v.ownBlock ∧ qs.Perm ps ∧ qs.Pairwise (fun a b => ¬ elt (hdI b.1.2) (hdI a.1.2)) := by
 have hown0 := hown
 obtain ⟨h0, ⟨rfl, hz⟩ | ⟨g, cap, cur, rfl, hb, hg, hn, hm, hs, ht⟩⟩ := hown
 · have : ps = [] := List.length_eq_zero_iff.1 hz
   subst this
   refine (AnyF.slices_SortFunc_none (P := Tryz.prog) (ρ := Tryz.laysSlF6_f52_ren) { Tryz.laysSlF6_f52 with } none 0 _ w).mono ?_
   rintro e w' ⟨rfl, rfl⟩
   exact ⟨[], rfl, World.ownsRow_nil _ _ _ 1, ⟨rfl, rfl, rfl, Nat.le_refl _, fun _ _ _ => rfl⟩, List.Perm.refl _, List.Pairwise.nil⟩
 · haveI : Inhabited (Hp w base) := by
    cases ps with
    | nil => have := hv rfl; cases this
    | cons p _ => exact ⟨p⟩
   have hrd : ∀ (x : Hp w base) (m : Nat) (os : Array Obj) (dk : Array (Hp w base)), OwnI (sortWorld (fun p : Hp w base => p.1.1) w g 0 m dk os) base x.1.1 x.1.2 := fun x m os dk =>
    (grown_chg (sortW_grown dk)).own x.2.1 (fun b hb hs => own_neb x.2.1 hown0 (by decide) hb hs.symm)
   refine (Tryz.slices_SortFunc_f52 (fun p : Hp w base => p.1.1) (fun p => by obtain ⟨A, c, e, -⟩ := OwnI.reads p.2.1; show p.1.1.oneCell' = true; rw [e]; rfl) hpF (swo_hp w base) 53 #[] g 0 cap ps.toArray w (enters_of Tryz.func53 (by kernel_rfl) rfl)
    (fun m os dk _ x y => (classes1_fn x.1.2 y.1.2 x.1.1 y.1.1 _ (OwnI.reads (hrd x m os dk)) (OwnI.reads (hrd y m os dk)) x.2.2.1 y.2.2.1 x.2.2.2 y.2.2.2).mono fun e w' ⟨he, n, o, ho⟩ => ⟨he, n, o, ho⟩)
    (holds_blk hg (by rw [Nat.mul_one] at ht; exact ht)) (Array.getElem?_eq_some_iff.1 hg).1 (by simp; omega)).mono ?_
   rintro e w' ⟨rfl, d', n, os, ⟨hsz, -, hperm⟩, hsort, rfl⟩
   have hdl : d'.toList.length = ps.length := by simpa using hsz
   have hp : d'.toList.Perm ps := by
    have h1 : d'.extract 0 ps.toArray.size = d' := by rw [← hsz]; simp
    have h2 : ps.toArray.extract 0 ps.toArray.size = ps.toArray := by simp
    rw [h1, h2] at hperm
    simpa using hperm
   refine ⟨d'.toList, rfl, ?_, sortW_grown d', hp, ?_⟩
   · have h3 := sortW_heap (enc := fun p : Hp w base => p.1.1) (n := n) (os := os) d' hg
     have h4 := take_putc (enc := fun p : Hp w base => p.1.1) cur d'.toList (by omega)
     rw [hdl] at h4
     rw [hdl]
     refine ⟨by simp [hdl], .inr ⟨g, cap, _, rfl, hb, h3, hn, hm, by simp [Sort.putCells, hs], ?_⟩⟩
     rw [Nat.mul_one]
     simpa using h4
   · rw [List.pairwise_iff_getElem]
     intro i j hi hj hij
     have := hsort i j (Nat.zero_le _) hij (by simp; omega)
     rw [hpF_lt, decide_eq_false_iff_not] at this
     have hi' : i < d'.size := by simpa using hi
     have hj' : j < d'.size := by simpa using hj
     rw [getElem!_pos d' i hi', getElem!_pos d' j hj'] at this
     simpa using this
end Go.Proofs.YtjecjaihficcdaaGreat
namespace Go.Proofs.YtjecjaihficcdaaGreat
def t0 : Tj := ⟨fun _ => 0, fun _ => 0, fun _ => false, 0, [], [], []⟩
theorem t0_TI (nb : Int → List Int) : TI nb t0 [] :=
 ⟨rfl, rfl, List.Pairwise.nil, fun y => by simp [t0], fun y => by simp [t0], fun y => by simp [t0], fun y hy => by simp [t0] at hy, fun y hy => by simp [t0] at hy, fun y hy => by simp [t0] at hy,
  fun f hf => by simp at hf, fun f hf => by simp at hf, List.Pairwise.nil, fun C hC => by simp [t0] at hC, fun A C B he => by simp [t0] at he, by simp [t0]⟩
theorem t0_TV (nb : Int → List Int) (U : List Int) : TV nb U t0 [] := ⟨t0_TI nb, fun _ hy => absurd rfl hy, rfl⟩
def tOne (nb : Int → List Int) (U : List Int) (s : Tj) (x : Int) : Tj := if s.num x = 0 then tVisit nb U s x else s
def tAll (nb : Int → List Int) (U xs : List Int) : Tj := xs.foldl (tOne nb U) t0
theorem tAll_snoc (nb : Int → List Int) (U xs : List Int) (x : Int) : tAll nb U (xs ++ [x]) = tOne nb U (tAll nb U xs) x := by unfold tAll; rw [List.foldl_append]; rfl
def clsOf (f : List (List Int)) : List (List Int) := (tAll (nbL f) (graphLits f) (graphLits f)).cls.map (setL [])
def goodC (c : List Int) : Bool := decide (1 < c.length) && (decide (0 < c.headD 0) || decide (c.tail.headD 0 = -(c.headD 0)))
end Go.Proofs.YtjecjaihficcdaaGreat
