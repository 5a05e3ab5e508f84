/- Walks and plain laws that this claim uses. -/
import Derived.Test.YtjecjaihficcdaaGreatMxF
import Derived.Test.YtjecjaihficcdaaGreatMxI
import Derived.Deep.DrawnRows
import Derived.Deep.RegionLaw
import Derived.Deep.AppendLies
import Derived.Test.YtjecjaihficcdaaGreatMxE
import Derived.Test.YtjecjaihficcdaaGreatMxA
import Derived.Test.YtjecjaihficcdaaGreatMxG
import Derived.Test.YtjecjaihficcdaaGreatMxH
import Derived.Deep.Cut
namespace Go.Proofs.YtjecjaihficcdaaGreat
open Go.RowKit
attribute [local go_sem ↓] Go.wp_at_zero Go.wp_at_succ
def encX (ps : List (Int × Value)) : List Value := ps.flatMap fun p => [.int .i64 p.1, p.2]
theorem encX_snoc (ps : List (Int × Value)) (p : Int × Value) : encX (ps ++ [p]) = encX ps ++ [.int .i64 p.1, p.2] := by unfold encX; rw [List.flatMap_append]; simp
theorem fin_neq {w : World} {base g n sz : Nat} {e e' : TypeId} {cur : List Value} {v : Value} {xs : List Value} (hb : Blk w g e cur) (h : w.ownsRow base e' sz v n xs) (hne : e ≠ e') : ¬ v.ownBlock = some g := fun hk => by
 obtain ⟨-, -, cur', h1⟩ := own_typed h hk
 unfold Blk at hb
 rw [hb] at h1
 injection h1 with h1
 injection h1 with _ h1
 exact hne h1
def OwnX (w : World) (base : Nat) (v : Value) (X : List (Int × List Int)) : Prop :=
 ∃ ps : List (Int × Value), w.ownsRow base 61 2 v X.length (encX ps) ∧ ps.length = X.length ∧ ∀ j (h : j < ps.length) (h' : j < X.length), ps[j].1 = X[j].1 ∧ OwnI w base ps[j].2 X[j].2
theorem OwnX.nil (w : World) (base : Nat) : OwnX w base (.slice none 0 0) [] := ⟨[], World.ownsRow_nil _ _ _ 2, rfl, fun j h => absurd h (Nat.not_lt_zero j)⟩
theorem info_dep : (Tryz.prog.info? 61).map (fun i => (i.zero, i.size, i.bytes)) = some (some (.agg #[.int .i64 0, .slice none 0 0]), 2, 32) := by kernel_rfl
theorem OwnX.keep {S : Nat → Prop} {w w' : World} {base : Nat} {v : Value} {X : List (Int × List Int)} (h : OwnX w base v X) (hc : Chg S w w') (hS : ∀ i, S i → ∀ cur : Array Value, w.heap[i]? = some (.cells cur 3 (0, 0)) ∨ w.heap[i]? = some (.cells cur 61 (0, 0)) → False) : OwnX w' base v X := by
 obtain ⟨ps, h1, h2, h3⟩ := h
 refine ⟨ps, hc.own h1 (fun k hk hs => ?_), h2, fun j hj hj' => ⟨(h3 j hj hj').1, hc.own (h3 j hj hj').2 (fun k hk hs => ?_)⟩⟩
 · obtain ⟨-, -, cur, hcur⟩ := own_typed h1 hk
   exact hS k hs cur (.inr hcur)
 · obtain ⟨-, -, cur, hcur⟩ := own_typed (h3 j hj hj').2 hk
   exact hS k hs cur (.inl hcur)
theorem OwnX.ext {w w' : World} {base : Nat} {v : Value} {X : List (Int × List Int)} (h : OwnX w base v X) (k : Ext w w') : OwnX w' base v X := h.keep (k.chg (fun _ => False)) (fun _ h => h.elim)
theorem OwnX.reads {w : World} {base : Nat} {v : Value} {X : List (Int × List Int)} (h : OwnX w base v X) : RX w v X := by
 obtain ⟨ps, ⟨h0, ⟨rfl, h1⟩ | ⟨g, cap, cur, rfl, hb, hg, hn, hm, hs, ht⟩⟩, h2, h3⟩ := h
 · have : X = [] := List.length_eq_zero_iff.1 h1
   subst this
   exact ⟨none, 0, [], rfl, Nat.le_refl _, by simp, rfl, fun j h => absurd h (Nat.not_lt_zero j)⟩
 · refine ⟨_, cap, ps.map Prod.snd, rfl, hn, by unfold maxLen at hm; omega, by rw [List.length_map, h2], fun j hj hj' => ?_⟩
   have hjp : j < ps.length := by rw [h2]; exact hj
   obtain ⟨e1, e2⟩ := h3 j hjp hj
   have hcell : ∀ i, i < 2 → w.cell? ⟨g, j * 2 + i, none⟩ = (encX ps)[j * 2 + i]? := fun i hi => by
    rw [cell_of_row w g _ cur _ (0, 0) hg]
    have h9 : (cur.toList.take (X.length * 2))[j * 2 + i]? = (encX ps)[j * 2 + i]? := by rw [ht]
    rw [List.getElem?_take_of_lt (by omega), Array.getElem?_toList] at h9
    exact h9
   have henc : ∀ (ps : List (Int × Value)) (j : Nat) (h : j < ps.length), (encX ps)[j * 2]? = some (.int .i64 ps[j].1) ∧ (encX ps)[j * 2 + 1]? = some ps[j].2 := by
    intro ps
    induction ps with
    | nil => intro j h; exact absurd h (Nat.not_lt_zero j)
    | cons p ps ih =>
      intro j h
      have e : encX (p :: ps) = .int .i64 p.1 :: p.2 :: encX ps := rfl
      cases j with
      | zero => rw [e]; exact ⟨rfl, rfl⟩
      | succ j =>
        have := ih j (by simpa using h)
        rw [e, show (j + 1) * 2 = j * 2 + 1 + 1 by omega]
        simp only [List.getElem?_cons_succ, List.getElem_cons_succ]
        exact this
   obtain ⟨q1, q2⟩ := henc ps j hjp
   refine ⟨_, rfl, ?_, ?_, ?_⟩
   · rw [addr0]; have := hcell 0 (by omega); rw [Nat.add_zero] at this; rw [this, q1, e1]
   · rw [addr0]; have := hcell 1 (by omega); show w.cell? ⟨g, j * 2 + 1, none⟩ = _; rw [this, q2, List.getElem_map]
   · rw [List.getElem_map]; exact OwnI.reads e2
theorem len_le_total {f : List (List Int)} {l : List Int} (h : l ∈ f) : l.length ≤ total f := by
 unfold total lens
 rw [List.take_length]
 induction f with
 | nil => cases h
 | cons c f ih =>
   rw [List.map_cons, List.sum_cons]
   rcases List.mem_cons.1 h with rfl | h
   · omega
   · have := ih h; omega
theorem mid_set (f : Int → Int) (l : List Int) (j : Nat) (h : j < l.length) : ((l.take j).map f ++ l.drop j).set j (f l[j]) = (l.take (j + 1)).map f ++ l.drop (j + 1) := by
 have e : ((l.take j).map f).length = j := by rw [List.length_map, List.length_take]; omega
 rw [List.set_append_right _ _ (by omega), e, Nat.sub_self, List.drop_eq_getElem_cons h, List.set_cons_zero, List.take_succ_eq_append_getElem h, List.map_append]
 simp
theorem mid_get (f : Int → Int) (l : List Int) (j : Nat) (h : j < l.length) (h2 : j < ((l.take j).map f ++ l.drop j).length) : ((l.take j).map f ++ l.drop j)[j] = l[j] := by
 have e : ((l.take j).map f).length = j := by rw [List.length_map, List.length_take]; omega
 rw [List.getElem_append_right (by omega)]
 simp only [List.getElem_drop]
 congr 1
 omega
theorem mid_len (f : Int → Int) (l : List Int) (j : Nat) : ((l.take j).map f ++ l.drop j).length = l.length := by simp; omega
theorem own_free {w : World} {base g n c j : Nat} {xs : List Int} (h : OwnI w base (.slice (some ⟨g, 0, none⟩) n c) xs) : w.frozen? ⟨g, j, none⟩ = false := by
 obtain ⟨-, ⟨he, -⟩ | ⟨g', cap, cur, he, hb, hg, -⟩⟩ := h
 · cases he
 · injection he with e1
   injection e1 with e1
   injection e1 with e1
   subst e1
   unfold World.frozen?
   simp [hg]
theorem own_setI {w : World} {base g n c : Nat} {xs : List Int} (h : OwnI w base (.slice (some ⟨g, 0, none⟩) n c) xs) (j : Nat) (y : Int) : OwnI (w.setCell ⟨g, j, none⟩ (.int .i64 y)) base (.slice (some ⟨g, 0, none⟩) n c) (xs.set j y) := by
 unfold OwnI at *
 obtain ⟨h0, ⟨he, -⟩ | ⟨g', cap, cur, he, hb, hg, hn, hm, hs, ht⟩⟩ := h
 · cases he
 · injection he with e1 e2 e3
   injection e1 with e1
   injection e1 with e1
   subst e1 e3
   refine ⟨by simp, .inr ⟨g, c, cur.setIfInBounds j (.int .i64 y), by rw [List.length_set, e2], hb, heap_setCell_same w g _ cur _ _ hg, by simpa using hn, hm, by simpa using hs, ?_⟩⟩
   rw [Array.toList_setIfInBounds, List.take_set]
   have this : List.take ((xs.set j y).length * 1) cur.toList = xs.map (Value.int .i64) := by simpa using ht
   rw [this, List.map_set]
theorem OwnLL.keep {S : Nat → Prop} {w w' : World} {base : Nat} {v : Value} {f : List (List Int)} (h : OwnLL w base v f) (hc : Chg S w w') (hS : ∀ i, S i → ∀ cur : Array Value, w.heap[i]? = some (.cells cur 3 (0, 0)) ∨ w.heap[i]? = some (.cells cur 24 (0, 0)) → False) : OwnLL w' base v f := by
 obtain ⟨vs, h1, h2, h3⟩ := h
 refine ⟨vs, hc.own h1 (fun k hk hs => ?_), h2, fun j hj hj' => hc.own (h3 j hj hj') (fun k hk hs => ?_)⟩
 · obtain ⟨-, -, cur, hcur⟩ := own_typed h1 hk
   exact hS k hs cur (.inr hcur)
 · obtain ⟨-, -, cur, hcur⟩ := own_typed (h3 j hj hj') hk
   exact hS k hs cur (.inl hcur)
theorem depX {base b7 gC capC nX : Nat} {wA wB wC : World} {u xv cv vB : Value} {X0 : List (Int × List Int)} {x : Int × List Int} {ps : List (Int × Value)} (hnX : nX = X0.length) (p1 : wA.ownsRow base 61 2 xv nX (encX ps)) (p2 : ps.length = nX)
 (p3 : ∀ j (h : j < ps.length) (h' : j < X0.length), ps[j].1 = X0[j].1 ∧ OwnI wA base ps[j].2 X0[j].2) (hAB : Ext wA wB) (hBB : Blk wB b7 27 [u, xv, cv]) (hob : OwnI wB base vB x.2)
 (hOC : wC.ownsRow base 61 2 (.slice (some ⟨gC, 0, none⟩) (nX + 1) capC) (nX + 1) (encX ps ++ [.int .i64 x.1, vB])) (hcC : Chg (fun i => some i = xv.ownBlock) wB wC) (hb7 : base ≤ b7) :
 Blk (wC.setCell ⟨b7, 1, none⟩ (.slice (some ⟨gC, 0, none⟩) (nX + 1) capC)) b7 27 [u, .slice (some ⟨gC, 0, none⟩) (nX + 1) capC, cv] ∧ OwnX (wC.setCell ⟨b7, 1, none⟩ (.slice (some ⟨gC, 0, none⟩) (nX + 1) capC)) base (.slice (some ⟨gC, 0, none⟩) (nX + 1) capC) (X0 ++ [x]) ∧
  Chg (fun i => base ≤ i) wB (wC.setCell ⟨b7, 1, none⟩ (.slice (some ⟨gC, 0, none⟩) (nX + 1) capC)) ∧ ∀ (vv : Value) (xs : List Int), OwnI wA base vv xs → OwnI (wC.setCell ⟨b7, 1, none⟩ (.slice (some ⟨gC, 0, none⟩) (nX + 1) capC)) base vv xs := by
 have hrow := own_ext p1 hAB
 have hbC := hcC.blk hBB (fun h => fin_neq hBB hrow (by decide) h.symm)
 have hset := Chg.set wC b7 1 (.slice (some ⟨gC, 0, none⟩) (nX + 1) capC)
 have hCD : Chg (fun i => some i = xv.ownBlock ∨ i = b7) wB (wC.setCell ⟨b7, 1, none⟩ (.slice (some ⟨gC, 0, none⟩) (nX + 1) capC)) := (hcC.mono fun i hi => .inl hi).trans (hset.mono fun i hi => .inr hi)
 have hint : ∀ {vv : Value} {xs : List Int}, OwnI wB base vv xs → OwnI (wC.setCell ⟨b7, 1, none⟩ (.slice (some ⟨gC, 0, none⟩) (nX + 1) capC)) base vv xs := fun ho => hCD.own ho (fun b hb hs => by
  rcases hs with hs | hs
  · exact own_neb ho hrow (by decide) hb hs.symm
  · exact fin_neq hBB ho (by decide) (hs ▸ hb))
 refine ⟨hbC.set 1 _, ⟨ps ++ [(x.1, vB)], ?_, ?_, ?_⟩, hCD.mono fun i hi => ?_, fun vv xs h => hint (own_ext h hAB)⟩
 · rw [encX_snoc, List.length_append, ← hnX]
   exact hset.own hOC (fun b hb hs => fin_neq hbC hOC (by decide) (hs ▸ hb))
 · rw [List.length_append, List.length_append, p2, ← hnX]; rfl
 · intro j hj hj'
   by_cases hjl : j < ps.length
   · have q1 : (ps ++ [(x.1, vB)])[j] = ps[j] := List.getElem_append_left hjl
     have hjx : j < X0.length := by rw [← hnX, ← p2]; exact hjl
     have q2 : (X0 ++ [x])[j] = X0[j] := List.getElem_append_left hjx
     rw [q1, q2]
     exact ⟨(p3 j hjl hjx).1, hint (own_ext (p3 j hjl hjx).2 hAB)⟩
   · have ej : j = ps.length := by rw [List.length_append, List.length_singleton] at hj; omega
     have ex : X0.length = ps.length := by rw [← hnX, ← p2]
     have q1 : (ps ++ [(x.1, vB)])[j] = (x.1, vB) := by rw [List.getElem_append_right (by omega)]; simp
     have q2 : (X0 ++ [x])[j] = x := by rw [List.getElem_append_right (by omega)]; simp
     rw [q1, q2]
     exact ⟨rfl, hint hob⟩
 · rcases hi with hi | hi
   · exact (own_typed hrow hi.symm).1
   · rw [hi]; exact hb7
set_option maxRecDepth 100000 in
set_option maxHeartbeats 8000000 in
theorem Make_ok (d : DqV) (c : ChV) (vu vx vc : Value) (w : World) (hd : RD w vu vx vc d) (ok : DOk d) (cok : COk c) (hm : mayD d = true) (hyes : okCh d c = true) : Calls Tryz.prog 21 #[.agg #[vu, vx, vc], .agg (chArr c)] w (PostMake w (madeV d c, 0)) := by
 have HM := Lib.hid (fun w' (h : Ext w w') => MayD_any d vu vx vc w' ok.x64 ok.c64 (hd.u.ext h) (hd.x.ext h) (RLL.ext' hd.c h) (fun _ => by have := ok.tot; omega) ok.xl ok.ul)
 have HAL := Lib.hid (fun w' (h : Ext w w') => allowed_any d vu vx vc c.lit c.tz w' (hd.ext h) ok cok.t)
 have HP1 := Lib.hid (fun w' (h : Ext w w') => pair_any d vu vx vc c.pos (-c.lit) c.tz w' (hd.ext h) ok)
 have HP2 := Lib.hid (fun w' (h : Ext w w') => pair_any d vu vx vc c.other c.lit (-c.tz) w' (hd.ext h) ok)
 have hh := hyes
 unfold okCh at hh
 simp only [Bool.and_eq_true, decide_eq_true_eq] at hh
 obtain ⟨h1, h2, hal, hp1, hp2⟩ := hh
 rw [hm] at HM
 rw [hal] at HAL
 rw [hp1] at HP1
 rw [hp2] at HP2
 have ht0 := (hasR_lit hm hp1).2
 have hte := varOf_eq ht0
 have htr := varOf_range c.tz
 have HD := Lib.hid hd
 have OK := Lib.hid ok
 obtain ⟨⟨UA, uc, hue, -⟩, ⟨XA, xc, ons, hxe, -⟩, ⟨CA, cc, us, hce, -, -, -, hcl4, -⟩⟩ := hd
 subst hue hxe hce
 have HCL4 := Lib.hid hcl4
 clear ok hm hyes hal hp1 hp2 hcl4
 unfold chArr
 obtain ⟨W, hW, B0, B1, B2, hEW, hsW⟩ := mk_new w (.slice UA d.univ.length uc) (.slice XA d.exist.length xc) (.slice CA us.length cc) c.kind c.lit c.tz c.pos c.other
 have HB0 := Lib.hid B0
 have HB1 := Lib.hid B1
 have HB2 := Lib.hid B2
 have HEW := Lib.hid hEW
 have HW := Lib.hid hW
 have HSW := Lib.hid hsW
 clear B0 B1 B2 hEW hsW hW
 obtain ⟨k, hk⟩ : ∃ k, k = c.kind := ⟨_, rfl⟩
 obtain ⟨x, hx⟩ : ∃ x, x = c.lit := ⟨_, rfl⟩
 obtain ⟨t, ht⟩ : ∃ t, t = c.tz := ⟨_, rfl⟩
 have hx64 := cok.l
 rw [← hk, ← hx, ← ht] at HB1 HW
 rw [← hx, ← ht] at HAL HP1 HP2
 rw [← hx] at hx64 h2
 rw [← hk] at h1
 rw [← ht] at hte htr ht0
 rw [← hk, ← hx, ← ht]
 have HMV : Hid (madeV d c = ⟨d.univ, d.exist.filter (fun y => !decide (y.1 = x)), d.clauses.filterMap (normC x t)⟩) := Lib.hid (by rw [hx, ht]; rfl)
 clear hk hx ht cok
 unfold I64 at hx64
 have h2b : decide (x ≤ 0) = false := decide_eq_false (by omega)
 have hnt : IntKind.i64.wrap (-t) = -t := IntWalk.i64_in _ (by omega)
 obtain ⟨nt, hnte⟩ : ∃ nt, nt = -t := ⟨_, rfl⟩
 have hnt2 : RowKit.wrap64 (-t) = nt := by rw [hnte, ← IntWalk.i64_left]; exact hnt
 rw [← hnte] at HP2
 have HNT := Lib.hid hnte
 have HTR : Hid (varOf t ≠ 0) := Lib.hid ht0
 subst h1
 clear hnte hnt hte htr ht0
 go_enter Tryz.func21, Tryz.ntmps21
 go_upto_region 7 with (first
  | (go_at_call 54; rw [← HW.out]; refine (HM.out _ HEW.out).mono ?_; rintro e w2 ⟨rfl, hE2⟩; have HE2 := Lib.hid hE2; have hbD := (hE2.chg (fun _ => False)).blk HB0.out id; have hbC := (hE2.chg (fun _ => False)).blk HB1.out id; have hbR := (hE2.chg (fun _ => False)).blk HB2.out id; have d0a := hbD.cell 0; have d1a := hbD.cell 1; have d2a := hbD.cell 2; have k0a := hbC.cell 0; have k1a := hbC.cell 1; have k2a := hbC.cell 2; have k3a := hbC.cell 3; have k4a := hbC.cell 4; simp only [List.getElem?_cons_zero, List.getElem?_cons_succ] at d0a d1a d2a k0a k1a k2a k3a k4a; clear hbD hbC hbR; clear hE2)
  | (go_at_call 56; refine (HAL.out _ (HEW.out.trans HE2.out)).mono ?_; rintro e w3 ⟨rfl, hE3⟩; have HE3 := Lib.hid (HE2.out.trans hE3); have hbD := ((HE2.out.trans hE3).chg (fun _ => False)).blk HB0.out id; have hbC := ((HE2.out.trans hE3).chg (fun _ => False)).blk HB1.out id; have hbR := ((HE2.out.trans hE3).chg (fun _ => False)).blk HB2.out id; have d0b := hbD.cell 0; have d1b := hbD.cell 1; have d2b := hbD.cell 2; have k0b := hbC.cell 0; have k1b := hbC.cell 1; have k2b := hbC.cell 2; have k3b := hbC.cell 3; have k4b := hbC.cell 4; simp only [List.getElem?_cons_zero, List.getElem?_cons_succ] at d0b d1b d2b k0b k1b k2b k3b k4b; clear hbD hbC hbR; clear hE3)
  | (go_at_call_of 58 (Value.int .i64 (-x)); refine (HP1.out _ (HEW.out.trans HE3.out)).mono ?_; rintro e w4 ⟨rfl, hE4⟩; have HE4 := Lib.hid (HE3.out.trans hE4); have hbD := ((HE3.out.trans hE4).chg (fun _ => False)).blk HB0.out id; have hbC := ((HE3.out.trans hE4).chg (fun _ => False)).blk HB1.out id; have hbR := ((HE3.out.trans hE4).chg (fun _ => False)).blk HB2.out id; have d0c := hbD.cell 0; have d1c := hbD.cell 1; have d2c := hbD.cell 2; have k0c := hbC.cell 0; have k1c := hbC.cell 1; have k2c := hbC.cell 2; have k3c := hbC.cell 3; have k4c := hbC.cell 4; simp only [List.getElem?_cons_zero, List.getElem?_cons_succ] at d0c d1c d2c k0c k1c k2c k3c k4c; clear hbD hbC hbR; clear hE4)
  | (go_at_call_of 58 (Value.int .i64 nt); refine (HP2.out _ (HEW.out.trans HE4.out)).mono ?_; rintro e w5 ⟨rfl, hE5⟩; have HE5 := Lib.hid (HE4.out.trans hE5); have hbD := ((HE4.out.trans hE5).chg (fun _ => False)).blk HB0.out id; have hbC := ((HE4.out.trans hE5).chg (fun _ => False)).blk HB1.out id; have hbR := ((HE4.out.trans hE5).chg (fun _ => False)).blk HB2.out id; have d0d := hbD.cell 0; have d1d := hbD.cell 1; have d2d := hbD.cell 2; have k0d := hbC.cell 0; have k1d := hbC.cell 1; have k2d := hbC.cell 2; have k3d := hbC.cell 3; have k4d := hbC.cell 4; simp only [List.getElem?_cons_zero, List.getElem?_cons_succ] at d0d d1d d2d k0d k1d k2d k3d k4d; clear hbD hbC hbR; clear hE5)
  | (go_at_call 59; refine (cloneI_any _ d.univ _ (HD.out.u.ext (HEW.out.trans HE5.out)) (by have := OK.out.ul; omega)).mono ?_; rintro e w6 ⟨v6, rfl, ho6, hE6⟩; obtain ⟨VA, vcap, hv6, -⟩ := OwnI.reads ho6; subst hv6; have HO6 := Lib.hid ho6; have HE6 := Lib.hid (HE5.out.trans hE6); have hbD := ((HE5.out.trans hE6).chg (fun _ => False)).blk HB0.out id; have hbC := ((HE5.out.trans hE6).chg (fun _ => False)).blk HB1.out id; have hbR := ((HE5.out.trans hE6).chg (fun _ => False)).blk HB2.out id; have d0e := hbD.cell 0; have d1e := hbD.cell 1; have d2e := hbD.cell 2; have k0e := hbC.cell 0; have k1e := hbC.cell 1; have k2e := hbC.cell 2; have k3e := hbC.cell 3; have k4e := hbC.cell 4; simp only [List.getElem?_cons_zero, List.getElem?_cons_succ] at d0e d1e d2e k0e k1e k2e k3e k4e; clear hbD hbC hbR; clear hE6 ho6))
 have hE7 : Ext W (w6.alloc (.cells #[.slice VA d.univ.length vcap, .slice none 0 0, .slice none 0 0] 27)) := HE6.out.trans (Ext.alloc w6 _)
 have hB7 := Blk.new w6 27 [.slice VA d.univ.length vcap, .slice none 0 0, .slice none 0 0]
 have hO7 : OwnI (w6.alloc (.cells #[.slice VA d.univ.length vcap, .slice none 0 0, .slice none 0 0] 27)) W.heap.size (.slice VA d.univ.length vcap) d.univ := own_lower (own_ext HO6.out (Ext.alloc w6 _)) HE5.out.size
 have hb7 : W.heap.size ≤ w6.heap.size := HE6.out.size
 obtain ⟨b7, hb7e⟩ : ∃ b7, b7 = w6.heap.size := ⟨_, rfl⟩
 rw [← hb7e] at hB7 hb7 ⊢
 clear hb7e d0e d1e d2e k0e k1e k2e k3e k4e HO6 HE6 HE5 HE4 HE3 HE2 HM HAL HP1 HP2
 generalize w6.alloc (.cells #[.slice VA d.univ.length vcap, .slice none 0 0, .slice none 0 0] 27) = w7 at hE7 hB7 hO7 ⊢
 have HE7 := Lib.hid hE7
 have HB7 := Lib.hid hB7
 have HO7 := Lib.hid hO7
 have d17 := ((hE7.chg (fun _ => False)).blk HB0.out id).cell 1
 simp only [List.getElem?_cons_zero, List.getElem?_cons_succ] at d17
 obtain ⟨m, hm⟩ : ∃ m, m = d.exist.length := ⟨_, rfl⟩
 have HMX := Lib.hid hm
 rw [← hm] at d17
 have hml : m ≤ 1000000 := by rw [hm]; exact OK.out.xl
 clear hE7 hB7 hO7 hm
 go_wp2
 go_loopg [69] m (fun gn i wr => ∃ (k : Nat) (xv : Value), k ≤ m ∧ gn + k = m ∧ i = .int .i64 (k : Int) ∧ Hid (Blk wr b7 27 [.slice VA d.univ.length vcap, xv, .slice none 0 0]) ∧ Hid (OwnX wr W.heap.size xv ((d.exist.take k).filter fun y => !decide (y.1 = x))) ∧ Hid (OwnI wr W.heap.size (.slice VA d.univ.length vcap) d.univ) ∧ Hid (Chg (fun i => W.heap.size ≤ i) W wr))
 case atStart => exact ⟨0, _, Nat.zero_le _, by omega, rfl, HB7, Lib.hid (OwnX.nil _ _), HO7, Lib.hid (HE7.out.chg _)⟩
 case round =>
  obtain ⟨k, xv, hk, hgk, rfl, HBr, HXr, HUr, HCr⟩ := hrel
  obtain ⟨w8, rfl⟩ : ∃ w8 : World, w8 = wr := ⟨_, rfl⟩
  by_cases hlt : k < m
  · have hkf : k < d.exist.length := Nat.lt_of_lt_of_le hlt (Nat.le_of_eq HMX.out)
    have hEw8 : Ext w w8 := HCr.out.toExt HEW.out (fun i hi => Nat.le_trans HEW.out.size hi)
    obtain ⟨A', c', ons', e1, -, -, e4, e5⟩ := HD.out.x.ext hEw8
    injection e1 with a1 a2 a3
    subst a1
    obtain ⟨ad, had, hc0, hc1, hri⟩ := e5 k hkf (by rw [e4]; exact hkf)
    subst had
    have hx64k := (OK.out.x64 _ (List.getElem_mem hkf))
    have hol := OK.out.ol _ (List.getElem_mem hkf)
    have hfil : (d.exist.take (k + 1)).filter (fun y => !decide (y.1 = x)) = (d.exist.take k).filter (fun y => !decide (y.1 = x)) ++ (if d.exist[k].1 = x then [] else [d.exist[k]]) := by
     rw [List.take_succ_eq_append_getElem hkf, List.filter_append]
     congr 1
     by_cases e : d.exist[k].1 = x <;> simp [e]
    generalize d.exist[k] = X at hc0 hri hx64k hol hfil
    generalize ons'[k]'(by rw [e4]; exact hkf) = on at hc1 hri
    have hri2 := hri
    obtain ⟨OA, oc, hone, -⟩ := hri
    obtain ⟨ol, hole⟩ : ∃ ol, ol = X.2.length := ⟨_, rfl⟩
    rw [← hole] at hone
    subst hone
    obtain ⟨v, hv⟩ : ∃ v, v = X.1 := ⟨_, rfl⟩
    rw [← hv] at hc0 hfil
    have HRI := Lib.hid hri2
    have HV := Lib.hid hv
    have HFI := Lib.hid hfil
    have HX64 := Lib.hid hx64k
    have HOL := Lib.hid hol
    have HOLE := Lib.hid hole
    have hwrk : IntKind.i64.wrap ((k : Int) + 1) = (k : Int) + 1 := IntWalk.i64_in _ (by omega)
    clear hri2 hkf hEw8 e4 e5 a2 a3 hx64k hol hfil hole hv
    by_cases hvx : v = x
    · have hvb : (v != x) = false := by simp [hvx]
      have HVX := Lib.hid hvx
      clear hvx
      go_wp2
      go_roundg (m - (k + 1))
      case measure => omega
      case rel =>
       have e9 := Ext.alloc w8 (.cells #[.int .i64 v, .slice OA ol oc] 61)
       exact ⟨k + 1, xv, by omega, by omega, by go_num, Lib.hid ((e9.chg (fun _ => False)).blk HBr.out id), Lib.hid (by rw [HFI.out, if_pos HVX.out, List.append_nil]; exact HXr.out.ext e9), Lib.hid (own_ext HUr.out e9), Lib.hid (HCr.out.trans (e9.chg _))⟩
    · have hvb : (v != x) = true := by simp [hvx]
      have HVX := Lib.hid hvx
      clear hvx
      go_wp2
      have e9 := Ext.alloc w8 (.cells #[.int .i64 v, .slice OA ol oc] 61)
      have bA := (e9.chg (fun _ => False)).blk HBr.out id
      have HUA := Lib.hid (own_ext HUr.out e9)
      have HCA : Hid (Chg (fun i => W.heap.size ≤ i) W _) := Lib.hid (HCr.out.trans (e9.chg _))
      have b9 := Blk.new w8 61 [.int .i64 v, .slice OA ol oc]
      have HRA := Lib.hid (HRI.out.ext e9)
      have HXA := Lib.hid (HXr.out.ext e9)
      have hsz8 : W.heap.size ≤ w8.heap.size := HCr.out.size
      clear e9 hc0 hc1 d17
      obtain ⟨n8, hn8⟩ : ∃ n8, n8 = w8.heap.size := ⟨_, rfl⟩
      rw [← hn8] at b9 hsz8 ⊢
      clear hn8
      generalize w8.alloc (.cells #[.int .i64 v, .slice OA ol oc] 61) = wA at bA HUA HCA b9 HRA HXA ⊢
      have a1 := bA.cell 1
      have a90 := b9.cell 0
      have a91 := b9.cell 1
      simp only [List.getElem?_cons_zero, List.getElem?_cons_succ] at a1 a90 a91
      obtain ⟨ps, p1, p2, p3⟩ := HXA.out
      obtain ⟨nX, hnX⟩ : ∃ nX, nX = ((d.exist.take k).filter fun y => !decide (y.1 = x)).length := ⟨_, rfl⟩
      rw [← hnX] at p1 p2
      have hnXl : nX ≤ 1000000 := by
       rw [hnX]
       refine Nat.le_trans (List.length_filter_le _ _) ?_
       rw [List.length_take]; omega
      have HBA := Lib.hid bA
      have HP1 := Lib.hid p1
      have HP2 := Lib.hid p2
      have HP3 := Lib.hid p3
      have HNX := Lib.hid hnX
      obtain ⟨i0, hi, hz0, hz1, hz2⟩ := info_parts info_dep
      have HI := Lib.hid hi
      have HZ := Lib.hid hz0
      have HZ1 := Lib.hid hz1
      have HZ2 := Lib.hid hz2
      clear hi hz0 hz1 hz2 bA b9 p1 p2 p3 hnX
      go_region_law (first
       | (refine step_append_lies _ rfl (.tmp 78) (.tmp 85) 25 rfl W.heap.size 61 i0 (.agg #[.int .i64 0, .slice none 0 0]) 2 32 Tryz.underlying25 HI.out HZ.out HZ1.out HZ2.out rfl (by decide) xv nX (encX ps) rfl ?c1 ⟨wB.heap.size, 0, none⟩ 1 1 [.int .i64 v, .slice BA nb bc] rfl rfl ?c2 (by simp [Value.oneCell']) (by omega) (by unfold maxLen; omega) (by omega) (by have := HSB.out; simp; omega) (wB.heap.size + 1) (by simp) ?_
          case c1 => exact own_ext HP1.out (HAB.out.trans (Ext.alloc wB _))
          case c2 => exact two_cells wB _ _ _
          intro gC capC wC hown hgr hat hlt
          have hcC : Chg (fun i => some i = xv.ownBlock) wB wC := ((Ext.alloc wB _).chg _).trans (grown_chg hgr)
          have hbC := hcC.blk HBB.out (fun h => fin_neq HBB.out (own_ext HP1.out HAB.out) (by decide) h.symm)
          have c1C := hbC.cell 1
          have f1C := hbC.free 1
          simp only [List.getElem?_cons_zero, List.getElem?_cons_succ] at c1C
          have HFN := Lib.hid (depX (x := X) HNX.out HP1.out HP2.out HP3.out HAB.out HBB.out HOB.out (by rw [← HV.out]; exact hown) hcC hb7)
          clear hown hgr hcC hbC hat hlt)
       | (go_simp
          go_at_call 59
          refine (cloneI_any _ X.2 _ (HRA.out.ext (Ext.drew wA)) (by have := HOL.out; omega)).mono ?_
          rintro e wB ⟨vB, rfl, hoB, hEB⟩
          obtain ⟨BA, bc, hvB, -⟩ := OwnI.reads hoB
          obtain ⟨nb, hnb⟩ : ∃ nb, nb = X.2.length := ⟨_, rfl⟩
          rw [← hnb] at hvB
          subst hvB
          have hAB : Ext wA wB := (Ext.drew wA).trans hEB
          have HOB := Lib.hid (own_lower hoB (Nat.le_trans HCA.out.size (Ext.drew wA).size))
          have HAB := Lib.hid hAB
          have HBB := Lib.hid ((hAB.chg (fun _ => False)).blk HBA.out id)
          have HSB : Hid (W.heap.size ≤ wB.heap.size) := Lib.hid (Nat.le_trans HCA.out.size hAB.size)
          have b1 := hAB.cell a1
          have b90 := hAB.cell a90
          have b91 := hAB.cell a91
          have b1a : (wB.alloc (.cells #[.int .i64 v, .slice BA nb bc] 61)).cell? ⟨b7, 1, none⟩ = some xv := (Ext.alloc wB _).cell b1
          clear hoB hEB hAB hnb))
      all_goals
       go_wp2
       go_roundg (m - (k + 1))
       case measure => omega
       case rel =>
        exact ⟨k + 1, _, by omega, by omega, by go_num, Lib.hid HFN.out.1, Lib.hid (by rw [HFI.out, if_neg HVX.out]; exact HFN.out.2.1), Lib.hid (HFN.out.2.2.2 _ _ HUA.out), Lib.hid (HCA.out.trans ((HAB.out.chg _).trans HFN.out.2.2.1))⟩
  · obtain rfl : k = m := by omega
    have htk : d.exist.take k = d.exist := by rw [HMX.out, List.take_length]
    rw [htk] at HXr
    have hEw8 : Ext w w8 := HCr.out.toExt HEW.out (fun i hi => Nat.le_trans HEW.out.size hi)
    have hsw := HSW.out
    have d28 := (HCr.out.blk HB0.out (fun h => by omega)).cell 2
    simp only [List.getElem?_cons_zero, List.getElem?_cons_succ] at d28
    obtain ⟨nC, hnC⟩ : ∃ nC, nC = us.length := ⟨_, rfl⟩
    have HNC := Lib.hid hnC
    have hnCl : nC ≤ 1000000 := by rw [hnC, HCL4.out]; exact OK.out.cl
    rw [← hnC] at d28
    have HSW2 := Lib.hid hsw
    clear htk hEw8 hsw hnC d17
    go_wp2
    go_loopg [92] nC (fun gn i wr => ∃ (k2 : Nat) (cv : Value), k2 ≤ nC ∧ gn + k2 = nC ∧ i = .int .i64 (k2 : Int) ∧ Hid (Blk wr b7 27 [.slice VA d.univ.length vcap, xv, cv]) ∧ Hid (OwnX wr W.heap.size xv (d.exist.filter fun y => !decide (y.1 = x))) ∧ Hid (OwnI wr W.heap.size (.slice VA d.univ.length vcap) d.univ) ∧ Hid (OwnLL wr W.heap.size cv ((d.clauses.take k2).filterMap (normC x t))) ∧ Hid (Chg (fun i => W.heap.size ≤ i) W wr))
    case atStart => exact ⟨0, _, Nat.zero_le _, by omega, rfl, HBr, HXr, HUr, Lib.hid ⟨[], World.ownsRow_nil _ _ _ 1, rfl, fun j hj => absurd hj (Nat.not_lt_zero j)⟩, HCr⟩
    case round =>
     obtain ⟨k2, cv, hk2, hgk2, rfl, GBr, GXr, GUr, GLr, GCr⟩ := hrel
     obtain ⟨w9, rfl⟩ : ∃ w9 : World, w9 = wr := ⟨_, rfl⟩
     by_cases hlt2 : k2 < nC
     · have hEw9 : Ext w w9 := GCr.out.toExt HEW.out (fun i hi => Nat.le_trans HEW.out.size hi)
       obtain ⟨A', c', us', e1, -, -, e4, e5, e6⟩ := RLL.ext' HD.out.c hEw9
       injection e1 with a1 a2 a3
       subst a1
       have hku : k2 < us'.length := by rw [← a2, ← HNC.out]; exact hlt2
       have hkc : k2 < d.clauses.length := by rw [← e5]; exact hku
       obtain ⟨ad, had, hcell⟩ := e4 k2 hku
       subst had
       have hri := e6 k2 hku hkc
       have h64 := OK.out.c64 _ (List.getElem_mem hkc)
       have hll : d.clauses[k2].length ≤ 1000000 := Nat.le_trans (len_le_total (List.getElem_mem hkc)) OK.out.tot
       have hfm : (d.clauses.take (k2 + 1)).filterMap (normC x t) = (d.clauses.take k2).filterMap (normC x t) ++ (normC x t d.clauses[k2]).toList := by
        rw [List.take_succ_eq_append_getElem hkc, List.filterMap_append]
        congr 1
       generalize d.clauses[k2] = l at hri h64 hll hfm
       generalize us'[k2] = uk at hcell hri
       have hri2 := hri
       obtain ⟨KA, kc, huk, -⟩ := hri
       obtain ⟨nl, hnl⟩ : ∃ nl, nl = l.length := ⟨_, rfl⟩
       rw [← hnl] at huk
       subst huk
       have HRI := Lib.hid hri2
       have H64 := Lib.hid h64
       have HFM := Lib.hid hfm
       have HNL := Lib.hid hnl
       have hnl1 : nl ≤ 1000000 := by rw [hnl]; exact hll
       have HLL := Lib.hid hll
       have hwrk : IntKind.i64.wrap ((k2 : Int) + 1) = (k2 : Int) + 1 := IntWalk.i64_in _ (by omega)
       clear hEw9 e4 e5 e6 a2 a3 hku hkc hri2 h64 hfm hnl hll
       go_wp2_with (go_at_call 59; refine (cloneI_any _ l _ HRI.out (by have := HLL.out; omega)).mono ?_; rintro e wB ⟨vB, rfl, hoB, hEB⟩; obtain ⟨BA, bc, hvB, -⟩ := OwnI.reads hoB; rw [← HNL.out] at hvB; subst hvB; have HBL : Hid (∀ i, some i = (Value.slice BA nl bc).ownBlock → w9.heap.size ≤ i) := Lib.hid (fun i hi => (own_typed hoB hi.symm).1); have HOB := Lib.hid (own_lower hoB GCr.out.size); have HEB := Lib.hid hEB; clear hoB hEB)
       have kto : ∀ wr, Chg (fun i => W.heap.size ≤ i) W wr → wr.cell? ⟨w.heap.size + 1, 2, none⟩ = some (.int .i64 t) := fun wr hc => by
        have := (hc.blk HB1.out (fun h => by have := HSW2.out; omega)).cell 2
        simpa using this
       have HKT := Lib.hid kto
       clear kto
       go_loopg [100] nl (fun gn i wr => ∃ j : Nat, j ≤ nl ∧ gn + j = nl ∧ i = .int .i64 (j : Int) ∧ Hid (OwnI wr W.heap.size (.slice BA nl bc) ((l.take j).map (subst1 x t) ++ l.drop j)) ∧ Hid (Chg (fun i => some i = (Value.slice BA nl bc).ownBlock) wB wr))
       case atStart => exact ⟨0, Nat.zero_le _, by omega, rfl, Lib.hid (by rw [List.take_zero, List.map_nil, List.nil_append, List.drop_zero]; exact HOB.out), Lib.hid (Chg.refl _ _)⟩
       case round =>
        obtain ⟨j, hj, hgj, rfl, FO, FC⟩ := hrel
        obtain ⟨wr, rfl⟩ : ∃ w' : World, w' = wr := ⟨_, rfl⟩
        by_cases hjl : j < nl
        · have hjf : j < l.length := by rw [← HNL.out]; exact hjl
          obtain ⟨gB, hBA⟩ : ∃ gB, BA = some ⟨gB, 0, none⟩ := by
           obtain ⟨-, ⟨h, h0⟩ | ⟨g, cap, cur, h, -⟩⟩ := FO.out
           · exfalso
             rw [mid_len] at h0; omega
           · injection h with h1
             exact ⟨g, h1⟩
          subst hBA
          have hmj := mid_get (subst1 x t) l j hjf (by rw [mid_len]; exact hjf)
          obtain ⟨ad2, had2, hcj⟩ := (OwnI.reads FO.out).row.2.2.2.int j (by rw [mid_len]; exact hjf)
          injection had2 with had2
          subst had2
          rw [hmj, addr0] at hcj
          have hfz := own_free (j := j) FO.out
          have hms := mid_set (subst1 x t) l j hjf
          have hy64 := H64.out _ (List.getElem_mem hjf)
          generalize l[j] = y at hcj hms hy64 hmj
          have HMJ : Hid (((l.take j).map (subst1 x t) ++ l.drop j).set j y = (l.take j).map (subst1 x t) ++ l.drop j) := Lib.hid (by rw [← hmj]; exact List.set_getElem_self _)
          have HMS := Lib.hid hms
          have FCW : Hid (Chg (fun i => W.heap.size ≤ i) W wr) := Lib.hid (GCr.out.trans ((HEB.out.chg _).trans (FC.out.mono fun i hi => (own_typed HOB.out hi.symm).1)))
          have kt := HKT.out wr FCW.out
          have hwj : IntKind.i64.wrap ((j : Int) + 1) = (j : Int) + 1 := IntWalk.i64_in _ (by omega)
          clear hmj hms hjf hy64
          by_cases hyx : y = x
          · have hyb : (y == x) = true := by simpa using hyx
            have HYX := Lib.hid hyx
            clear hyx
            go_wp2
            go_roundg (nl - (j + 1))
            case measure => omega
            case rel =>
             refine ⟨j + 1, by omega, by omega, by go_num, Lib.hid ?_, Lib.hid (FC.out.trans ((Chg.set wr gB j (.int .i64 t)).mono fun i hi => by rw [hi]; rfl))⟩
             rw [← HMS.out, show subst1 x t y = t by unfold subst1; rw [if_pos HYX.out]]
             exact own_setI FO.out j t
          · have hyb : (y == x) = false := by simpa using hyx
            have HYX := Lib.hid hyx
            clear hyx
            by_cases hyn : y = -x
            · have hynb : (y == -x) = true := by simpa using hyn
              have HYN := Lib.hid hyn
              clear hyn
              go_wp2
              go_roundg (nl - (j + 1))
              case measure => omega
              case rel =>
               refine ⟨j + 1, by omega, by omega, by go_num, Lib.hid ?_, Lib.hid (FC.out.trans ((Chg.set wr gB j (.int .i64 nt)).mono fun i hi => by rw [hi]; rfl))⟩
               rw [← HMS.out, show subst1 x t y = nt by unfold subst1; rw [if_neg HYX.out, if_pos HYN.out, HNT.out]]
               exact own_setI FO.out j nt
            · have hynb : (y == -x) = false := by simpa using hyn
              have HYN := Lib.hid hyn
              clear hyn
              go_wp2
              go_roundg (nl - (j + 1))
              case measure => omega
              case rel =>
               refine ⟨j + 1, by omega, by omega, by go_num, Lib.hid ?_, FC⟩
               have e : subst1 x t y = y := by unfold subst1; rw [if_neg HYX.out, if_neg HYN.out]
               rw [← HMS.out, e, HMJ.out]
               exact FO.out
        · obtain rfl : j = nl := by omega
          have hres : (l.take j).map (subst1 x t) ++ l.drop j = l.map (subst1 x t) := by
           rw [HNL.out, List.take_length, List.drop_length, List.append_nil]
          rw [hres] at FO
          have h64m : All64 (l.map (subst1 x t)) := fun z hz => by
           obtain ⟨y, hy, rfl⟩ := List.mem_map.1 hz
           have h1 := H64.out y hy
           have h2 := varOf_eq HTR.out
           have h3 := varOf_range t
           unfold subst1
           split
           · unfold I64; omega
           · split
             · unfold I64; omega
             · exact h1
          have HN1 := Lib.hid (Norm_any (l.map (subst1 x t)) (.slice BA j bc) wr h64m (OwnI.reads FO.out))
          have HE9 := Lib.hid (FC.out.toExt HEB.out HBL.out)
          obtain ⟨R, hR⟩ : ∃ R, R = NormV (l.map (subst1 x t)) := ⟨_, rfl⟩
          have HNC2 : Hid (normC x t l = if R.2 = 0 then some R.1 else none) := Lib.hid (by rw [hR]; rfl)
          rw [← hR] at HN1
          obtain ⟨R1, R2⟩ := R
          unfold PostNorm at HN1
          clear hR h64m hres
          simp only at HN1 HNC2
          obtain ⟨i1, hi, hz0, hz1, hz2⟩ := info_parts info_ints
          have HI := Lib.hid hi
          have HZ := Lib.hid hz0
          have HZ1 := Lib.hid hz1
          have HZ2 := Lib.hid hz2
          clear hi hz0 hz1 hz2
          obtain ⟨vs, v1, v2, v3⟩ := GLr.out
          have hvl : vs.length ≤ 1000000 := by
           rw [v2]
           refine Nat.le_trans (List.length_filterMap_le _ _) ?_
           rw [List.length_take]; omega
          have HV1 := Lib.hid v1
          have HV2 := Lib.hid v2
          have HV3 := Lib.hid v3
          clear v1 v2 v3
          by_cases hr : R2 = 0
          · subst hr
            go_wp2_with (first
             | (go_at_call 60; refine HN1.out.mono ?_; rintro e wN ⟨vN, rfl, hoN, hEN⟩; have HEN := Lib.hid (HE9.out.trans hEN); have HON := Lib.hid (own_lower hoN (Nat.le_trans GCr.out.size HE9.out.size)); obtain ⟨NA, nc, hvN, -⟩ := OwnI.reads hoN; obtain ⟨nn, hnn⟩ : ∃ nn, nn = R1.length := ⟨_, rfl⟩; rw [← hnn] at hvN; subst hvN; have hbN := (HEN.out.chg (fun _ => False)).blk GBr.out id; have HBN := Lib.hid hbN; have z2 := hbN.cell 2; simp only [List.getElem?_cons_zero, List.getElem?_cons_succ] at z2; have HSN : Hid (W.heap.size ≤ wN.heap.size) := Lib.hid (Nat.le_trans GCr.out.size HEN.out.size); clear hoN hEN hnn hbN)
             | (at_builtin; refine wpList_append_own _ rfl (.tmp 133) (.tmp 135) 22 rfl W.heap.size 24 i1 (.slice none 0 0) 1 24 Tryz.underlying22 HI.out HZ.out HZ1.out HZ2.out rfl (by decide) _ vs.length vs rfl (own_ext HV1.out (HEN.out.trans (Ext.alloc wN _))) ⟨wN.heap.size, 0, none⟩ 1 1 [.slice NA nn nc] rfl rfl (one_cell wN _ _) (by simp [Value.oneCell']) (by unfold maxLen; omega) (by omega) (by have := HSN.out; simp; omega) ?_; intro v' wP hown hgr _
                obtain ⟨gP, capP, hvP, -⟩ := own_some hown
                subst hvP
                have hcP : Chg (fun i => some i = cv.ownBlock) wN wP := ((Ext.alloc wN _).chg _).trans (grown_chg hgr)
                have hbP := hcP.blk HBN.out (fun h => fin_neq HBN.out (own_ext HV1.out HEN.out) (by decide) h.symm)
                have p2 := hbP.cell 2
                have f2 := hbP.free 2
                simp only [List.getElem?_cons_zero, List.getElem?_cons_succ] at p2
                have HOP := Lib.hid hown
                have HGP := Lib.hid hgr
                have HCP := Lib.hid hcP
                have HBP := Lib.hid hbP
                clear hown hgr hcP hbP))
            go_roundg (nC - (k2 + 1))
            case measure => omega
            case rel =>
             have hset := Chg.set wP b7 2 (.slice (some ⟨gP, 0, none⟩) (vs.length + 1) capP)
             have hrow := own_ext HV1.out HEN.out
             have hall : Chg (fun i => some i = cv.ownBlock ∨ i = b7) wN (wP.setCell ⟨b7, 2, none⟩ (.slice (some ⟨gP, 0, none⟩) (vs.length + 1) capP)) := (HCP.out.mono fun i hi => .inl hi).trans (hset.mono fun i hi => .inr hi)
             have hne : ∀ i, (some i = cv.ownBlock ∨ i = b7) → ∀ cur : Array Value, wN.heap[i]? = some (.cells cur 3 (0, 0)) ∨ wN.heap[i]? = some (.cells cur 61 (0, 0)) → False := fun i hi cur hh => by
              rcases hi with hi | hi
              · obtain ⟨-, -, c9, h9⟩ := own_typed hrow hi.symm
                rw [h9] at hh
                rcases hh with hh | hh <;> injection hh with hh <;> injection hh with _ hh <;> exact absurd hh (by decide)
              · have h9 := HBN.out
                unfold Blk at h9
                rw [hi, h9] at hh
                rcases hh with hh | hh <;> injection hh with hh <;> injection hh with _ hh <;> exact absurd hh (by decide)
             refine ⟨k2 + 1, _, by omega, by omega, by go_num, Lib.hid (HBP.out.set 2 _), Lib.hid ((GXr.out.ext HEN.out).keep hall hne), Lib.hid (hall.own (own_ext GUr.out HEN.out) (fun b hb hs => ?_)), Lib.hid ?_, Lib.hid (GCr.out.trans ((HEN.out.chg _).trans (hall.mono fun i hi => ?_)))⟩
             · obtain ⟨-, -, c9, h9⟩ := own_typed (own_ext GUr.out HEN.out) hb
               exact hne b hs c9 (.inl h9)
             · rw [HFM.out, HNC2.out, if_pos trivial, show (some R1).toList = [R1] from rfl]
               have hs := OwnLL.snoc (w := wN.alloc (.cells #[.slice NA nn nc] 24)) HV2.out (fun j hj hj' => own_ext (HV3.out j hj hj') (HEN.out.trans (Ext.alloc wN _))) (own_ext HV1.out (HEN.out.trans (Ext.alloc wN _))) (own_ext HON.out (Ext.alloc wN _)) HOP.out HGP.out
               refine hs.keep hset (fun i hi cur hh => ?_)
               have h9 := HBP.out
               unfold Blk at h9
               rw [hi, h9] at hh
               rcases hh with hh | hh <;> injection hh with hh <;> injection hh with _ hh <;> exact absurd hh (by decide)
             · rcases hi with hi | hi
               · exact (own_typed hrow hi.symm).1
               · rw [hi]; exact hb7
          · have hrb : (R2 == 0) = false := by simpa using hr
            have HRN := Lib.hid hr
            clear hr
            go_wp2_with (go_at_call 60; refine HN1.out.mono ?_; rintro e wN ⟨vN, rfl, hoN, hEN⟩; have HEN := Lib.hid (HE9.out.trans hEN); clear hoN hEN)
            go_roundg (nC - (k2 + 1))
            case measure => omega
            case rel =>
             exact ⟨k2 + 1, cv, by omega, by omega, by go_num, Lib.hid ((HEN.out.chg (fun _ => False)).blk GBr.out id), Lib.hid (GXr.out.ext HEN.out), Lib.hid (own_ext GUr.out HEN.out), Lib.hid (by rw [HFM.out, HNC2.out, if_neg HRN.out]; simpa using GLr.out.ext HEN.out), Lib.hid (GCr.out.trans (HEN.out.chg _))⟩
     · obtain rfl : k2 = nC := by omega
       have htk2 : d.clauses.take k2 = d.clauses := by rw [HNC.out, HCL4.out, List.take_length]
       rw [htk2] at GLr
       have r0 := (GCr.out.blk HB2.out (fun h => by have := HSW2.out; omega)).cell 0
       have r1 := (GCr.out.blk HB2.out (fun h => by have := HSW2.out; omega)).cell 1
       have r2 := (GCr.out.blk HB2.out (fun h => by have := HSW2.out; omega)).cell 2
       have q0 := (GCr.out.blk HB2.out (fun h => by have := HSW2.out; omega)).free 0
       have q1 := (GCr.out.blk HB2.out (fun h => by have := HSW2.out; omega)).free 1
       have q2 := (GCr.out.blk HB2.out (fun h => by have := HSW2.out; omega)).free 2
       have s0 := GBr.out.cell 0
       have s1 := GBr.out.cell 1
       have s2 := GBr.out.cell 2
       simp only [List.getElem?_cons_zero, List.getElem?_cons_succ] at r0 r1 r2 s0 s1 s2
       obtain ⟨A1, c1, hxve, -⟩ : ∃ A1 c1, xv = .slice A1 (d.exist.filter fun y => !decide (y.1 = x)).length c1 ∧ True := by
        obtain ⟨A, c, ons, e, -⟩ := GXr.out.reads
        exact ⟨A, c, e, trivial⟩
       obtain ⟨A2, n2, c2, hcve⟩ : ∃ A2 n2 c2, cv = .slice A2 n2 c2 := by
        obtain ⟨vs, h1, -⟩ := GLr.out
        obtain ⟨A, c, e, -⟩ := own_row h1
        exact ⟨A, _, c, e⟩
       obtain ⟨n1, hn1⟩ : ∃ n1, n1 = (d.exist.filter fun y => !decide (y.1 = x)).length := ⟨_, rfl⟩
       rw [← hn1] at hxve
       have HXV := Lib.hid hxve
       have HCVE := Lib.hid hcve
       rw [hxve] at s1
       rw [hcve] at s2
       clear hxve hcve hn1 htk2
       go_wp2
       refine bodyPost_ret (v := .tuple #[.agg #[.slice VA d.univ.length vcap, .slice A1 n1 c1, .slice A2 n2 c2], .int .i64 0]) (by simp [results, Tryz.results21, go_sem, r0, r1, r2]) rfl ⟨_, _, _, rfl, ?_, ?_⟩
       · have hset : Chg (fun i => i = w.heap.size + 2) w9 ((((w9.setCell ⟨w.heap.size + 2, 0, none⟩ (.slice VA d.univ.length vcap)).setCell ⟨w.heap.size + 2, 1, none⟩ (.slice A1 n1 c1)).setCell ⟨w.heap.size + 2, 2, none⟩ (.slice A2 n2 c2))) := ((Chg.set w9 _ _ _).trans (Chg.set _ _ _ _)).trans (Chg.set _ _ _ _)
         have hbR := GCr.out.blk HB2.out (fun h => by have := HSW2.out; omega)
         show RD ((((w9.setCell ⟨w.heap.size + 2, 0, none⟩ (.slice VA d.univ.length vcap)).setCell ⟨w.heap.size + 2, 1, none⟩ (.slice A1 n1 c1)).setCell ⟨w.heap.size + 2, 2, none⟩ (.slice A2 n2 c2))) _ _ _ (madeV d c)
         rw [HMV.out]
         have hno : ∀ i, i = w.heap.size + 2 → ∀ cur : Array Value, w9.heap[i]? = some (.cells cur 3 (0, 0)) ∨ w9.heap[i]? = some (.cells cur 24 (0, 0)) → False := fun i hi cur hh => by
          subst hi
          unfold Blk at hbR
          rw [hbR] at hh
          rcases hh with hh | hh <;> injection hh with hh <;> injection hh with _ hh <;> exact absurd hh (by decide)
         have hno2 : ∀ i, i = w.heap.size + 2 → ∀ cur : Array Value, w9.heap[i]? = some (.cells cur 3 (0, 0)) ∨ w9.heap[i]? = some (.cells cur 61 (0, 0)) → False := fun i hi cur hh => by
          subst hi
          unfold Blk at hbR
          rw [hbR] at hh
          rcases hh with hh | hh <;> injection hh with hh <;> injection hh with _ hh <;> exact absurd hh (by decide)
         refine ⟨OwnI.reads (hset.own GUr.out (fun b hb hs => fin_neq hbR GUr.out (by decide) (hs ▸ hb))), ?_, ?_⟩
         · have h9 := (GXr.out.keep hset hno2).reads
           have h8 : RX _ (.slice A1 n1 c1) (d.exist.filter fun y => !decide (y.1 = x)) := HXV.out ▸ h9
           exact h8
         · have h9 := (GLr.out.keep hset hno).reads
           have h8 : RLL _ (.slice A2 n2 c2) (d.clauses.filterMap (normC x t)) := HCVE.out ▸ h9
           exact h8
       · have he := GCr.out.toExt HEW.out (fun i hi => Nat.le_trans HEW.out.size hi)
         repeat (refine Below.setCell ?_ (by simp <;> omega) _)
         exact he
end Go.Proofs.YtjecjaihficcdaaGreat
namespace Go.Proofs.YtjecjaihficcdaaGreat
open Go.RowKit
theorem Make_any (d : DqV) (c : ChV) (vu vx vc : Value) (w : World) (hd : RD w vu vx vc d) (ok : DOk d) (cok : COk c) : Calls Tryz.prog 21 #[.agg #[vu, vx, vc], .agg (chArr c)] w (PostMake w (MakeV d c)) := by
 unfold MakeV
 cases hm : mayD d
 · rw [if_pos rfl]; exact Make_no d c vu vx vc w hd ok hm
 · rw [if_neg (by simp)]
   cases hy : okCh d c
   · rw [if_pos rfl]; exact Make_bad d c vu vx vc w hd ok cok hm hy
   · rw [if_neg (by simp)]; exact Make_ok d c vu vx vc w hd ok cok hm hy
end Go.Proofs.YtjecjaihficcdaaGreat
namespace Go.Proofs.YtjecjaihficcdaaGreat
open Go.RowKit
theorem rll_lit (w : World) (vs : List Value) (f : List (List Int)) (hl : vs.length = f.length) (hm : vs.length ≤ 1000000) (h : ∀ j (h : j < vs.length) (h' : j < f.length), RI w vs[j] f[j]) :
 RLL (w.alloc (.cells vs.toArray 24)) (.slice (some ⟨w.heap.size, 0, none⟩) vs.length vs.length) f := by
 refine ⟨_, _, vs, rfl, Nat.le_refl _, by omega, fun j hj => ⟨_, rfl, ?_⟩, hl, fun j hj hj' => (h j hj hj').ext (Ext.alloc w _)⟩
 rw [addr0, (Blk.new w 24 vs).cell]
 exact List.getElem?_eq_getElem hj
end Go.Proofs.YtjecjaihficcdaaGreat
namespace Go.Proofs.YtjecjaihficcdaaGreat
section
variable {nb : Int → List Int} {U : List Int} {s : Tj} {fr : List Fr}
theorem mu_zero (h : mu nb U s = 0) : s.work = [] := by
 cases hw : s.work with
 | nil => rfl
 | cons p rest => unfold mu muW at h; rw [hw] at h; simp at h
theorem tRun_done (hU : U.Nodup) (hnb : ∀ y ∈ U, ∀ z ∈ nb y, z ∈ U) : ∀ (n : Nat) (s : Tj) (fr : List Fr), TV nb U s fr → mu nb U s ≤ n → ∃ fr', TV nb U (tRun nb n s) fr' ∧ (tRun nb n s).work = []
 | 0, s, fr, h, hm => by
   have h0 : mu nb U s = 0 := Nat.le_zero.1 hm
   exact ⟨fr, h, mu_zero h0⟩
 | n + 1, s, fr, h, hm => by
   by_cases hw : s.work = []
   · rw [tRun_nil _ _ hw]; exact ⟨fr, h, hw⟩
   · obtain ⟨fr', h1, h2⟩ := h.step hU hnb hw
     rw [tRun_succ _ _ hw]
     exact tRun_done hU hnb n _ fr' h1 (by omega)
theorem tLeave_num (s : Tj) (x : Int) : (tLeave s x).num = s.num := rfl
theorem tPop_num (s : Tj) (x : Int) (rest : List (Int × Nat)) : (tPop s x rest).num = s.num := by
 unfold tPop
 have h : (tUp { s with work := rest } x rest).num = s.num := by unfold tUp; cases rest <;> rfl
 simp only
 split
 · rw [tLeave_num, h]
 · exact h
theorem tStep_num (s : Tj) (z : Int) (h : s.num z ≠ 0) : (tStep nb s).num z ≠ 0 := by
 unfold tStep
 split
 · exact h
 · rename_i x k rest hw
   split
   · rename_i hk
     split
     · show fset s.num _ _ z ≠ 0
       by_cases e : z = (nb x)[k]
       · rw [e, fset_same]; omega
       · rw [fset_ne _ _ e]; exact h
     · split <;> exact h
   · rw [tPop_num]; exact h
theorem tRun_num : ∀ (n : Nat) (s : Tj) (z : Int), s.num z ≠ 0 → (tRun nb n s).num z ≠ 0
 | 0, _, _, h => h
 | n + 1, s, z, h => by
   by_cases hw : s.work = []
   · rw [tRun_nil _ _ hw]; exact h
   · rw [tRun_succ _ _ hw]; exact tRun_num n _ z (tStep_num s z h)
theorem tOne_TV (hU : U.Nodup) (hnb : ∀ y ∈ U, ∀ z ∈ nb y, z ∈ U) (h : TV nb U s []) (x : Int) (hx : x ∈ U) : TV nb U (tOne nb U s x) [] ∧ (tOne nb U s x).num x ≠ 0 ∧ ∀ z, s.num z ≠ 0 → (tOne nb U s x).num z ≠ 0 := by
 unfold tOne
 by_cases h0 : s.num x = 0
 · rw [if_pos h0]
   have hst : TV nb U (tStart s x) [⟨x, 0, []⟩] := by
    have := tEnter_TV h x h0 hx (fun f fs h => by cases h)
    rw [show s.work = [] from h.ti.work] at this; exact this
   obtain ⟨fr', h1, h2⟩ := tRun_done hU hnb _ _ _ hst (Nat.le_refl _)
   have hfr : fr' = [] := by have := h1.ti.work; rw [h2] at this; exact List.map_eq_nil_iff.1 this.symm
   subst hfr
   refine ⟨h1, tRun_num _ _ _ ?_, fun z hz => tRun_num _ _ _ ?_⟩
   · show fset s.num x (s.cnt + 1) x ≠ 0
     rw [fset_same]; omega
   · show fset s.num x (s.cnt + 1) z ≠ 0
     by_cases e : z = x
     · rw [e, fset_same]; omega
     · rw [fset_ne _ _ e]; exact hz
 · rw [if_neg h0]; exact ⟨h, h0, fun _ hz => hz⟩
theorem foldl_TV (hU : U.Nodup) (hnb : ∀ y ∈ U, ∀ z ∈ nb y, z ∈ U) : ∀ (xs : List Int) (s : Tj), (∀ x ∈ xs, x ∈ U) → TV nb U s [] → TV nb U (xs.foldl (tOne nb U) s) [] ∧ (∀ z, s.num z ≠ 0 → (xs.foldl (tOne nb U) s).num z ≠ 0) ∧ ∀ x ∈ xs, (xs.foldl (tOne nb U) s).num x ≠ 0
 | [], s, _, h => ⟨h, fun _ hz => hz, fun _ hx => by cases hx⟩
 | x :: xs, s, hs, h => by
   obtain ⟨h1, h2, h3⟩ := tOne_TV hU hnb h x (hs x (by simp))
   obtain ⟨k1, k2, k3⟩ := foldl_TV hU hnb xs (tOne nb U s x) (fun y hy => hs y (by simp [hy])) h1
   refine ⟨k1, fun z hz => k2 z (h3 z hz), fun y hy => ?_⟩
   rcases List.mem_cons.1 hy with rfl | hy
   · exact k2 y h2
   · exact k3 y hy
theorem cls_closed (h : TI nb s []) (A B : List (List Int)) (C : List Int) (he : s.cls = A ++ C :: B) {v z : Int} (hv : v ∈ (A ++ [C]).flatten) (hr : Rch nb v z) : z ∈ (A ++ [C]).flatten := by
 induction hr with
 | start => exact hv
 | step _ hz ih =>
   rename_i y z _
   rw [List.mem_flatten] at ih
   obtain ⟨D, hD, hy⟩ := ih
   obtain ⟨A1, A2, hA⟩ := List.append_of_mem hD
   have he2 : s.cls = A1 ++ D :: (A2 ++ B) := by
    rw [he, show A ++ C :: B = (A ++ [C]) ++ B by simp, hA]; simp
   have := h.clsc A1 D (A2 ++ B) he2 y hy z hz
   rw [hA, List.flatten_append, List.mem_append, List.flatten_cons, List.mem_append]
   rcases this with h1 | h1
   · exact .inl h1
   · exact .inr (.inl h1)
theorem cls_same (h : TV nb U s []) {C : List Int} (hC : C ∈ s.cls) {x : Int} (hx : x ∈ C) (y : Int) : y ∈ C ↔ Rch nb x y ∧ Rch nb y x := by
 refine ⟨fun hy => ⟨(h.ti.clss C hC).2 x hx y hy, (h.ti.clss C hC).2 y hy x hx⟩, fun ⟨h1, h2⟩ => ?_⟩
 obtain ⟨A, B, he⟩ := List.append_of_mem hC
 have hy := cls_closed h.ti A B C he (List.mem_flatten.2 ⟨C, by simp, hx⟩) h1
 rw [List.flatten_append, List.mem_append] at hy
 rcases hy with hy | hy
 · obtain ⟨D, hD, hyD⟩ := List.mem_flatten.1 hy
   obtain ⟨A1, A2, hA⟩ := List.append_of_mem hD
   have he2 : s.cls = A1 ++ D :: (A2 ++ C :: B) := by rw [he, hA]; simp
   have hxD := cls_closed h.ti A1 (A2 ++ C :: B) D he2 (List.mem_flatten.2 ⟨D, by simp, hyD⟩) h2
   have hn := h.ti.clsn
   have e3 : s.cls = (A1 ++ [D]) ++ (A2 ++ C :: B) := by rw [he2]; simp
   rw [e3, List.flatten_append, List.nodup_append] at hn
   exact absurd rfl (hn.2.2 x hxD x (List.mem_flatten.2 ⟨C, by simp, hx⟩))
 · simpa using hy
end
end Go.Proofs.YtjecjaihficcdaaGreat
namespace Go.Proofs.YtjecjaihficcdaaGreat
def refCl (f : List (List Int)) (x : Int) : List Int := (setL [] (reachL f x)).filter fun y => decide (x ∈ reachL f y)
def refTake (f : List (List Int)) (x : Int) : Option (List Int) := if 1 < (refCl f x).length ∧ hdI (refCl f x) = x ∧ (0 < x ∨ -x ∈ refCl f x) then some (refCl f x) else none
def RefClasses (f : List (List Int)) : List (List Int) := (graphLits f).filterMap (refTake f)
theorem hdI_mem {l : List Int} (h : l ≠ []) : hdI l ∈ l := by
 cases l with
 | nil => exact absurd rfl h
 | cons x l => simp [hdI]
theorem setL_ne {C : List Int} (h : C ≠ []) : setL [] C ≠ [] := fun e => by
 obtain ⟨x, hx⟩ := List.exists_mem_of_ne_nil _ h
 have : x ∈ setL [] C := (mem_setL C [] x).2 (.inr hx)
 rw [e] at this; cases this
theorem graphLits_var {f : List (List Int)} (hm : mayCnfB f = true) : ∀ x ∈ graphLits f, varOf x ≠ 0 := fun x hx => by
 rcases (mem_graphLits f x).1 hx with h | h
 · exact lits2_var hm x h
 · have := lits2_var hm _ h; rwa [varOf_neg] at this
theorem classes_ref {f L : List (List Int)} (hm : mayCnfB f = true) (h : ClassesP f L) : L = RefClasses f := by
 obtain ⟨hp, hs⟩ := h
 obtain ⟨hTV, -, hall⟩ := foldl_TV (graphLits_nodup f) (graphLits_nb f) (graphLits f) t0 (fun x hx => hx) (t0_TV (nbL f) (graphLits f))
 have hpath : (tAll (nbL f) (graphLits f) (graphLits f)).path = [] := hTV.ti.path
 have hcls0 : clsOf f = (tAll (nbL f) (graphLits f) (graphLits f)).cls.map (setL []) := rfl
 change TV (nbL f) (graphLits f) (tAll (nbL f) (graphLits f) (graphLits f)) [] at hTV
 change ∀ x ∈ graphLits f, (tAll (nbL f) (graphLits f) (graphLits f)).num x ≠ 0 at hall
 generalize tAll (nbL f) (graphLits f) (graphLits f) = T at hTV hall hpath hcls0
 have hin : ∀ x ∈ graphLits f, ∃ C ∈ T.cls, x ∈ C := fun x hx => by
  have h1 := (hTV.ti.ent x).1 (hall x hx)
  rw [hpath] at h1
  rcases h1 with h1 | h1
  · cases h1
  · exact List.mem_flatten.1 h1
 have hsub : ∀ C ∈ T.cls, ∀ x ∈ C, x ∈ graphLits f := fun C hC x hx => hTV.inU x ((hTV.ti.ent x).2 (.inr (List.mem_flatten.2 ⟨C, hC, hx⟩)))
 have hcl : ∀ C ∈ T.cls, ∀ x ∈ C, setL [] C = refCl f x := fun C hC x hx => by
  refine sorted_ext blt_asym (setL_sorted _ List.Pairwise.nil) ((setL_sorted _ List.Pairwise.nil).filter _) fun y => ?_
  unfold refCl
  rw [mem_setL, List.mem_filter, mem_setL, decide_eq_true_eq]
  have e := cls_same hTV hC hx y
  simp only [List.not_mem_nil, false_or, (reachL_spec f x).2.2, (reachL_spec f y).2.2]
  exact e
 have hmem : ∀ c, c ∈ L ↔ c ∈ RefClasses f := fun c => by
  rw [hp.mem_iff, List.mem_filter, hcls0, List.mem_map]
  unfold RefClasses
  rw [List.mem_filterMap]
  constructor
  · rintro ⟨⟨C, hC, rfl⟩, hg⟩
    have hne := setL_ne (hTV.ti.clss C hC).1
    have hx := hdI_mem hne
    have hxC : hdI (setL [] C) ∈ C := by rw [mem_setL] at hx; simpa using hx
    have he := hcl C hC _ hxC
    refine ⟨hdI (setL [] C), hsub C hC _ hxC, ?_⟩
    unfold refTake
    rw [← he, if_pos]
    unfold goodC at hg
    rw [Bool.and_eq_true, decide_eq_true_eq, Bool.or_eq_true, decide_eq_true_eq, decide_eq_true_eq] at hg
    refine ⟨hg.1, rfl, hg.2.imp id fun e => ?_⟩
    have hh : (setL [] C).headD 0 = hdI (setL [] C) := rfl
    rw [hh] at e
    rw [← e]
    match hq : setL [] C with
    | [] => exact absurd hq hne
    | [_] => rw [hq] at hg; simp at hg
    | a :: b :: r => simp
  · rintro ⟨x, hx, ht⟩
    unfold refTake at ht
    split at ht
    · rename_i hc
      obtain ⟨h1, h2, h3⟩ := hc
      injection ht with ht
      subst ht
      obtain ⟨C, hC, hxC⟩ := hin x hx
      have he := hcl C hC x hxC
      refine ⟨⟨C, hC, he⟩, ?_⟩
      have hsort : (refCl f x).Pairwise blt := by rw [← he]; exact setL_sorted _ List.Pairwise.nil
      have hv := varOf_eq (graphLits_var hm x hx)
      have hv0 := graphLits_var hm x hx
      unfold goodC
      rw [Bool.and_eq_true, decide_eq_true_eq, Bool.or_eq_true, decide_eq_true_eq, decide_eq_true_eq]
      refine ⟨h1, ?_⟩
      match hq : refCl f x with
      | [] => rw [hq] at h1; simp at h1
      | [_] => rw [hq] at h1; simp at h1
      | a :: b :: r =>
        rw [hq] at h2 h3 hsort
        have h2' : a = x := h2
        subst h2'
        rcases h3 with h3 | h3
        · exact .inl h3
        · by_cases hpos : 0 < a
          · exact .inl hpos
          · refine .inr ?_
            show b = -a
            rw [List.pairwise_cons, List.pairwise_cons] at hsort
            obtain ⟨k1, k2, -⟩ := hsort
            have hab := k1 b (by simp)
            simp only [List.mem_cons] at h3
            rcases h3 with h3 | h3 | h3
            · have : a = 0 := by omega
              rw [this] at hv0
              exact absurd rfl hv0
            · exact h3.symm
            · have hb := k2 _ h3
              unfold blt at hab hb
              omega
    · cases ht
 refine sorted_ext (r := fun a b => elt (hdI a) (hdI b)) (fun a b h1 h2 => by unfold elt at h1 h2; omega) ?_ ?_ hmem
 · have hd : L.Pairwise fun a b => hdI a ≠ hdI b := by
    rw [hp.pairwise_iff (fun h => h.symm), hcls0]
    refine List.Pairwise.filter _ ?_
    rw [List.pairwise_map]
    refine (List.pairwise_flatten.1 hTV.ti.clsn).2.imp_of_mem fun {C D} hC hD hCD => ?_
    have k1 := hdI_mem (setL_ne (hTV.ti.clss C hC).1)
    have k2 := hdI_mem (setL_ne (hTV.ti.clss D hD).1)
    rw [mem_setL] at k1 k2
    exact hCD _ (by simpa using k1) _ (by simpa using k2)
   have hv : ∀ c ∈ L, varOf (hdI c) ≠ 0 := fun c hc => by
    rw [hp.mem_iff, List.mem_filter, hcls0, List.mem_map] at hc
    obtain ⟨⟨C, hC, rfl⟩, -⟩ := hc
    have k1 := hdI_mem (setL_ne (hTV.ti.clss C hC).1)
    rw [mem_setL] at k1
    exact graphLits_var hm _ (hsub C hC _ (by simpa using k1))
   have := (List.pairwise_and_iff.2 ⟨hd, hs⟩)
   refine this.imp_of_mem fun {a b} ha hb hab => ?_
   have v1 := varOf_eq (hv a ha)
   have v2 := varOf_eq (hv b hb)
   have h1 := hab.1
   have h2 := hab.2
   unfold elt at h2 ⊢
   omega
 · unfold RefClasses
   rw [List.pairwise_filterMap]
   have hg : (graphLits f).Pairwise blt := setL_sorted _ List.Pairwise.nil
   refine hg.imp_of_mem fun {x y} hx hy hxy c hc e he => ?_
   have g1 : hdI c = x := by unfold refTake at hc; split at hc; · rename_i q; injection hc with hc; rw [← hc]; exact q.2.1
                             · cases hc
   have g2 : hdI e = y := by unfold refTake at he; split at he; · rename_i q; injection he with he; rw [← he]; exact q.2.1
                             · cases he
   rw [g1, g2]
   exact (elt_blt (graphLits_var hm x hx) (graphLits_var hm y hy)).2 hxy
end Go.Proofs.YtjecjaihficcdaaGreat
namespace Go.Proofs.YtjecjaihficcdaaGreat
set_option maxRecDepth 100000 in
theorem aw_cl1 : RefClasses [[1, 2], [1, -2], [-1, 2], [-1, -2]] = [[-1, 1, -2, 2]] := by decide +kernel
set_option maxRecDepth 100000 in
theorem aw_cl2 : RefClasses [[1, 2], [1, -2]] = [] := by decide +kernel
set_option maxRecDepth 100000 in
theorem aw_cl3 : RefClasses [[1, 2], [-1, -2]] = [[1, -2]] := by decide +kernel
set_option maxRecDepth 100000 in
theorem aw_f1 : FailV [[1, 2], [1, -2], [-1, 2], [-1, -2]] = [-1, 1, -2, 2] := by decide +kernel
set_option maxRecDepth 100000 in
theorem aw_f2 : FailV [[1, 2], [1, -2]] = [-1] := by decide +kernel
set_option maxRecDepth 100000 in
theorem aw_r1 : ReachV [[1, 2], [-2, 3]] (-1) = [-1, 2, 3] := by decide +kernel
set_option maxRecDepth 100000 in
theorem aw_m1 : (MakeV ⟨[1], [(2, [1]), (3, [1])], [[-2, 3], [2, -3], [2, 3]]⟩ ⟨6, 2, 3, 0, 1⟩).2 = 0 ∧ (MakeV ⟨[1], [(2, [1]), (3, [1])], [[-2, 3], [2, -3], [2, 3]]⟩ ⟨6, 2, 3, 0, 1⟩).1.clauses = [[3]] ∧ (MakeV ⟨[1], [(2, [1]), (3, [1])], [[-2, 3], [2, -3], [2, 3]]⟩ ⟨6, 2, 3, 0, 1⟩).1.exist.length = 1 := by decide +kernel
set_option maxRecDepth 100000 in
theorem aw_n1 : (nextP ⟨[1], [(2, [1]), (3, [1])], [[-2, 3], [2, -3], [2, 3]]⟩).map (fun c => (c.kind, c.lit, c.tz, c.pos, c.other)) = some (6, 2, 3, 0, 1) := by decide +kernel
set_option maxRecDepth 100000 in
theorem aw_n2 : (nextP ⟨[1], [(2, [])], [[-1, 2], [1, -2]]⟩).isSome = false := by decide +kernel
end Go.Proofs.YtjecjaihficcdaaGreat
namespace Go.Proofs.YtjecjaihficcdaaGreat
open Go.RowKit
theorem Ext.step {a b : World} (o : Obj) (h : Ext a b) : Ext a (b.alloc o) := h.trans (Ext.alloc b o)
theorem st1 (w : World) (n : Nat) (hn : w.heap.size = n) (x : Int) : ∃ W : World, W = w.alloc (.cells #[.int .i64 x] 3) ∧ RI W (.slice (some ⟨n, 0, none⟩) 1 1) [x] ∧ Ext w W ∧ W.heap.size = n + 1 :=
 ⟨_, rfl, hn ▸ lit0 w [x] (by simp), Ext.alloc w _, by simp [hn]⟩
theorem st2 (w : World) (n : Nat) (hn : w.heap.size = n) (x y : Int) : ∃ W : World, W = w.alloc (.cells #[.int .i64 x, .int .i64 y] 3) ∧ RI W (.slice (some ⟨n, 0, none⟩) 2 2) [x, y] ∧ Ext w W ∧ W.heap.size = n + 1 :=
 ⟨_, rfl, hn ▸ lit0 w [x, y] (by simp), Ext.alloc w _, by simp [hn]⟩
theorem stL (w : World) (n : Nat) (hn : w.heap.size = n) (vs : List Value) (k : Nat) (f : List (List Int)) (hk : vs.length = k) (hl : vs.length = f.length) (hm : k ≤ 1000000) (h : ∀ j (h : j < vs.length) (h' : j < f.length), RI w vs[j] f[j]) :
 ∃ W : World, W = w.alloc (.cells vs.toArray 24) ∧ RLL W (.slice (some ⟨n, 0, none⟩) k k) f ∧ Ext w W ∧ W.heap.size = n + 1 :=
 ⟨_, rfl, hk ▸ hn ▸ rll_lit w vs f hl (hk ▸ hm) h, Ext.alloc w _, by simp [hn]⟩
theorem encX_at : ∀ (ps : List (Int × Value)) (j : Nat) (h : j < ps.length), (encX ps)[j * 2]? = some (.int .i64 ps[j].1) ∧ (encX ps)[j * 2 + 1]? = some ps[j].2 := by
 intro ps
 induction ps with
 | nil => intro j h; exact absurd h (Nat.not_lt_zero j)
 | cons p ps ih =>
   intro j h
   have e : encX (p :: ps) = .int .i64 p.1 :: p.2 :: encX ps := rfl
   cases j with
   | zero => rw [e]; exact ⟨rfl, rfl⟩
   | succ j =>
     have := ih j (by simpa using h)
     rw [e, show (j + 1) * 2 = j * 2 + 1 + 1 by omega]
     simp only [List.getElem?_cons_succ, List.getElem_cons_succ]
     exact this
theorem stX (w : World) (n : Nat) (hn : w.heap.size = n) (ps : List (Int × Value)) (k : Nat) (X : List (Int × List Int)) (hk : ps.length = k) (hl : ps.length = X.length) (hm : k ≤ 1000000) (h : ∀ j (h : j < ps.length) (h' : j < X.length), ps[j].1 = X[j].1 ∧ RI w ps[j].2 X[j].2) :
 ∃ W : World, W = w.alloc (.cells (encX ps).toArray 61) ∧ RX W (.slice (some ⟨n, 0, none⟩) k k) X ∧ Ext w W ∧ W.heap.size = n + 1 := by
 subst hn hk
 refine ⟨_, rfl, ⟨_, ps.length, ps.map Prod.snd, by rw [hl], by omega, by omega, by rw [List.length_map, hl], fun j hj hj' => ⟨_, rfl, ?_, ?_, ?_⟩⟩, Ext.alloc w _, by simp⟩
 · obtain ⟨q1, q2⟩ := encX_at ps j (by omega)
   rw [addr0, (Blk.new w 61 (encX ps)).cell, q1, (h j (by omega) hj).1]
 · obtain ⟨q1, q2⟩ := encX_at ps j (by omega)
   rw [addr0]
   show World.cell? _ ⟨w.heap.size, j * 2 + 1, none⟩ = _
   rw [(Blk.new w 61 (encX ps)).cell, q2, List.getElem_map]
 · rw [List.getElem_map]
   exact (h j (by omega) hj).2.ext (Ext.alloc w _)
def awD1 : DqV := ⟨[1], [(2, [1]), (3, [1])], [[-2, 3], [2, -3], [2, 3]]⟩
def awD2 : DqV := ⟨[1], [(2, [])], [[-1, 2], [1, -2]]⟩
def awF : List (List Int) := [[1, 2], [1, -2], [-1, 2], [-1, -2]]
theorem dok_of (d : DqV) (h1 : (d.univ.all fun x => decide (-9223372036854775808 ≤ x ∧ x ≤ 9223372036854775807)) = true) (h2 : (d.exist.all fun p => decide (-9223372036854775808 ≤ p.1 ∧ p.1 ≤ 9223372036854775807) && p.2.all fun x => decide (-9223372036854775808 ≤ x ∧ x ≤ 9223372036854775807)) = true)
 (h3 : (d.clauses.all fun xs => xs.all fun x => decide (-9223372036854775808 ≤ x ∧ x ≤ 9223372036854775807)) = true) (h4 : d.univ.length ≤ 1000000) (h5 : d.exist.length ≤ 1000000) (h6 : (d.exist.all fun p => decide (p.2.length ≤ 1000000)) = true) (h7 : d.clauses.length ≤ 1000000) (h8 : total d.clauses ≤ 1000000) : DOk d :=
 ⟨all64_of _ h1, fun x hx => by
  have := List.all_eq_true.1 h2 x hx
  rw [Bool.and_eq_true] at this
  have h9 := of_decide_eq_true this.1
  exact ⟨h9, all64_of _ this.2⟩, all64L_of _ h3, h4, h5, fun x hx => of_decide_eq_true (List.all_eq_true.1 h6 x hx), h7, h8⟩
theorem awD1_ok : DOk awD1 := dok_of _ (by decide) (by decide) (by decide) (by decide) (by decide) (by decide) (by decide) (by decide)
theorem awD2_ok : DOk awD2 := dok_of _ (by decide) (by decide) (by decide) (by decide) (by decide) (by decide) (by decide) (by decide)
theorem aw_next1 : nextP awD1 = some ⟨6, 2, 3, 0, 1⟩ := by
 have h := aw_n1
 change (nextP awD1).map _ = _ at h
 cases hn : nextP awD1 with
 | none => rw [hn] at h; cases h
 | some c =>
   rw [hn] at h
   simp only [Option.map_some, Option.some.injEq, Prod.mk.injEq] at h
   obtain ⟨h1, h2, h3, h4, h5⟩ := h
   obtain ⟨k, l, t, p, o⟩ := c
   simp only at h1 h2 h3 h4 h5
   rw [h1, h2, h3, h4, h5]
theorem aw_next2 : nextP awD2 = none := by
 have h := aw_n2
 change (nextP awD2).isSome = false at h
 cases hn : nextP awD2 with
 | none => rfl
 | some c => rw [hn] at h; cases h
theorem aw_new1 (w : World) : ∃ W : World, W = ((((((((w.alloc (.cells #[.int .i64 1] 3)).alloc (.cells #[.int .i64 1] 3)).alloc (.cells #[.int .i64 1] 3)).alloc
 (.cells #[.int .i64 2, .slice (some ⟨w.heap.size + 1, 0, none⟩) 1 1, .int .i64 3, .slice (some ⟨w.heap.size + 1 + 1, 0, none⟩) 1 1] 61)).alloc
 (.cells #[.int .i64 (-2), .int .i64 3] 3)).alloc (.cells #[.int .i64 2, .int .i64 (-3)] 3)).alloc (.cells #[.int .i64 2, .int .i64 3] 3)).alloc
 (.cells #[.slice (some ⟨w.heap.size + 1 + 1 + 1 + 1, 0, none⟩) 2 2, .slice (some ⟨w.heap.size + 1 + 1 + 1 + 1 + 1, 0, none⟩) 2 2, .slice (some ⟨w.heap.size + 1 + 1 + 1 + 1 + 1 + 1, 0, none⟩) 2 2] 24)).alloc
 (.cells #[.slice (some ⟨w.heap.size, 0, none⟩) 1 1, .slice (some ⟨w.heap.size + 1 + 1 + 1, 0, none⟩) 2 2, .slice (some ⟨w.heap.size + 1 + 1 + 1 + 1 + 1 + 1 + 1, 0, none⟩) 3 3] 27) ∧
 RD W (.slice (some ⟨w.heap.size, 0, none⟩) 1 1) (.slice (some ⟨w.heap.size + 1 + 1 + 1, 0, none⟩) 2 2) (.slice (some ⟨w.heap.size + 1 + 1 + 1 + 1 + 1 + 1 + 1, 0, none⟩) 3 3) awD1 ∧
 Blk W (w.heap.size + 1 + 1 + 1 + 1 + 1 + 1 + 1 + 1) 27 [.slice (some ⟨w.heap.size, 0, none⟩) 1 1, .slice (some ⟨w.heap.size + 1 + 1 + 1, 0, none⟩) 2 2, .slice (some ⟨w.heap.size + 1 + 1 + 1 + 1 + 1 + 1 + 1, 0, none⟩) 3 3] ∧ Ext w W := by
 obtain ⟨w1, h1, r1, e1, s1⟩ := st1 w _ rfl 1
 obtain ⟨w2, h2, r2, e2, s2⟩ := st1 w1 _ s1 1
 obtain ⟨w3, h3, r3, e3, s3⟩ := st1 w2 _ s2 1
 obtain ⟨w4, h4, r4, e4, s4⟩ := stX w3 _ s3 [(2, .slice (some ⟨w.heap.size + 1, 0, none⟩) 1 1), (3, .slice (some ⟨w.heap.size + 1 + 1, 0, none⟩) 1 1)] 2 [(2, [1]), (3, [1])] rfl rfl (by decide) fun j hj hj' => by
  match j, hj with
  | 0, _ => exact ⟨rfl, r2.ext e3⟩
  | 1, _ => exact ⟨rfl, r3⟩
 obtain ⟨w5, h5, r5, e5, s5⟩ := st2 w4 _ s4 (-2) 3
 obtain ⟨w6, h6, r6, e6, s6⟩ := st2 w5 _ s5 2 (-3)
 obtain ⟨w7, h7, r7, e7, s7⟩ := st2 w6 _ s6 2 3
 obtain ⟨w8, h8, r8, e8, s8⟩ := stL w7 _ s7 [.slice (some ⟨w.heap.size + 1 + 1 + 1 + 1, 0, none⟩) 2 2, .slice (some ⟨w.heap.size + 1 + 1 + 1 + 1 + 1, 0, none⟩) 2 2, .slice (some ⟨w.heap.size + 1 + 1 + 1 + 1 + 1 + 1, 0, none⟩) 2 2] 3 [[-2, 3], [2, -3], [2, 3]] rfl rfl (by decide) fun j hj hj' => by
  match j, hj with
  | 0, _ => exact r5.ext (e6.trans e7)
  | 1, _ => exact r6.ext e7
  | 2, _ => exact r7
 have e9 := Ext.alloc w8 (.cells #[.slice (some ⟨w.heap.size, 0, none⟩) 1 1, .slice (some ⟨w.heap.size + 1 + 1 + 1, 0, none⟩) 2 2, .slice (some ⟨w.heap.size + 1 + 1 + 1 + 1 + 1 + 1 + 1, 0, none⟩) 3 3] 27)
 have e59 := ((((e5.trans e6).trans e7).trans e8).trans e9)
 have e29 := ((e2.trans e3).trans e4).trans e59
 refine ⟨_, ?_, ⟨r1.ext e29, r4.ext e59, RLL.ext' r8 e9⟩, ?_, e1.trans e29⟩
 · rw [h8, h7, h6, h5, h4, h3, h2, h1]; rfl
 · exact Blk.new' (by rw [s8])
theorem aw_new2 (w : World) : ∃ W : World, W = ((((w.alloc (.cells #[.int .i64 1] 3)).alloc (.cells #[.int .i64 2, .slice none 0 0] 61)).alloc
 (.cells #[.int .i64 (-1), .int .i64 2] 3)).alloc (.cells #[.int .i64 1, .int .i64 (-2)] 3)).alloc
 (.cells #[.slice (some ⟨w.heap.size + 1 + 1, 0, none⟩) 2 2, .slice (some ⟨w.heap.size + 1 + 1 + 1, 0, none⟩) 2 2] 24) ∧
 RD W (.slice (some ⟨w.heap.size, 0, none⟩) 1 1) (.slice (some ⟨w.heap.size + 1, 0, none⟩) 1 1) (.slice (some ⟨w.heap.size + 1 + 1 + 1 + 1, 0, none⟩) 2 2) awD2 ∧ Ext w W := by
 obtain ⟨w1, h1, r1, e1, s1⟩ := st1 w _ rfl 1
 obtain ⟨w2, h2, r2, e2, s2⟩ := stX w1 _ s1 [(2, .slice none 0 0)] 1 [(2, [])] rfl rfl (by decide) fun j hj hj' => by
  match j, hj with
  | 0, _ => exact ⟨rfl, RI.none _⟩
 obtain ⟨w3, h3, r3, e3, s3⟩ := st2 w2 _ s2 (-1) 2
 obtain ⟨w4, h4, r4, e4, s4⟩ := st2 w3 _ s3 1 (-2)
 obtain ⟨w5, h5, r5, e5, s5⟩ := stL w4 _ s4 [.slice (some ⟨w.heap.size + 1 + 1, 0, none⟩) 2 2, .slice (some ⟨w.heap.size + 1 + 1 + 1, 0, none⟩) 2 2] 2 [[-1, 2], [1, -2]] rfl rfl (by decide) fun j hj hj' => by
  match j, hj with
  | 0, _ => exact r3.ext e4
  | 1, _ => exact r4
 refine ⟨_, ?_, ⟨r1.ext (e2.trans (e3.trans (e4.trans e5))), r2.ext (e3.trans (e4.trans e5)), r5⟩, e1.trans (e2.trans (e3.trans (e4.trans e5)))⟩
 rw [h5, h4, h3, h2, h1]; rfl
theorem aw_new3 (w : World) : ∃ W : World, W = ((((w.alloc (.cells #[.int .i64 1, .int .i64 2] 3)).alloc (.cells #[.int .i64 1, .int .i64 (-2)] 3)).alloc
 (.cells #[.int .i64 (-1), .int .i64 2] 3)).alloc (.cells #[.int .i64 (-1), .int .i64 (-2)] 3)).alloc
 (.cells #[.slice (some ⟨w.heap.size, 0, none⟩) 2 2, .slice (some ⟨w.heap.size + 1, 0, none⟩) 2 2, .slice (some ⟨w.heap.size + 1 + 1, 0, none⟩) 2 2, .slice (some ⟨w.heap.size + 1 + 1 + 1, 0, none⟩) 2 2] 24) ∧
 RLL W (.slice (some ⟨w.heap.size + 1 + 1 + 1 + 1, 0, none⟩) 4 4) awF ∧ Ext w W := by
 obtain ⟨w1, h1, r1, e1, s1⟩ := st2 w _ rfl 1 2
 obtain ⟨w2, h2, r2, e2, s2⟩ := st2 w1 _ s1 1 (-2)
 obtain ⟨w3, h3, r3, e3, s3⟩ := st2 w2 _ s2 (-1) 2
 obtain ⟨w4, h4, r4, e4, s4⟩ := st2 w3 _ s3 (-1) (-2)
 obtain ⟨w5, h5, r5, e5, s5⟩ := stL w4 _ s4 [.slice (some ⟨w.heap.size, 0, none⟩) 2 2, .slice (some ⟨w.heap.size + 1, 0, none⟩) 2 2, .slice (some ⟨w.heap.size + 1 + 1, 0, none⟩) 2 2, .slice (some ⟨w.heap.size + 1 + 1 + 1, 0, none⟩) 2 2] 4 awF rfl rfl (by decide) fun j hj hj' => by
  match j, hj with
  | 0, _ => exact r1.ext (e2.trans (e3.trans e4))
  | 1, _ => exact r2.ext (e3.trans e4)
  | 2, _ => exact r3.ext e4
  | 3, _ => exact r4
 refine ⟨_, ?_, r5, e1.trans (e2.trans (e3.trans (e4.trans e5)))⟩
 rw [h5, h4, h3, h2, h1]
theorem RLL.take {w : World} {A : Option Addr} {n c : Nat} {f : List (List Int)} (h : RLL w (.slice A n c) f) (k : Nat) (hk : k ≤ f.length) : RLL w (.slice A k c) (f.take k) := by
 obtain ⟨A', c', vs, e, h1, h2, h3, h4, h5⟩ := h
 injection e with e1 e2 e3
 subst e1 e3
 refine ⟨A, c, vs.take k, by rw [List.length_take]; congr 1; omega, by rw [List.length_take]; omega, by rw [List.length_take]; omega, fun j hj => ?_, by rw [List.length_take, List.length_take]; omega, fun j hj hj' => ?_⟩
 · rw [List.length_take] at hj
   obtain ⟨ad, h6, h7⟩ := h3 j (by omega)
   exact ⟨ad, h6, by rw [h7, List.getElem_take]⟩
 · simp only [List.getElem_take]
   rw [List.length_take] at hj hj'
   exact h5 j (by omega) (by omega)
end Go.Proofs.YtjecjaihficcdaaGreat
namespace Go.Proofs.YtjecjaihficcdaaGreat
open Go.RowKit
set_option maxHeartbeats 2000000 in
theorem Same_q (xs ys : List Int) (v u : Value) (w : World) (hr : RI w v xs) (kr : RI w u ys) :
 Calls Tryz.prog 11 #[v, u] w fun e w' => e = .returned (.bool (decide (xs = ys))) ∧ ∃ n, w' = w.drewN n := by
 have HR := Lib.hid hr
 have KR := Lib.hid kr
 obtain ⟨A, c, rfl, h1, h2, h3⟩ := hr
 obtain ⟨B, d, rfl, k1, k2, k3⟩ := kr
 clear h3 k3
 by_cases hl : xs.length = ys.length
 · obtain ⟨m, hm⟩ : ∃ m, m = ys.length := ⟨_, rfl⟩
   have HM := Lib.hid hm
   rw [← hm] at hl k1 k2 KR ⊢
   rw [hl] at HR h1 h2 ⊢
   have HL := Lib.hid hl
   clear hl hm
   have hnm : ((m : Int) != (m : Int)) = false := by simp
   go_enter Tryz.func11, Tryz.ntmps11
   go_wp2
   go_loopg [5] m (fun gn i wr => ∃ k : Nat, k ≤ m ∧ gn + k = m ∧ i = .int .i64 k ∧ Hid ((∃ n, wr = w.drewN n) ∧ xs.take k = ys.take k))
   case atStart => exact ⟨0, Nat.zero_le _, by omega, rfl, ⟨0, rfl⟩, by simp⟩
   case round =>
    obtain ⟨k, hk, hgk, rfl, HI⟩ := hrel
    obtain ⟨wk, rfl⟩ : ∃ wk : World, wk = wr := ⟨_, rfl⟩
    have HE : Hid (Ext w wk) := Lib.hid (by obtain ⟨n, e⟩ := HI.out.1; rw [e]; exact Ext.drewN _ _)
    by_cases hlt : k < m
    · have hlx : k < xs.length := by have := HL.out; omega
      have hly : k < ys.length := by have := HM.out; omega
      obtain ⟨ad, rfl, hx0⟩ := (HR.out.ext HE.out).row.2.2.2.int k hlx
      obtain ⟨bd, rfl, hy0⟩ := (KR.out.ext HE.out).row.2.2.2.int k hly
      have hsx := List.take_succ_eq_append_getElem hlx
      have hsy := List.take_succ_eq_append_getElem hly
      obtain ⟨x, hx⟩ : ∃ x, x = xs[k] := ⟨_, rfl⟩
      obtain ⟨y, hy⟩ : ∃ y, y = ys[k] := ⟨_, rfl⟩
      rw [← hx] at hx0 hsx
      rw [← hy] at hy0 hsy
      have HSX := Lib.hid hsx
      have HSY := Lib.hid hsy
      clear hx hy hsx hsy hlx hly
      by_cases hxy : x = y
      · subst hxy
        have hxx : (x != x) = false := by simp
        go_wp2
        go_quiet (fail)
        go_wp2
        go_roundg (m - (k + 1))
        case measure => omega
        case rel =>
         refine ⟨k + 1, by omega, by omega, by go_num, ?_, by rw [HSX.out, HSY.out, HI.out.2]⟩
         obtain ⟨n, e⟩ := HI.out.1
         exact ⟨_, by rw [e, drewN_two]⟩
      · have hxx : (x != y) = true := by simpa using hxy
        have HXY := Lib.hid hxy
        clear hxy
        go_wp2
        go_quiet (fail)
        go_wp2
        go_ret
        refine ⟨ret_bool ?_, ?_⟩
        · symm
          rw [decide_eq_false_iff_not]
          intro e
          have h5 := congrArg (List.take (k + 1)) e
          rw [HSX.out, HSY.out, HI.out.2] at h5
          exact HXY.out (by simpa using h5)
        · obtain ⟨n, e⟩ := HI.out.1
          exact ⟨_, by rw [e, drewN_two]⟩
    · obtain rfl : k = m := by omega
      go_wp2
      go_ret
      refine ⟨ret_bool ?_, HI.out.1⟩
      symm
      rw [decide_eq_true_eq]
      have h5 := HI.out.2
      rwa [List.take_of_length_le (by have := HL.out; omega), List.take_of_length_le (by have := HM.out; omega)] at h5
 · have hnb : ((xs.length : Int) != (ys.length : Int)) = true := by simp; omega
   have HL := Lib.hid hl
   clear hl
   go_enter Tryz.func11, Tryz.ntmps11
   go_wp2
   go_ret
   refine ⟨ret_bool ?_, 0, rfl⟩
   symm
   rw [decide_eq_false_iff_not]
   intro e
   exact HL.out (by rw [e])
theorem Same_any (xs ys : List Int) (v u : Value) (w : World) (hr : RI w v xs) (kr : RI w u ys) : Calls Tryz.prog 11 #[v, u] w fun e w' => e = .returned (.bool (decide (xs = ys))) ∧ Ext w w' :=
 (Same_q xs ys v u w hr kr).mono fun _ _ ⟨h, n, e⟩ => ⟨h, e ▸ Ext.drewN w n⟩
theorem Same_refl (r : List Int) (v u : Value) (w : World) (hr : RI w v r) (kr : RI w u r) : Calls Tryz.prog 11 #[v, u] w fun e w' => e = .returned (.bool true) ∧ Ext w w' := by
 have := Same_any r r v u w hr kr
 rw [decide_eq_true rfl] at this
 exact this
set_option maxHeartbeats 2000000 in
theorem SameAll_any (xs ys : List (List Int)) (v u : Value) (w : World) (hr : RLL w v xs) (kr : RLL w u ys) :
 Calls Tryz.prog 16 #[v, u] w fun e w' => e = .returned (.bool (decide (xs = ys))) ∧ Ext w w' := by
 obtain ⟨A, c, vs, rfl, h1, h2, h3, h4, h5⟩ := hr
 obtain ⟨B, d, us, rfl, k1, k2, k3, k4, k5⟩ := kr
 have H3 := Lib.hid h3
 have H4 := Lib.hid h4
 have H5 := Lib.hid h5
 have K3 := Lib.hid k3
 have K4 := Lib.hid k4
 have K5 := Lib.hid k5
 clear h3 h4 h5 k3 k4 k5
 by_cases hl : vs.length = us.length
 · obtain ⟨m, hm⟩ : ∃ m, m = us.length := ⟨_, rfl⟩
   have HM := Lib.hid hm
   rw [← hm] at hl k1 k2 ⊢
   rw [hl] at h1 h2 ⊢
   have HL := Lib.hid hl
   clear hl hm
   have hnm : ((m : Int) != (m : Int)) = false := by simp
   go_enter Tryz.func16, Tryz.ntmps16
   go_wp2
   go_loopg [5] m (fun gn i wr => ∃ k : Nat, k ≤ m ∧ gn + k = m ∧ i = .int .i64 k ∧ Hid (Ext w wr ∧ xs.take k = ys.take k))
   case atStart => exact ⟨0, Nat.zero_le _, by omega, rfl, Ext.refl _, by simp⟩
   case round =>
    obtain ⟨k, hk, hgk, rfl, HI⟩ := hrel
    obtain ⟨wk, rfl⟩ : ∃ wk : World, wk = wr := ⟨_, rfl⟩
    by_cases hlt : k < m
    · have hlv : k < vs.length := by have := HL.out; omega
      have hlu : k < us.length := by have := HM.out; omega
      have hlx : k < xs.length := by have := H4.out; omega
      have hly : k < ys.length := by have := K4.out; omega
      obtain ⟨ad, rfl, hx0⟩ := (H3.out.ext HI.out.1) k hlv
      obtain ⟨bd, rfl, hy0⟩ := (K3.out.ext HI.out.1) k hlu
      have hsx := List.take_succ_eq_append_getElem hlx
      have hsy := List.take_succ_eq_append_getElem hly
      have hcl : ∀ n, Calls Tryz.prog 11 #[vs[k], us[k]] (wk.drewN n) fun e w' => e = .returned (.bool (decide (xs[k] = ys[k]))) ∧ ∃ q, w' = wk.drewN q := fun n => by
       have e0 : Ext w (wk.drewN n) := HI.out.1.trans (Ext.drewN _ _)
       refine (Same_q xs[k] ys[k] vs[k] us[k] _ ((H5.out k hlv hlx).ext e0) ((K5.out k hlu hly).ext e0)).mono ?_
       rintro e w' ⟨he, q, rfl⟩
       exact ⟨he, n + q, drewN_two _ _ _⟩
      obtain ⟨E, ce, he, -⟩ := H5.out k hlv hlx
      obtain ⟨D, de, hd, -⟩ := K5.out k hlu hly
      obtain ⟨x, hx⟩ : ∃ x, x = xs[k] := ⟨_, rfl⟩
      obtain ⟨y, hy⟩ : ∃ y, y = ys[k] := ⟨_, rfl⟩
      rw [he] at hx0 hcl
      rw [hd] at hy0 hcl
      rw [← hx] at hsx hx0 hcl
      rw [← hy] at hsy hy0 hcl
      have HSX := Lib.hid hsx
      have HSY := Lib.hid hsy
      obtain ⟨a, ha⟩ : ∃ a, a = x.length := ⟨_, rfl⟩
      obtain ⟨b, hb⟩ : ∃ b, b = y.length := ⟨_, rfl⟩
      rw [← ha] at hx0 hcl
      rw [← hb] at hy0 hcl
      clear hx hy hsx hsy hlx hly hlv hlu he hd ha hb
      by_cases hxy : x = y
      · rw [decide_eq_true hxy] at hcl
        have HXY := Lib.hid hxy
        have HCL := Lib.hid hcl
        clear hxy hcl
        go_wp2
        go_quiet ((go_at_call 11; exact HCL.out _))
        go_wp2
        go_roundg (m - (k + 1))
        case measure => omega
        case rel => exact ⟨k + 1, by omega, by omega, by go_num, HI.out.1.trans (Ext.drewN _ _), by rw [HSX.out, HSY.out, HI.out.2, HXY.out]⟩
      · rw [decide_eq_false hxy] at hcl
        have HXY := Lib.hid hxy
        have HCL := Lib.hid hcl
        clear hxy hcl
        go_wp2
        go_quiet ((go_at_call 11; exact HCL.out _))
        go_wp2
        go_ret
        refine ⟨ret_bool ?_, HI.out.1.trans (Ext.drewN _ _)⟩
        symm
        rw [decide_eq_false_iff_not]
        intro e
        have h5 := congrArg (List.take (k + 1)) e
        rw [HSX.out, HSY.out, HI.out.2] at h5
        exact HXY.out (by simpa using h5)
    · obtain rfl : k = m := by omega
      go_wp2
      go_ret
      refine ⟨ret_bool ?_, HI.out.1⟩
      symm
      rw [decide_eq_true_eq]
      have h5 := HI.out.2
      rwa [List.take_of_length_le (by have := HL.out; have := H4.out; omega), List.take_of_length_le (by have := HM.out; have := K4.out; omega)] at h5
 · have hnb : ((vs.length : Int) != (us.length : Int)) = true := by simp; omega
   have HL := Lib.hid hl
   clear hl
   go_enter Tryz.func16, Tryz.ntmps16
   go_wp2
   go_ret
   refine ⟨ret_bool ?_, Ext.refl _⟩
   symm
   rw [decide_eq_false_iff_not]
   intro e
   exact HL.out (by have := H4.out; have := K4.out; have := congrArg List.length e; omega)
end Go.Proofs.YtjecjaihficcdaaGreat
namespace Go.Proofs.YtjecjaihficcdaaGreat
open Go.RowKit
theorem aw_class (f L : List (List Int)) (u : Value) (w : World) (kr : RLL w u f) (h64 : All64L f) (hm : mayCnfB f = true) (ht : total f ≤ 1000000) (hL : RefClasses f = L) :
 Calls Tryz.prog 17 #[u] w fun e w' => ∃ v, e = .returned v ∧ RLL w' v L ∧ Ext w w' := by
 refine (classes_any f u w kr h64 (fun _ => by omega)).mono ?_
 rintro e w' ⟨v, L', rfl, hr, hE, -, hc⟩
 rw [classes_ref hm (hc hm), hL] at hr
 exact ⟨v, rfl, hr, hE⟩
theorem SameAll_refl (f : List (List Int)) (v u : Value) (w : World) (hr : RLL w v f) (kr : RLL w u f) : Calls Tryz.prog 16 #[v, u] w fun e w' => e = .returned (.bool true) ∧ Ext w w' := by
 have := SameAll_any f f v u w hr kr
 rwa [decide_eq_true rfl] at this
theorem RLL.nil_form {w : World} {v : Value} (h : RLL w v []) : ∃ A c, v = .slice A 0 c := by
 obtain ⟨A, c, vs, rfl, -, -, -, hl, -⟩ := h
 exact ⟨A, c, by rw [show vs.length = 0 from hl]⟩
theorem aw_fail (f : List (List Int)) (xs : List Int) (u : Value) (w : World) (kr : RLL w u f) (h64 : All64L f) (ht : total f ≤ 1000000) (hL : FailV f = xs) :
 Calls Tryz.prog 14 #[u] w fun e w' => ∃ v, e = .returned v ∧ RI w' v xs ∧ Ext w w' := by
 refine (Failed_any f u w h64 kr (fun _ => by omega)).mono ?_
 rintro e w' ⟨v, rfl, hr, hE⟩
 rw [hL] at hr
 exact ⟨v, rfl, hr.reads, hE⟩
set_option maxRecDepth 100000 in
set_option maxHeartbeats 20000000 in
theorem awake_any (w : World) : Calls Tryz.prog 10 #[] w fun e w' => e = .returned (.bool true) ∧ Ext w w' := by
 obtain ⟨w1, h1, hRD1, hB1, hE1⟩ := aw_new1 w
 have HRD1 := Lib.hid hRD1
 have HB1 := Lib.hid hB1
 have HE1 := Lib.hid hE1
 go_enter Tryz.func10, Tryz.ntmps10
 go_upto_region 2 with fail
 rw [← h1]
 have d0 := hB1.cell 0
 have d1 := hB1.cell 1
 have d2 := hB1.cell 2
 simp only [List.getElem?_cons_zero, List.getElem?_cons_succ] at d0 d1 d2
 clear h1 hRD1 hB1 hE1
 generalize w.heap.size = b at HRD1 HB1 d0 d1 d2 ⊢
 generalize hb8 : b + 1 + 1 + 1 + 1 + 1 + 1 + 1 + 1 = b8 at HB1 d0 d1 d2 ⊢
 generalize Value.slice (some ⟨b, 0, none⟩) 1 1 = vu at *
 generalize Value.slice (some ⟨b + 1 + 1 + 1, 0, none⟩) 2 2 = vx at *
 generalize Value.slice (some ⟨b + 1 + 1 + 1 + 1 + 1 + 1 + 1, 0, none⟩) 3 3 = vc at *
 have HN : Hid (∀ w', Ext w1 w' → Calls Tryz.prog 19 #[.agg #[vu, vx, vc]] w' fun e w'' => e = .returned (.tuple #[.agg #[.int .u8 6, .int .i64 2, .int .i64 3, .int .i64 0, .int .i64 1], .bool true]) ∧ Ext w' w'') := Lib.hid (fun w' h => by
  have := Next_any awD1 _ _ _ w' (HRD1.out.ext h) awD1_ok
  rw [aw_next1] at this
  exact this)
 have HMK : Hid (∀ w', Ext w1 w' → Calls Tryz.prog 21 #[.agg #[vu, vx, vc], .agg #[.int .u8 6, .int .i64 2, .int .i64 3, .int .i64 0, .int .i64 1]] w' (PostMake w' (MakeV awD1 ⟨6, 2, 3, 0, 1⟩))) := Lib.hid (fun w' h => Make_any awD1 ⟨6, 2, 3, 0, 1⟩ _ _ _ w' (HRD1.out.ext h) awD1_ok ⟨by show I64 2; unfold I64; omega, by show I64 3; unfold I64; omega, by show I64 0; unfold I64; omega, by show I64 1; unfold I64; omega⟩)
 clear hb8
 go_upto_region 3 with (go_at_call 19; refine (HN.out _ (Ext.refl _)).mono ?_; rintro e w2 ⟨rfl, hE⟩; have HE2 := Lib.hid hE; clear hE)
 have e3 := Ext.alloc w2 (.cells #[.int .u8 6, .int .i64 2, .int .i64 3, .int .i64 0, .int .i64 1] 37)
 have B3 := Blk.new w2 37 [.int .u8 6, .int .i64 2, .int .i64 3, .int .i64 0, .int .i64 1]
 have HB3 := Lib.hid B3
 have HE3 := Lib.hid (HE2.out.trans e3)
 have hbD := (HE3.out.chg (fun _ => False)).blk HB1.out id
 have f0 := hbD.cell 0
 have f1 := hbD.cell 1
 have f2 := hbD.cell 2
 have k0 := B3.cell 0
 have k1 := B3.cell 1
 have k2 := B3.cell 2
 have k3 := B3.cell 3
 have k4 := B3.cell 4
 simp only [List.getElem?_cons_zero, List.getElem?_cons_succ] at f0 f1 f2 k0 k1 k2 k3 k4
 clear e3 B3 hbD d0 d1 d2
 generalize w2.heap.size = b3 at HB3 k0 k1 k2 k3 k4 ⊢
 generalize w2.alloc _ = w3 at HB3 HE3 f0 f1 f2 k0 k1 k2 k3 k4 ⊢
 obtain ⟨hm2, hmc, hml⟩ := aw_m1
 change (MakeV awD1 _).2 = 0 at hm2
 change (MakeV awD1 _).1.clauses = _ at hmc
 change (MakeV awD1 _).1.exist.length = 1 at hml
 generalize MakeV awD1 ⟨6, 2, 3, 0, 1⟩ = MV at HMK hm2 hmc hml
 obtain ⟨MD, ME⟩ := MV
 simp only at hm2 hmc hml
 subst hm2
 go_upto_region 4 with (go_at_call 21; refine (HMK.out _ HE3.out).mono ?_; rintro e w4 ⟨mu, mx, mc, rfl, hr, hE⟩; obtain ⟨uA, uN, uC, rfl⟩ := slice_of hr.u; obtain ⟨xA, xC, rfl⟩ : ∃ A c, mx = .slice A 1 c := (by obtain ⟨A, c, us, h, -⟩ := hr.x; exact ⟨A, c, by rw [h, hml]⟩); obtain ⟨cA, cN, cC, rfl⟩ : ∃ A n c, mc = .slice A n c := (by obtain ⟨A, c, us, h, -⟩ := hr.c; exact ⟨A, _, c, h⟩); have HE4 := Lib.hid hE; have HMX := Lib.hid hr.x; have HMC := Lib.hid hr.c; rw [hmc] at HMC; clear hE hr)
 have e5 := Ext.alloc w4 (.cells #[.slice uA uN uC, .slice xA 1 xC, .slice cA cN cC] 27)
 have HB5 := Lib.hid (Blk.new w4 27 [.slice uA uN uC, .slice xA 1 xC, .slice cA cN cC])
 have HE5 := Lib.hid (HE4.out.trans e5)
 have HEA := Lib.hid (HE1.out.trans (HE3.out.trans HE5.out))
 have HMX5 := Lib.hid (HMX.out.ext e5)
 have HMC5 := Lib.hid (RLL.ext' HMC.out e5)
 have hbC := (HE5.out.chg (fun _ => False)).blk HB3.out id
 have HBC := Lib.hid hbC
 clear e5 hbC k0 k1 k2 k3 k4 f0 f1 f2 HMX HMC hmc HE4
 generalize w4.heap.size = b5 at HB5 ⊢
 generalize w4.alloc _ = w5 at HB5 HE5 HEA HMX5 HMC5 HBC ⊢
 clear HE5 HE3 HE2 HMK HN HB1 HB3 HE1 HRD1
 obtain ⟨w6, h6, hRD6, hE6⟩ := aw_new2 w5
 have HN2 : Hid (∀ w', Ext w6 w' → Calls Tryz.prog 19 #[.agg #[.slice (some ⟨w5.heap.size, 0, none⟩) 1 1, .slice (some ⟨w5.heap.size + 1, 0, none⟩) 1 1, .slice (some ⟨w5.heap.size + 1 + 1 + 1 + 1, 0, none⟩) 2 2]] w' fun e w'' => e = .returned (.tuple #[.agg #[.int .u8 0, .int .i64 0, .int .i64 0, .int .i64 0, .int .i64 0], .bool false]) ∧ Ext w' w'') := Lib.hid (fun w' h => by
  have := Next_any awD2 _ _ _ w' (hRD6.ext h) awD2_ok
  rw [aw_next2] at this
  exact this)
 have HE6 := Lib.hid hE6
 have H6 := Lib.hid h6
 clear hRD6 hE6 h6
 go_upto_region 5 with (go_at_call 19; rw [← H6.out]; refine (HN2.out _ (Ext.refl _)).mono ?_; rintro e w7 ⟨rfl, hE⟩; have HE7 := Lib.hid hE; clear hE)
 have HE8 := Lib.hid (HE6.out.trans (HE7.out.trans (Ext.alloc w7 (.cells #[.int .u8 0, .int .i64 0, .int .i64 0, .int .i64 0, .int .i64 0] 37))))
 generalize w7.alloc _ = w8 at HE8 ⊢
 clear H6 HN2 HE7 HE6
 go_upto_region 6 with fail
 obtain ⟨w9, h9, hF, hE9⟩ := aw_new3 w8
 rw [← h9]
 have HF := Lib.hid hF
 have HE59 := Lib.hid (HE8.out.trans hE9)
 generalize w8.heap.size = b9 at HF ⊢
 clear h9 hF hE9 HE8
 have hb3 := (HE59.out.chg (fun _ => False)).blk HBC.out id
 have hb5 := (HE59.out.chg (fun _ => False)).blk HB5.out id
 have HB59 := Lib.hid hb5
 have k0 := hb3.cell 0
 have k1 := hb3.cell 1
 have k2 := hb3.cell 2
 have k3 := hb3.cell 3
 have k4 := hb3.cell 4
 have m2 := hb5.cell 2
 simp only [List.getElem?_cons_zero, List.getElem?_cons_succ] at k0 k1 k2 k3 k4 m2
 have HM9 := Lib.hid (RLL.ext' HMC5.out HE59.out)
 have HE9 := Lib.hid (HEA.out.trans HE59.out)
 clear hb3 hb5 HBC HB5 HMC5 HMX5 HEA HE59
 go_upto_region 7 with (go_at_call 16; refine (SameAll_refl [[3]] _ _ _ (RLL.ext' HM9.out ((Ext.alloc _ _).trans (Ext.alloc _ _))) (lit1 w9 [3] (by decide))).mono ?_; rintro e w10 ⟨rfl, hE⟩; have HE910 := Lib.hid (((Ext.alloc _ _).trans (Ext.alloc _ _)).trans hE); have m1 := ((HE910.out.chg (fun _ => False)).blk HB59.out id).cell 1; simp only [List.getElem?_cons_zero, List.getElem?_cons_succ] at m1; clear hE)
 clear k0 k1 k2 k3 k4 m1 m2 HM9 HB59
 have HF10 := Lib.hid (RLL.ext' HF.out HE910.out)
 have HF2 : Hid (RLL w10 (.slice (some ⟨b9 + 1 + 1 + 1 + 1, 0, none⟩) 2 4) [[1, 2], [1, -2]]) := Lib.hid (RLL.take HF10.out 2 (by decide))
 have HE10 := Lib.hid (HE9.out.trans HE910.out)
 have hsl := slice_to Tryz.underlying22 info_ints (some ⟨b9 + 1 + 1 + 1 + 1, 0, none⟩) 4 4 2 (by omega)
 clear HF HE9 HE910
 go_upto_region 8 with (go_at_call 17; refine (aw_class awF _ _ _ HF10.out (all64L_of _ (by decide)) (by decide +kernel) (by decide) aw_cl1).mono ?_; rintro e w11 ⟨v11, rfl, hr, hE⟩; have HR11 := Lib.hid hr; have HE11 := Lib.hid hE; clear hr hE)
 go_upto_region 8 with (go_at_call 16; refine (SameAll_refl [[-1, 1, -2, 2]] _ _ _ (RLL.ext' HR11.out ((Ext.alloc _ _).trans (Ext.alloc _ _))) (lit1 w11 [-1, 1, -2, 2] (by decide))).mono ?_; rintro e w12 ⟨rfl, hE⟩; have HE12 := Lib.hid (HE11.out.trans (((Ext.alloc _ _).trans (Ext.alloc _ _)).trans hE)); clear hE HE11)
 go_upto_region 8 with (go_at_call 14; refine (aw_fail awF _ _ _ (RLL.ext' HF10.out HE12.out) (all64L_of _ (by decide)) (by decide) aw_f1).mono ?_; rintro e w13 ⟨v13, rfl, hr, hE⟩; have HR13 := Lib.hid hr; have HE13 := Lib.hid (HE12.out.trans hE); clear hr hE HE12)
 go_upto_region 8 with (go_at_call 11; refine (Same_refl [-1, 1, -2, 2] _ _ _ (HR13.out.ext (Ext.alloc _ _)) (lit0 w13 [-1, 1, -2, 2] (by decide))).mono ?_; rintro e w14 ⟨rfl, hE⟩; have HE14 := Lib.hid (HE13.out.trans ((Ext.alloc _ _).trans hE)); clear hE HE13)
 go_upto_region 8 with (go_at_call 14; refine (aw_fail [[1, 2], [1, -2]] _ _ _ (RLL.ext' HF2.out HE14.out) (all64L_of _ (by decide)) (by decide) aw_f2).mono ?_; rintro e w15 ⟨v15, rfl, hr, hE⟩; have HR15 := Lib.hid hr; have HE15 := Lib.hid (HE14.out.trans hE); clear hr hE HE14)
 go_upto_region 8 with (go_at_call 11; refine (Same_refl [-1] _ _ _ (HR15.out.ext (Ext.alloc _ _)) (lit0 w15 [-1] (by decide))).mono ?_; rintro e w16 ⟨rfl, hE⟩; have HE16 := Lib.hid (HE15.out.trans ((Ext.alloc _ _).trans hE)); clear hE HE15)
 go_upto_region 8 with (go_at_call 17; refine (aw_class [[1, 2], [1, -2]] _ _ _ (RLL.ext' HF2.out HE16.out) (all64L_of _ (by decide)) (by decide +kernel) (by decide) aw_cl2).mono ?_; rintro e w17 ⟨v17, rfl, hr, hE⟩; obtain ⟨A17, c17, rfl⟩ := RLL.nil_form hr; have HE17 := Lib.hid (HE16.out.trans hE); clear hr hE HE16)
 have HEB := Lib.hid (HE10.out.trans HE17.out)
 clear HE10 HE17 HF10 HF2 hsl
 go_wp2_with (go_at_call 17; refine (aw_class [[1, 2], [-1, -2]] _ _ _ (lit2 w17 [1, 2] [-1, -2] (by decide) (by decide)) (all64L_of _ (by decide)) (by decide +kernel) (by decide) aw_cl3).mono ?_; rintro e w18 ⟨v18, rfl, hr, hE⟩; have HR18 := Lib.hid hr; have HE18 := Lib.hid (HEB.out.trans ((((Ext.alloc _ _).trans (Ext.alloc _ _)).trans (Ext.alloc _ _)).trans hE)); clear hr hE)
 go_wp2_with (go_at_call 16; refine (SameAll_refl [[1, -2]] _ _ _ (RLL.ext' HR18.out ((Ext.alloc _ _).trans (Ext.alloc _ _))) (lit1 w18 [1, -2] (by decide))).mono ?_; rintro e w19 ⟨rfl, hE⟩; have HE19 := Lib.hid (HE18.out.trans (((Ext.alloc _ _).trans (Ext.alloc _ _)).trans hE)); clear hE)
 go_wp2_with (go_at_call 12; refine (Reaches_any [[1, 2], [-2, 3]] (-1) _ _ (by unfold I64; omega) (all64L_of _ (by decide)) (lit2 w19 [1, 2] [-2, 3] (by decide) (by decide)) (fun _ => by decide)).mono ?_; rintro e w20 ⟨v20, rfl, hr, hE⟩; rw [aw_r1] at hr; have HR20 := Lib.hid hr.reads; have HE20 := Lib.hid (HE19.out.trans ((((Ext.alloc _ _).trans (Ext.alloc _ _)).trans (Ext.alloc _ _)).trans hE)); clear hr hE)
 go_wp2_with (go_at_call 11; refine (Same_refl [-1, 2, 3] _ _ _ (HR20.out.ext (Ext.alloc _ _)) (lit0 w20 [-1, 2, 3] (by decide))).mono ?_; rintro e w21 ⟨rfl, hE⟩; have HE21 := Lib.hid (HE20.out.trans ((Ext.alloc _ _).trans hE)); clear hE)
 go_ret
 exact ⟨rfl, HE21.out⟩
end Go.Proofs.YtjecjaihficcdaaGreat
