/- Walks and plain laws that this claim uses. -/
import Derived.Test.YtjecjaihficcdaaGreatTxC
import Derived.Test.YtjecjaihficcdaaGreatTxPEquivNextx1
import Derived.Test.YtjecjaihficcdaaGreatTxPEquivNextx2
import Derived.Test.YtjecjaihficcdaaGreatTxPEquivNextx3
import Derived.Test.YtjecjaihficcdaaGreatTxPEquivNextx4
import Derived.Test.YtjecjaihficcdaaGreatTxPEquivNextx5
import Derived.Test.YtjecjaihficcdaaGreatTxPEquivNextx6
import Derived.Test.YtjecjaihficcdaaGreatTxPEquivNextx7
import Derived.Test.YtjecjaihficcdaaGreatTxPEquivNextx8
import Derived.Test.YtjecjaihficcdaaGreatTxPEquivNextx9
import Derived.Test.YtjecjaihficcdaaGreatTxB
import Derived.Test.YtjecjaihficcdaaGreatTxA
import Derived.RangeFuncNested
import Derived.RangeFuncLeaves
import Derived.OwnWalkIn
import Derived.TacticsInMore
import Derived.LoopNIn
import Derived.LoopIn
import Derived.StillTailTactics
import Derived.ChangeKeysEq
import Derived.Maps.RangeRun
namespace Go.Proofs.YtjecjaihficcdaaGreat
open Go.RowKit
theorem RX.ext {w w' : World} {v : Value} {X : List (Int × List Int)} (h : RX w v X) (k : Ext w w') : RX w' v X := by
 obtain ⟨A, c, ons, h1, h2, h3, h4, h5⟩ := h
 refine ⟨A, c, ons, h1, h2, h3, h4, fun j hj hj' => ?_⟩
 obtain ⟨ad, h6, h7, h8, h9⟩ := h5 j hj hj'
 exact ⟨ad, h6, k.cell h7, k.cell h8, h9.ext k⟩
set_option maxHeartbeats 1000000 in
theorem deps1_fn (y v : Int) (on : Value) (ho : ∃ A n c, on = .slice A n c) (b : Nat) (w : World) (hb : w.cell? ⟨b, 0, none⟩ = some (.int .i64 v)) :
 Calls Tryz.prog 154 #[.agg #[.int .i64 y, on], .pointer (some ⟨b, 0, none⟩)] w fun e w' => e = .returned (.bool (decide (y = v))) ∧ Ext w w' := by
 obtain ⟨A, n, c, rfl⟩ := ho
 have hE := Ext.alloc w (.cells #[.int .i64 y, .slice A n c] 61)
 have hb' := hE.cell hb
 have HE := Lib.hid hE
 clear hE
 by_cases h : y = v
 · rw [decide_eq_true h]
   subst h
   go_enter Tryz.func154, Tryz.ntmps154
   go_wp2
   go_ret
   exact ⟨by simp, HE.out⟩
 · rw [decide_eq_false h]
   have h' : (y == v) = false := by simpa using h
   go_enter Tryz.func154, Tryz.ntmps154
   go_wp2
   go_ret
   exact ⟨by simp, HE.out⟩
theorem fv_deps1 : Fv Tryz.prog 154 := ⟨_, Tryz.func154, by kernel_rfl, by kernel_rfl⟩
def PostIx (X : List (Int × List Int)) (v : Int) (w : World) (e : Ending) (w' : World) : Prop :=
 ∃ r : Int, e = .returned (.int .i64 r) ∧ Ext w w' ∧ ((∃ (k : Nat) (h : k < X.length), r = (k : Int) ∧ X[k].1 = v ∧ ∀ j (h : j < k), (X[j]'(by omega)).1 ≠ v) ∨ (r = -1 ∧ ∀ j (h : j < X.length), X[j].1 ≠ v))
set_option maxHeartbeats 1000000 in
theorem indexX (X : List (Int × List Int)) (u : Value) (v : Int) (b : Nat) (w : World) (hx : RX w u X) (hb : w.cell? ⟨b, 0, none⟩ = some (.int .i64 v)) :
 Calls Tryz.prog 153 #[u, .func (.func 154) #[] #[.pointer (some ⟨b, 0, none⟩)]] w (PostIx X v w) := by
 obtain ⟨XA, xc, ons, rfl, x1, x2, x3, x4⟩ := hx
 have X4 := Lib.hid x4
 have HB := Lib.hid hb
 clear x4 hb
 go_enter Tryz.func153, Tryz.ntmps153
 go_wp2
 go_loopg [8] X.length (fun gn i wr => ∃ k : Nat, k ≤ X.length ∧ gn + k = X.length ∧ i = .int .i64 k ∧ Hid (Ext w wr) ∧ Hid (∀ j (h : j < X.length), j < k → X[j].1 ≠ v))
 case atStart => exact ⟨0, Nat.zero_le _, by omega, rfl, Lib.hid (Ext.refl _), Lib.hid (fun j _ h => absurd h (Nat.not_lt_zero j))⟩
 case round =>
  obtain ⟨k, hk, hgk, rfl, HE, HN⟩ := hrel
  obtain ⟨w2, rfl⟩ : ∃ w2 : World, w2 = wr := ⟨_, rfl⟩
  by_cases hlt : k < X.length
  · obtain ⟨ad, rfl, c1, c2, hr⟩ := X4.out k hlt (by omega)
    have c1' := HE.out.cell c1
    have c2' := HE.out.cell c2
    have hs : ∃ A n c, ons[k] = .slice A n c := by obtain ⟨A, c, h, -⟩ := hr; exact ⟨A, _, c, h⟩
    have HY : Hid (∀ w', Ext w2 w' → _) := Lib.hid (fun w' (h : Ext w2 w') => deps1_fn X[k].1 v ons[k] hs b w' ((HE.out.trans h).cell HB.out))
    obtain ⟨OA, on, oc, hoe⟩ := hs
    rw [hoe] at c2' HY
    obtain ⟨y, hy⟩ : ∃ y, y = X[k].1 := ⟨_, rfl⟩
    rw [← hy] at c1' HY
    have HYY := Lib.hid hy
    clear c1 c2 hr hoe hy
    by_cases hyv : y = v
    · rw [decide_eq_true hyv] at HY
      have HYV := Lib.hid hyv
      clear hyv
      go_wp2_with (refine wpList_callv (.tmp 11) #[.tmp 15] _ rfl rfl #[.pointer (some ⟨b, 0, none⟩)] rfl fv_deps1 (#[.agg #[.int .i64 y, .slice OA on oc]] ++ #[.pointer (some ⟨b, 0, none⟩)]) (by simp only [List.map_toArray, List.map_cons, List.map_nil]; rfl) ?_; refine (HY.out _ (Ext.refl _)).mono ?_; rintro e w' ⟨rfl, hE⟩; refine ⟨_, rfl, ?_⟩; have HE' := Lib.hid hE; clear hE)
      go_ret
      exact ⟨k, rfl, HE.out.trans HE'.out, .inl ⟨k, hlt, rfl, by rw [← HYY.out]; exact HYV.out, fun j hj => HN.out j (by omega) hj⟩⟩
    · rw [decide_eq_false hyv] at HY
      go_wp2_with (refine wpList_callv (.tmp 11) #[.tmp 15] _ rfl rfl #[.pointer (some ⟨b, 0, none⟩)] rfl fv_deps1 (#[.agg #[.int .i64 y, .slice OA on oc]] ++ #[.pointer (some ⟨b, 0, none⟩)]) (by simp only [List.map_toArray, List.map_cons, List.map_nil]; rfl) ?_; refine (HY.out _ (Ext.refl _)).mono ?_; rintro e w' ⟨rfl, hE⟩; refine ⟨_, rfl, ?_⟩; have HE' := Lib.hid hE; clear hE)
      have HN2 : Hid (∀ j (h : j < X.length), j < k + 1 → X[j].1 ≠ v) := Lib.hid (fun j h hj => by
       rcases Nat.lt_or_ge j k with h1 | h1
       · exact HN.out j h h1
       · obtain rfl : j = k := by omega
         rw [← HYY.out]; exact hyv)
      go_roundg (X.length - (k + 1))
      case measure => omega
      case rel => exact ⟨k + 1, by omega, by omega, by go_num, Lib.hid (HE.out.trans HE'.out), HN2⟩
  · obtain rfl : k = X.length := by omega
    go_wp2
    go_ret
    exact ⟨-1, rfl, HE.out, .inr ⟨rfl, fun j hj => HN.out j hj hj⟩⟩
def DepsV (d : DqV) (v : Int) : List Int × Bool := ((d.deps v).getD [], (d.deps v).isSome)
def PostDeps (w : World) (r : List Int × Bool) (e : Ending) (w' : World) : Prop := ∃ u, e = .returned (.tuple #[u, .bool r.2]) ∧ RI w' u r.1 ∧ Ext w w'
set_option maxHeartbeats 1000000 in
theorem Deps_any (d : DqV) (vu vx vc : Value) (v : Int) (w : World) (hu : ∃ A n c, vu = .slice A n c) (hc : ∃ A n c, vc = .slice A n c) (hx : RX w vx d.exist) (hl : ∀ x ∈ d.exist, x.2.length ≤ 1000000000) :
 Calls Tryz.prog 108 #[.agg #[vu, vx, vc], .int .i64 v] w (PostDeps w (DepsV d v)) := by
 obtain ⟨UA, un, uc, rfl⟩ := hu
 obtain ⟨CA, cn, cc, rfl⟩ := hc
 have HX := Lib.hid hx
 obtain ⟨XA, xc, ons, rfl, x1, x2, x3, x4⟩ := hx
 have X4 := Lib.hid x4
 clear x4
 have e1 := Ext.alloc w (.cells #[.slice UA un uc, .slice XA d.exist.length xc, .slice CA cn cc] 27)
 have e2 := Ext.alloc (w.alloc (.cells #[.slice UA un uc, .slice XA d.exist.length xc, .slice CA cn cc] 27)) (.cells #[.int .i64 v] 3)
 have HI := Lib.hid (indexX d.exist _ v (w.heap.size + 1) _ ((RX.ext HX.out (e1.trans e2))) (by have := (Var1.new (w.alloc (.cells #[.slice UA un uc, .slice XA d.exist.length xc, .slice CA cn cc] 27)) 3 (.int .i64 v)).cell; rw [World.size_alloc] at this; exact this))
 have HE := Lib.hid (e1.trans e2)
 clear e1 e2
 cases hf : d.exist.find? fun x => decide (x.1 = v) with
 | none =>
   have hn : ∀ j (h : j < d.exist.length), d.exist[j].1 ≠ v := fun j h e => by
    have := List.find?_eq_none.1 hf _ (List.getElem_mem h)
    simp [e] at this
   have hR : DepsV d v = ([], false) := by unfold DepsV DqV.deps; rw [hf]; rfl
   rw [hR]
   have HI2 := Lib.hid (HI.out.mono (R' := fun e w' => e = .returned (.int .i64 (-1)) ∧ Ext _ w') (by
    rintro e w' ⟨r, rfl, h, ⟨k, hk, _, h2, _⟩ | ⟨rfl, _⟩⟩
    · exact absurd h2 (hn k hk)
    · exact ⟨rfl, h⟩))
   clear hR hn hf HI
   go_enter Tryz.func108, Tryz.ntmps108
   go_wp2_with (go_at_call 153; refine HI2.out.mono ?_; rintro e w2 ⟨rfl, hE2⟩; have HE2 := Lib.hid hE2; clear hE2)
   go_ret2
   exact ⟨_, rfl, RI.none _, HE.out.trans HE2.out⟩
 | some x =>
   obtain ⟨hxv, k, hk, hkx, hfirst⟩ := List.find?_eq_some_iff_getElem.1 hf
   have hkv : d.exist[k].1 = v := by rw [hkx]; simpa using hxv
   have hfi : ∀ j (h : j < k), (d.exist[j]'(by omega)).1 ≠ v := fun j hj => by simpa using hfirst j hj
   have hR : DepsV d v = (d.exist[k].2, true) := by unfold DepsV DqV.deps; rw [hf, hkx]; rfl
   rw [hR]
   have HI2 := Lib.hid (HI.out.mono (R' := fun e w' => e = .returned (.int .i64 (k : Int)) ∧ Ext _ w') (by
    rintro e w' ⟨r, rfl, h, ⟨k', hk', rfl, h2, h3⟩ | ⟨_, h2⟩⟩
    · obtain rfl : k' = k := by
       rcases Nat.lt_trichotomy k' k with h4 | h4 | h4
       · exact absurd h2 (hfi k' h4)
       · exact h4
       · exact absurd hkv (h3 k h4)
      exact ⟨rfl, h⟩
    · exact absurd hkv (h2 k hk)))
   obtain ⟨ad, rfl, c1, c2, hr⟩ := X4.out k hk (by omega)
   have hb : d.exist[k].2.length * 8 ≤ 140737488355328 := by have := hl _ (List.getElem_mem hk); omega
   obtain ⟨xs, hxs⟩ : ∃ xs, xs = d.exist[k].2 := ⟨_, rfl⟩
   rw [← hxs] at hb hr ⊢
   obtain ⟨V, hV⟩ : ∃ V, V = ons[k] := ⟨_, rfl⟩
   rw [← hV] at c2 hr
   have HRI := Lib.hid hr
   have C2 := Lib.hid c2
   have HB := Lib.hid hb
   have b0 := Blk.new w 27 [.slice UA un uc, .slice (some ad) d.exist.length xc, .slice CA cn cc]
   have b1 := Lib.hid (((Ext.alloc (w.alloc (.cells #[.slice UA un uc, .slice (some ad) d.exist.length xc, .slice CA cn cc] 27)) (.cells #[.int .i64 v] 3)).chg (fun _ => False)).blk b0 id)
   clear hR hfi hkv hfirst hxv hkx hf HI c1 c2 hr hV hxs hb b0
   go_enter Tryz.func108, Tryz.ntmps108
   go_wp2_with (first
    | (go_at_call 153; refine HI2.out.mono ?_; rintro e w2 ⟨rfl, hE2⟩; have HE2 := Lib.hid hE2; have HE3 := Lib.hid (HE.out.trans hE2)
       have cb1 : w2.cell? ⟨w.heap.size, 1, none⟩ = some (.slice (some ad) d.exist.length xc) := ((hE2.chg (fun _ => False)).blk b1.out id).cell 1
       have cc2 := HE3.out.cell C2.out
       clear hE2)
    | (go_at_call 59; refine (cloneI_any V xs _ (HRI.out.ext HE3.out) HB.out).mono ?_; rintro e w3 ⟨v', rfl, hown, hE⟩; have HE4 := Lib.hid hE; have HOW := Lib.hid hown; clear hE hown))
   go_ret2
   exact ⟨_, rfl, HOW.out.reads, HE3.out.trans HE4.out⟩
theorem slice_of {w : World} {v : Value} {xs : List Int} (h : RI w v xs) : ∃ A n c, v = .slice A n c := by obtain ⟨A, c, h, -⟩ := h; exact ⟨A, _, c, h⟩
structure RD (w : World) (vu vx vc : Value) (d : DqV) : Prop where
 u : RI w vu d.univ
 x : RX w vx d.exist
 c : RLL w vc d.clauses
theorem RD.ext {w w' : World} {vu vx vc : Value} {d : DqV} (h : RD w vu vx vc d) (k : Ext w w') : RD w' vu vx vc d := ⟨h.u.ext k, h.x.ext k, RLL.ext' h.c k⟩
structure DOk (d : DqV) : Prop where
 u64 : All64 d.univ
 x64 : ∀ x ∈ d.exist, I64 x.1 ∧ All64 x.2
 c64 : All64L d.clauses
 ul : d.univ.length ≤ 1000000
 xl : d.exist.length ≤ 1000000
 ol : ∀ x ∈ d.exist, x.2.length ≤ 1000000
 cl : d.clauses.length ≤ 1000000
 tot : total d.clauses ≤ 1000000
theorem DOk.dep {d : DqV} (h : DOk d) (v : Int) : All64 (DepsV d v).1 ∧ (DepsV d v).1.length ≤ 1000000 := by
 unfold DepsV
 cases hd : d.deps v with
 | none => exact ⟨fun x hx => by simp at hx, by simp⟩
 | some on => exact ⟨(h.x64 _ (deps_mem hd)).2, h.ol _ (deps_mem hd)⟩
set_option maxHeartbeats 2000000 in
theorem allowed_any (d : DqV) (vu vx vc : Value) (x y : Int) (w : World) (hd : RD w vu vx vc d) (ok : DOk d) (hy : I64 y) :
 Calls Tryz.prog 56 #[.agg #[vu, vx, vc], .int .i64 x, .int .i64 y] w fun e w' => e = .returned (.bool (allowP d x y)) ∧ Ext w w' := by
 have HD := Lib.hid hd
 have OK := Lib.hid ok
 have hol : ∀ x ∈ d.exist, x.2.length ≤ 1000000000 := fun x hx => by have := ok.ol x hx; omega
 obtain ⟨⟨UA, uc, hue, -⟩, ⟨XA, xc, ons, hxe, -⟩, ⟨CA, cc, us, hce, -⟩⟩ := hd
 have HDP : Hid (∀ v w', Ext w w' → Calls Tryz.prog 108 #[.agg #[vu, vx, vc], .int .i64 v] w' (PostDeps w' (DepsV d v))) := Lib.hid (fun v w' h => Deps_any d vu vx vc v w' (slice_of (HD.out.u.ext h)) ⟨CA, _, cc, hce⟩ (HD.out.x.ext h) hol)
 subst hue hxe hce
 have e1 := Ext.alloc w (.cells #[.slice UA d.univ.length uc, .slice XA d.exist.length xc, .slice CA us.length cc] 27)
 have HE := Lib.hid e1
 have HB := Lib.hid (Blk.new w 27 [.slice UA d.univ.length uc, .slice XA d.exist.length xc, .slice CA us.length cc])
 have HV := Lib.hid (fun w' => var_any y hy w')
 obtain ⟨Rz, hRz⟩ : ∃ Rz, Rz = allowP d x y := ⟨_, rfl⟩
 have HR := Lib.hid hRz
 rw [← hRz]
 clear hRz e1 ok hol
 obtain ⟨on, hon⟩ : ∃ on, on = (DepsV d x).1 := ⟨_, rfl⟩
 obtain ⟨v, hv⟩ : ∃ v, v = varOf y := ⟨_, rfl⟩
 have D1 := Lib.hid (HDP.out x _ HE.out)
 have HON := Lib.hid hon
 have HVE := Lib.hid hv
 rw [← hv] at HV
 unfold PostDeps at D1
 rw [← hon] at D1
 clear hon hv
 cases his : (DepsV d x).2
 · rw [his] at D1
   have HF : Hid (Rz = false) := Lib.hid (by rw [HR.out]; unfold allowP; unfold DepsV at his; cases hq : d.deps x with | none => rfl | some _ => rw [hq] at his; simp at his)
   clear his
   go_enter Tryz.func56, Tryz.ntmps56
   go_wp2_with (first
    | (go_at_call 108; refine D1.out.mono ?_; rintro e w2 ⟨u, rfl, hr, hE2⟩; have HE2 := Lib.hid hE2; clear hE2)
    | (go_at_call 36; refine (HV.out _).mono ?_; rintro e w' ⟨rfl, rfl⟩))
   go_ret
   exact ⟨(congrArg (fun b : Bool => Ending.returned (Value.bool b)) HF.out).symm, HE.out.trans HE2.out⟩
 · rw [his] at D1
   have hdx : d.deps x = some on := by rw [HON.out]; unfold DepsV at his ⊢; cases hq : d.deps x with | none => rw [hq] at his; simp at his | some _ => rfl
   have hallow : Rz = (!decide (v = x) && (match d.deps v with | some mine => subB mine on | none => decide (v ∈ on))) := by rw [HR.out]; unfold allowP; rw [hdx, HVE.out]; (try rfl)
   clear his
   by_cases hvx : v = x
   · have HF : Hid (Rz = false) := Lib.hid (by rw [hallow, decide_eq_true hvx]; rfl)
     have hb : (v == x) = true := by simpa using hvx
     clear hallow hdx
     have HVX := Lib.hid hvx
     clear hvx
     go_enter Tryz.func56, Tryz.ntmps56
     go_wp2_with (first
      | (go_at_call 108; refine D1.out.mono ?_; rintro e w2 ⟨u, rfl, hr, hE2⟩; have HE2 := Lib.hid hE2; clear hE2)
      | (go_at_call 36; refine (HV.out _).mono ?_; rintro e w' ⟨rfl, rfl⟩))
     go_ret
     exact ⟨(congrArg (fun b : Bool => Ending.returned (Value.bool b)) HF.out).symm, HE.out.trans HE2.out⟩
   · rw [decide_eq_false hvx, Bool.not_false, Bool.true_and] at hallow
     have hb : (v == x) = false := by simpa using hvx
     have h64 := Lib.hid (OK.out.dep x)
     have k64 := Lib.hid (OK.out.dep v)
     cases hm : d.deps v with
     | none =>
       have HDV : Hid (DepsV d v = ([], false)) := Lib.hid (by unfold DepsV; rw [hm]; rfl)
       rw [hm] at hallow
       have HAL := Lib.hid hallow
       clear hallow hm hdx hvx
       go_enter Tryz.func56, Tryz.ntmps56
       go_wp2_with (first
        | (go_at_call_of 108 (Value.int .i64 x); refine D1.out.mono ?_; rintro e w2 ⟨u, rfl, hr, hE2⟩; have HE2 := Lib.hid hE2; have HRO := Lib.hid hr; have hbx := ((hE2.chg (fun _ => False)).blk HB.out id); have b20 := hbx.cell 0; have b21 := hbx.cell 1; have b22 := hbx.cell 2; clear hE2 hr)
        | (go_at_call 36; refine (HV.out _).mono ?_; rintro e w' ⟨rfl, rfl⟩)
        | (go_at_call_of 108 (Value.int .i64 v); refine (HDP.out v _ (HE.out.trans HE2.out)).mono ?_; rintro e w3 ⟨u3, rfl, hr, hE3⟩; rw [HDV.out]; have HE3 := Lib.hid hE3; clear hE3 hr)
        | (go_at_call 86; refine (Contains_any on v u _ (HRO.out.ext HE3.out)).mono ?_; rintro e w4 ⟨rfl, hE4⟩; rw [← HAL.out]; have HE4 := Lib.hid hE4; clear hE4))
       go_ret
       exact ⟨rfl, ((HE.out.trans HE2.out).trans HE3.out).trans HE4.out⟩
     | some mine =>
       have HDV : Hid (DepsV d v = (mine, true)) := Lib.hid (by unfold DepsV; rw [hm]; rfl)
       have m64 : All64 mine := by have := k64.out.1; rw [HDV.out] at this; exact this
       have o64 : All64 on := by rw [HON.out]; exact h64.out.1
       have M64 := Lib.hid m64
       have O64 := Lib.hid o64
       rw [hm] at hallow
       have HAL := Lib.hid hallow
       clear hallow hm hdx hvx m64 o64
       go_enter Tryz.func56, Tryz.ntmps56
       go_wp2_with (first
        | (go_at_call_of 108 (Value.int .i64 x); refine D1.out.mono ?_; rintro e w2 ⟨u, rfl, hr, hE2⟩; have HE2 := Lib.hid hE2; have HRO := Lib.hid hr; have hbx := ((hE2.chg (fun _ => False)).blk HB.out id); have b20 := hbx.cell 0; have b21 := hbx.cell 1; have b22 := hbx.cell 2; clear hE2 hr)
        | (go_at_call 36; refine (HV.out _).mono ?_; rintro e w' ⟨rfl, rfl⟩)
        | (go_at_call_of 108 (Value.int .i64 v); refine (HDP.out v _ (HE.out.trans HE2.out)).mono ?_; rintro e w3 ⟨u3, rfl, hr, hE3⟩; rw [HDV.out] at hr ⊢; have HE3 := Lib.hid hE3; have HR3 := Lib.hid hr; clear hE3 hr)
        | (go_at_call 109; refine (Sub_any mine on u3 u _ M64.out O64.out HR3.out (HRO.out.ext HE3.out)).mono ?_; rintro e w4 ⟨rfl, hE4⟩; rw [← show Rz = subB mine on from HAL.out]; have HE4 := Lib.hid hE4; clear hE4))
       go_ret
       exact ⟨rfl, ((HE.out.trans HE2.out).trans HE3.out).trans HE4.out⟩
end Go.Proofs.YtjecjaihficcdaaGreat
namespace Go.Proofs.YtjecjaihficcdaaGreat
open Go.RowKit
def sumX (X : List (Int × List Int)) (k : Nat) : Nat := ((X.take k).map fun x => 1 + x.2.length).sum
def sizeD (d : DqV) : Nat := d.univ.length + total d.clauses + sumX d.exist d.exist.length
def largeD (d : DqV) : Bool := decide (60 < d.clauses.length) || decide (300 < sizeD d)
theorem sumX_succ (X : List (Int × List Int)) (k : Nat) (hk : k < X.length) : sumX X (k + 1) = sumX X k + (1 + X[k].2.length) := by
 unfold sumX
 rw [List.take_succ_eq_append_getElem hk, List.map_append, List.sum_append]
 simp
theorem lens_succ' (f : List (List Int)) (k : Nat) (hk : k < f.length) : lens f (k + 1) = lens f k + f[k].length := by
 unfold lens
 rw [List.take_succ_eq_append_getElem hk, List.map_append, List.sum_append]
 simp
theorem wrap64_add (a b : Int) : wrap64 (wrap64 a + b) = wrap64 (a + b) := by unfold wrap64; omega
theorem wrap64_add' (a b : Int) : wrap64 (wrap64 a + wrap64 b) = wrap64 (a + b) := by unfold wrap64; omega
theorem wrap64_in {a : Int} (h : -9223372036854775808 ≤ a ∧ a ≤ 9223372036854775807) : wrap64 a = a := by unfold wrap64; omega
set_option maxHeartbeats 4000000 in
theorem large_any (d : DqV) (vu vx vc : Value) (w : World) (hd : RD w vu vx vc d) (ht : d.clauses.length ≤ 60 → sizeD d ≤ 9223372036854775807) :
 Calls Tryz.prog 9 #[.agg #[vu, vx, vc]] w fun e w' => e = .returned (.bool (largeD d)) ∧ Ext w w' := by
 have HT := Lib.hid ht
 have HD := Lib.hid hd
 obtain ⟨⟨UA, uc, hue, hu1, hu2, -⟩, ⟨XA, xc, ons, hxe, hx1, hx2, hx3, hx4⟩, ⟨CA, cc, us, hce, hc1, hc2, hc3, hc4, hc5⟩⟩ := hd
 subst hue hxe hce
 have e1 := Ext.alloc w (.cells #[.slice UA d.univ.length uc, .slice XA d.exist.length xc, .slice CA us.length cc] 27)
 have B1 := Blk.new w 27 [.slice UA d.univ.length uc, .slice XA d.exist.length xc, .slice CA us.length cc]
 have HB := Lib.hid B1
 have HE := Lib.hid e1
 have HC3 := Lib.hid hc3
 have HC4 := Lib.hid hc4
 have HC5 := Lib.hid hc5
 have HX4 := Lib.hid hx4
 have HX3 := Lib.hid hx3
 have h0 : Hid (wrap64 (d.univ.length : Int) = (d.univ.length : Int)) := Lib.hid (wrap64_in (by omega))
 have cb0 := B1.cell 0
 have cb2 := B1.cell 2
 simp only [List.getElem?_cons_zero, List.getElem?_cons_succ] at cb0 cb2
 clear B1 e1 hc3 hc4 hc5 hx4 ht hx3
 generalize hb : w.heap.size = b at HB cb0 cb2
 generalize hW : w.alloc _ = w1 at HB HE cb0 cb2
 obtain ⟨n, hn⟩ : ∃ n, n = us.length := ⟨_, rfl⟩
 have HN := Lib.hid hn
 go_enter Tryz.func9, Tryz.ntmps9
 go_wp2
 clear cb0 cb2
 have HS0 : Hid (Value.int .i64 (d.univ.length : Int) = .int .i64 (wrap64 ((d.univ.length + lens d.clauses 0 : Nat) : Int))) := Lib.hid (by rw [show d.univ.length + lens d.clauses 0 = d.univ.length by simp [lens], h0.out])
 go_loopg [3, 14] n (fun gn s i wr => ∃ k : Nat, k ≤ n ∧ gn + k = n ∧ i = .int .i64 (k : Int) ∧ s = .int .i64 (wrap64 ((d.univ.length + lens d.clauses k : Nat) : Int)) ∧ Hid (Ext w1 wr))
 case atStart => exact ⟨0, Nat.zero_le _, by omega, rfl, HS0.out, Lib.hid (Ext.refl _)⟩
 case round =>
  obtain ⟨k, hk, hgk, rfl, rfl, HE2⟩ := hrel
  obtain ⟨w2, rfl⟩ : ∃ w2 : World, w2 = wr := ⟨_, rfl⟩
  by_cases hlt : k < n
  · have hku : k < us.length := by rw [← HN.out]; exact hlt
    have hkc : k < d.clauses.length := by rw [← HC4.out]; exact hku
    obtain ⟨ad, rfl, hcell⟩ := (HC3.out.ext (HE.out.trans HE2.out)) k hku
    obtain ⟨Ak, ck, hve, hv1, hv2, -⟩ := HC5.out k hku hkc
    have HL := Lib.hid (lens_succ' d.clauses k hkc)
    obtain ⟨L, hL⟩ : ∃ L, L = d.clauses[k].length := ⟨_, rfl⟩
    rw [← hL] at hve hv1 hv2 HL
    rw [hve] at hcell
    obtain ⟨S, hS⟩ : ∃ S : Int, S = wrap64 ((d.univ.length + lens d.clauses k : Nat) : Int) := ⟨_, rfl⟩
    have HSS := Lib.hid hS
    rw [← hS]
    clear hve hS hL
    go_wp2
    go_roundg (n - (k + 1))
    case measure => omega
    case rel => exact ⟨k + 1, by omega, by omega, by go_num, by rw [HSS.out, wrap64_add, HL.out]; congr 2; omega, HE2⟩
  · obtain rfl : k = n := by omega
    have b2 := (HE2.out.chg (fun _ => False)).blk HB.out id
    have cb1 := b2.cell 1
    simp only [List.getElem?_cons_zero, List.getElem?_cons_succ] at cb1
    have HTOT : Hid (lens d.clauses k = total d.clauses) := Lib.hid (by unfold total; rw [HN.out, HC4.out])
    obtain ⟨S, hS⟩ : ∃ S : Int, S = wrap64 ((d.univ.length + lens d.clauses k : Nat) : Int) := ⟨_, rfl⟩
    have HS1 : Hid (Value.int .i64 S = .int .i64 (wrap64 ((d.univ.length + total d.clauses + sumX d.exist 0 : Nat) : Int))) := Lib.hid (by rw [hS, HTOT.out]; simp [sumX])
    rw [← hS]
    clear b2 hS
    go_wp2
    clear cb1
    go_loopg [3, 26] d.exist.length (fun gn s i wr => ∃ k : Nat, k ≤ d.exist.length ∧ gn + k = d.exist.length ∧ i = .int .i64 (k : Int) ∧ s = .int .i64 (wrap64 ((d.univ.length + total d.clauses + sumX d.exist k : Nat) : Int)) ∧ Hid (Ext w1 wr))
    case atStart => exact ⟨0, Nat.zero_le _, by omega, rfl, HS1.out, HE2⟩
    case round =>
     obtain ⟨k, hk, hgk, rfl, rfl, HE3⟩ := hrel
     obtain ⟨w3, rfl⟩ : ∃ w3 : World, w3 = wr := ⟨_, rfl⟩
     by_cases hlt : k < d.exist.length
     · obtain ⟨ad, rfl, c1, c2, hr⟩ := HX4.out k hlt (by rw [HX3.out]; exact hlt)
       have c1' := (HE.out.trans HE3.out).cell c1
       have c2' := (HE.out.trans HE3.out).cell c2
       have HL := Lib.hid (sumX_succ d.exist k hlt)
       obtain ⟨V, hV⟩ : ∃ V, V = ons[k]'(by rw [HX3.out]; exact hlt) := ⟨_, rfl⟩
       obtain ⟨x, hx⟩ : ∃ x, x = d.exist[k] := ⟨_, rfl⟩
       rw [← hx] at c1' hr HL
       rw [← hV] at hr c2'
       clear c1 c2 hx hV
       obtain ⟨OA, oc, rfl, o1, o2, -⟩ := hr
       obtain ⟨y, ys⟩ := x
       dsimp only at c1' c2' o1 o2 HL
       obtain ⟨S, hS⟩ : ∃ S : Int, S = wrap64 ((d.univ.length + total d.clauses + sumX d.exist k : Nat) : Int) := ⟨_, rfl⟩
       have HSS := Lib.hid hS
       rw [← hS]
       clear hS
       go_wp2
       go_roundg (d.exist.length - (k + 1))
       case measure => omega
       case rel => exact ⟨k + 1, by omega, by omega, by go_num, (by rw [HSS.out, HL.out]; (first | rw [wrap64_add'] | rw [wrap64_add]); congr 2; omega), Lib.hid (HE3.out.trans (Ext.alloc _ _))⟩
     · obtain rfl : k = d.exist.length := by omega
       have b3 := (HE3.out.chg (fun _ => False)).blk HB.out id
       have cb2 := b3.cell 2
       simp only [List.getElem?_cons_zero, List.getElem?_cons_succ] at cb2
       clear b3
       have HW : Hid (Ext w w3) := Lib.hid (HE.out.trans HE3.out)
       obtain ⟨S, hS⟩ : ∃ S : Int, S = wrap64 ((d.univ.length + total d.clauses + sumX d.exist d.exist.length : Nat) : Int) := ⟨_, rfl⟩
       have HSS := Lib.hid hS
       rw [← hS]
       clear hS
       by_cases h60 : (60 : Int) < (us.length : Int)
       · have HR : Hid (largeD d = true) := Lib.hid (by unfold largeD; rw [decide_eq_true (by rw [← HC4.out]; omega)]; rfl)
         go_wp2
         go_ret
         exact ⟨(congrArg (fun b : Bool => Ending.returned (Value.bool b)) HR.out).symm, HW.out⟩
       · have hsz := HT.out (by rw [← HC4.out]; omega)
         have HSE : Hid (S = (sizeD d : Int)) := Lib.hid (by rw [HSS.out]; exact wrap64_in (by unfold sizeD at hsz; omega))
         have HR : Hid (largeD d = decide ((300 : Int) < S)) := Lib.hid (by
          unfold largeD
          rw [decide_eq_false (by rw [← HC4.out]; omega), Bool.false_or, HSE.out, decide_eq_decide]
          omega)
         have h60b : decide ((60 : Int) < (us.length : Int)) = false := decide_eq_false h60
         clear hsz
         go_wp2
         go_ret
         exact ⟨(congrArg (fun b : Bool => Ending.returned (Value.bool b)) HR.out).symm, HW.out⟩
theorem sumX_get {X : List (Int × List Int)} {x : Int × List Int} (h : x ∈ X) : 1 + x.2.length ≤ sumX X X.length := by
 unfold sumX
 rw [List.take_length]
 induction X with
 | nil => cases h
 | cons c f ih =>
   rw [List.map_cons, List.sum_cons]
   rcases List.mem_cons.1 h with rfl | h
   · omega
   · have := ih h; omega
theorem sumX_len (X : List (Int × List Int)) : X.length ≤ sumX X X.length := by
 unfold sumX
 rw [List.take_length]
 induction X with
 | nil => simp
 | cons c f ih => rw [List.map_cons, List.sum_cons, List.length_cons]; omega
structure D64 (d : DqV) : Prop where
 u64 : All64 d.univ
 x64 : ∀ x ∈ d.exist, I64 x.1 ∧ All64 x.2
 c64 : All64L d.clauses
theorem D64.ok {d : DqV} (h : D64 d) (hl : largeD d = false) : DOk d := by
 unfold largeD at hl
 rw [Bool.or_eq_false_iff, decide_eq_false_iff_not, decide_eq_false_iff_not] at hl
 have h1 := hl.1
 have h2 := hl.2
 unfold sizeD at h2
 have h3 := sumX_len d.exist
 exact ⟨h.u64, h.x64, h.c64, by omega, by omega, fun x hx => by have := sumX_get hx; omega, by omega, by omega⟩
end Go.Proofs.YtjecjaihficcdaaGreat
namespace Go.Proofs.YtjecjaihficcdaaGreat
theorem Asc.filter {xs : List Int} (h : Asc xs) (c : Int → Bool) : Asc (xs.filter c) := ⟨h.1.filter _, fun x hx => h.2 x (List.mem_filter.1 hx).1⟩
theorem Asc.nodup {xs : List Int} (h : Asc xs) : xs.Nodup := by
 refine h.1.imp fun {a b} hab e => ?_
 rw [e] at hab; omega
end Go.Proofs.YtjecjaihficcdaaGreat
namespace Go.Proofs.YtjecjaihficcdaaGreat
def ordB (x y : Int) : Int := if blt x y then -1 else if blt y x then 1 else 0
def cmpL : List Int → List Int → Int
 | [], [] => 0
 | [], _ :: _ => -1
 | _ :: _, [] => 1
 | x :: a, y :: b => if ordB x y = 0 then cmpL a b else ordB x y
def llt (a b : List Int) : Prop := cmpL a b < 0
instance (a b : List Int) : Decidable (llt a b) := by unfold llt; infer_instance
end Go.Proofs.YtjecjaihficcdaaGreat
namespace Go.Proofs.YtjecjaihficcdaaGreat.PEquivNext
open Go.RowKit Go.Proofs.YtjecjaihficcdaaGreatW.PrintWords
def dqv (U : List Int) (X : List S61) (C : List (List Int)) : DqV := ⟨U, X.map fun s => (s.f0, s.f1), C⟩
theorem Has3_l0 (xs : List Int) (y : Int) (hb : xs.length ≤ 9223372036854775807) : ∀ n i, i + n = xs.length → Evn (fun k => skolemref03_Has.l0 k xs y (i : Int)) (decide (y ∈ xs.drop i)) := by
 intro n
 induction n with
 | zero =>
   intro i hi
   refine Evn.succ (g' := fun _ => some false) (fun k => ?_) ((Evn.ret _).to ?_)
   · rw [skolemref03_Has.l0, if_neg (by omega)]
   · rw [List.drop_eq_nil_of_le (by omega)]; simp
 | succ n ih =>
   intro i hi
   have hil : i < xs.length := by omega
   refine Evn.succ (fun k => by rw [skolemref03_Has.l0]) ?_
   refine Evn.pos (by omega) (Evn.pos (by omega) ?_)
   rw [rd_nat xs i hil, wrap64_nat (by omega), List.drop_eq_getElem_cons hil]
   by_cases h : xs[i] = y
   · exact Evn.pos h ((Evn.ret _).to (by symm; rw [decide_eq_true_eq]; exact List.mem_cons.2 (.inl h.symm)))
   · exact Evn.neg h ((ih (i + 1) (by omega)).to (by rw [decide_eq_decide, List.mem_cons]; exact ⟨.inr, fun h' => h'.elim (fun e => absurd e.symm h) id⟩))
theorem Has3_f (xs : List Int) (y : Int) (hb : xs.length ≤ 9223372036854775807) : Evn (fun k => skolemref03_Has.f k xs y) (decide (y ∈ xs)) := by
 unfold skolemref03_Has.f
 exact (Has3_l0 xs y hb xs.length 0 (by omega)).to (by simp)
theorem Part_l0 (xs ys : List Int) (hb : xs.length ≤ 9223372036854775807) (kb : ys.length ≤ 9223372036854775807) : ∀ n i, i + n = xs.length → Evn (fun k => skolemref03_Part.l0 k xs ys (i : Int)) ((xs.drop i).all fun v => decide (v ∈ ys)) := by
 intro n
 induction n with
 | zero =>
   intro i hi
   exact Evn.succ (g' := fun _ => some true) (fun k => by rw [skolemref03_Part.l0, if_neg (by omega)]) ((Evn.ret _).to (by rw [List.drop_eq_nil_of_le (by omega)]; rfl))
 | succ n ih =>
   intro i hi
   have hil : i < xs.length := by omega
   refine Evn.succ (fun k => by rw [skolemref03_Part.l0]) (Evn.pos (by omega) (Evn.pos (by omega) ?_))
   rw [rd_nat xs i hil, wrap64_nat (by omega), List.drop_eq_getElem_cons hil, List.all_cons]
   refine Evn.bind (Has3_f ys _ kb) ?_
   by_cases h : xs[i] ∈ ys
   · exact Evn.pos (decide_eq_true h) ((ih (i + 1) (by omega)).to (by rw [decide_eq_true h, Bool.true_and]))
   · exact Evn.neg (by simpa using h) ((Evn.ret _).to (by rw [decide_eq_false h, Bool.false_and]))
theorem Part_f (xs ys : List Int) (hb : xs.length ≤ 9223372036854775807) (kb : ys.length ≤ 9223372036854775807) : Evn (fun k => skolemref03_Part.f k xs ys) (xs.all fun v => decide (v ∈ ys)) := by
 unfold skolemref03_Part.f
 exact (Part_l0 xs ys hb kb xs.length 0 (by omega)).to (by simp)
theorem Rises_l0 (xs : List Int) (hb : xs.length ≤ 9223372036854775807) : ∀ n i, i + n = xs.length → (i = 0 ∨ 0 ≤ xs.getD (i - 1) 0) → Evn (fun k => skolemref03_Rises.l0 k xs (i : Int)) (risesFrom (if i = 0 then 0 else xs.getD (i - 1) 0) (xs.drop i)) := by
 intro n
 induction n with
 | zero =>
   intro i hi _
   exact Evn.succ (g' := fun _ => some true) (fun k => by rw [skolemref03_Rises.l0, if_neg (by omega)]) ((Evn.ret _).to (by rw [List.drop_eq_nil_of_le (by omega)]; rfl))
 | succ n ih =>
   intro i hi hp
   have hil : i < xs.length := by omega
   refine Evn.succ (fun k => by rw [skolemref03_Rises.l0]) (Evn.pos (by omega) (Evn.pos (by omega) ?_))
   rw [rd_nat xs i hil, wrap64_nat (by omega), List.drop_eq_getElem_cons hil, risesFrom]
   have hnext := ih (i + 1) (by omega)
   rw [show i + 1 - 1 = i by omega, show xs.getD i 0 = xs[i] by simp [hil], if_neg (by omega)] at hnext
   have hp0 : 0 ≤ (if i = 0 then (0 : Int) else xs.getD (i - 1) 0) := by
    split
    · omega
    · exact hp.resolve_left (by assumption)
   by_cases c1 : xs[i] < 1
   · exact Evn.pos c1 ((Evn.ret _).to (by rw [decide_eq_false (by omega)]; rfl))
   · refine Evn.neg c1 ?_
     by_cases c2 : xs[i] > 65536
     · exact Evn.pos c2 ((Evn.ret _).to (by rw [decide_eq_false (show ¬ xs[i] ≤ 65536 by omega), Bool.and_false]; rfl))
     · refine Evn.neg c2 ?_
       rw [decide_eq_true (show xs[i] ≤ 65536 by omega), Bool.and_true]
       by_cases h0 : i = 0
       · subst h0
         refine Evn.neg (by omega) ((hnext (.inr (by omega))).to ?_)
         rw [if_pos rfl, decide_eq_true (by omega), Bool.true_and]
       · have hi1 : i - 1 < xs.length := by omega
         have e1 : wrap64 ((i : Int) - 1) = ((i - 1 : Nat) : Int) := by rw [wrap64_id (by omega) (by omega)]; omega
         refine Evn.pos (by omega) ?_
         rw [e1, rd_nat xs (i - 1) hi1, if_neg h0, show xs.getD (i - 1) 0 = xs[i - 1] by simp [hi1]]
         refine Evn.pos (by omega) (Evn.pos (by omega) ?_)
         by_cases c3 : xs[i - 1] ≥ xs[i]
         · exact Evn.pos c3 ((Evn.ret _).to (by rw [decide_eq_false (by omega), Bool.false_and]))
         · exact Evn.neg c3 ((hnext (.inr (by omega))).to (by rw [decide_eq_true (by omega), Bool.true_and]))
theorem Rises_f (xs : List Int) (hb : xs.length ≤ 9223372036854775807) : Evn (fun k => skolemref03_Rises.f k xs) (risesB xs) := by
 unfold skolemref03_Rises.f risesB
 exact (Rises_l0 xs hb xs.length 0 (by omega) (.inl rfl)).to (by rw [if_pos rfl]; rfl)
def singleP (l : List Int) (i : Nat) : Bool := decide (1 ≤ l.getD i 0) && decide (l.getD i 0 ≤ 65536) && !decide (l.getD i 0 ∈ l.take i)
def singleR (l : List Int) : Nat → Nat → Bool
 | 0, _ => true
 | n + 1, i => singleP l i && singleR l n (i + 1)
theorem singleR_iff (l : List Int) : ∀ n i, singleR l n i = true ↔ ∀ j, i ≤ j → j < i + n → singleP l j = true
 | 0, i => by simp [singleR]; intro j h1 h2; omega
 | n + 1, i => by
   rw [singleR, Bool.and_eq_true, singleR_iff l n (i + 1)]
   constructor
   · rintro ⟨h1, h2⟩ j h3 h4
     rcases Nat.lt_or_eq_of_le h3 with h5 | h5
     · exact h2 j h5 (by omega)
     · subst h5; exact h1
   · intro h
     exact ⟨h i (Nat.le_refl _) (by omega), fun j h1 h2 => h j (by omega) (by omega)⟩
theorem singleR_full (l : List Int) : singleR l l.length 0 = singleB l := by
 rw [Bool.eq_iff_iff, singleR_iff]
 unfold singleB
 rw [List.all_eq_true]
 constructor
 · intro h i hi; exact h i (Nat.zero_le _) (by simpa using hi)
 · intro h i _ hi; exact h i (by simpa using hi)
theorem single_l0 (xs : List Int) (hb : xs.length ≤ 9223372036854775807) : ∀ n i, i + n = xs.length → Evn (fun k => skolemref03_single.l0 k xs (i : Int)) (singleR xs n i) := by
 intro n
 induction n with
 | zero =>
   intro i hi
   exact Evn.succ (g' := fun _ => some true) (fun k => by rw [skolemref03_single.l0, if_neg (by omega)]) (Evn.ret _)
 | succ n ih =>
   intro i hi
   have hil : i < xs.length := by omega
   refine Evn.succ (fun k => by rw [skolemref03_single.l0]) (Evn.pos (by omega) (Evn.pos (by omega) ?_))
   rw [rd_nat xs i hil, wrap64_nat (by omega), singleR]
   unfold singleP
   rw [show xs.getD i 0 = xs[i] by simp [hil]]
   by_cases c1 : xs[i] < 1
   · exact Evn.pos c1 ((Evn.ret _).to (by rw [decide_eq_false (by omega)]; rfl))
   · refine Evn.neg c1 ?_
     rw [decide_eq_true (show 1 ≤ xs[i] by omega), Bool.true_and]
     by_cases c2 : xs[i] > 65536
     · exact Evn.pos c2 ((Evn.ret _).to (by rw [decide_eq_false (show ¬ xs[i] ≤ 65536 by omega)]; rfl))
     · refine Evn.neg c2 (Evn.pos (by omega) ?_)
       rw [decide_eq_true (show xs[i] ≤ 65536 by omega), Bool.true_and, show ((i : Nat) : Int).toNat = i by omega]
       refine Evn.bind (Has3_f (xs.take i) _ (by rw [List.length_take]; omega)) ?_
       by_cases c3 : xs[i] ∈ xs.take i
       · exact Evn.pos (decide_eq_true c3) ((Evn.ret _).to (by rw [decide_eq_true c3]; rfl))
       · exact Evn.neg (by simpa using c3) ((ih (i + 1) (by omega)).to (by rw [decide_eq_false c3]; rfl))
theorem single_f (xs : List Int) (hb : xs.length ≤ 9223372036854775807) : Evn (fun k => skolemref03_single.f k xs) (singleB xs) := by
 unfold skolemref03_single.f
 exact (single_l0 xs hb xs.length 0 (by omega)).to (singleR_full xs)
theorem All_l0 (U : List Int) (X : List S61) (C : List (List Int)) (hX : X.length ≤ 1000000000000) : ∀ n i acc, i + n = X.length → acc.length ≤ 1000000000000 + i → Evn (fun k => skolemref03_All.l0 k acc (i : Int) U X C) (acc ++ (X.drop i).map S61.f0) := by
 intro n
 induction n with
 | zero =>
   intro i acc hi _
   exact Evn.succ (g' := fun _ => some acc) (fun k => by rw [skolemref03_All.l0, if_neg (by omega)]) ((Evn.ret _).to (by rw [List.drop_eq_nil_of_le (by omega)]; simp))
 | succ n ih =>
   intro i acc hi ha
   have hil : i < X.length := by omega
   refine Evn.succ (fun k => by rw [skolemref03_All.l0]) (Evn.pos (by omega) (Evn.pos (by omega) (Evn.pos (by omega) ?_)))
   rw [show rd_T61 X (i : Int) = X[i] by simp [rd_T61, hil], wrap64_nat (by omega), List.drop_eq_getElem_cons hil, List.map_cons]
   refine (ih (i + 1) _ (by omega) (by simp; omega)).to ?_
   rw [List.append_assoc]; rfl
theorem All_f (U : List Int) (X : List S61) (C : List (List Int)) (hU : U.length ≤ 1000000000000) (hX : X.length ≤ 1000000000000) : Evn (fun k => skolemref03_All.f k U X C) (U ++ X.map S61.f0) := by
 unfold skolemref03_All.f
 refine Evn.bind (Evn.ret _) (Evn.pos (by simp; omega) ?_)
 exact (All_l0 U X C hX X.length 0 ([] ++ U) (by omega) (by simp; omega)).to (by simp)
theorem Abs_f (x : Int) (hx : I64 x) (hm : -9223372036854775808 < x) : skolemref03_Abs.f x = some (x.natAbs : Int) := by
 unfold skolemref03_Abs.f
 unfold I64 at hx
 by_cases h : x < 0
 · rw [if_pos h, wrap64_id (by omega) (by omega)]; congr 1; omega
 · rw [if_neg h]; congr 1; omega
theorem Normal_f (xs : List Int) (_ : xs.length ≤ 9223372036854775807) : Evn (fun k => skolemref03_Normal.f k xs) (mayB xs) := by
 unfold skolemref03_Normal.f
 exact Evn.ret _
theorem Cnf_l0 (f : List (List Int)) (hb : f.length ≤ 9223372036854775807) (ht : total f ≤ 9223372036854775807) : ∀ n i, i + n = f.length → Evn (fun k => skolemref03_Cnf.l0 k f (lens f i : Int) (i : Int)) ((f.drop i).all mayB && (decide (f.length ≤ 20000) && decide (total f ≤ 200000))) := by
 intro n
 induction n with
 | zero =>
   intro i hi
   have hit : lens f i = total f := by unfold total; rw [show i = f.length by omega]
   refine Evn.succ (fun k => by rw [skolemref03_Cnf.l0]) (Evn.neg (by omega) ?_)
   rw [List.drop_eq_nil_of_le (by omega), hit, show ([] : List (List Int)).all mayB = true from rfl, Bool.true_and]
   by_cases h : f.length ≤ 20000
   · refine Evn.pos (by omega) ((Evn.ret _).to ?_)
     rw [decide_eq_true h, Bool.true_and, decide_eq_decide]; omega
   · exact Evn.neg (by omega) ((Evn.ret _).to (by rw [decide_eq_false h, Bool.false_and]))
 | succ n ih =>
   intro i hi
   have hil : i < f.length := by omega
   have hls := lens_succ f i hil
   have hle := lens_le f (i + 1)
   have hnext := ih (i + 1) (by omega)
   refine Evn.succ (fun k => by rw [skolemref03_Cnf.l0]) (Evn.pos (by omega) (Evn.pos (by omega) ?_))
   rw [show rd_L1 f (i : Int) = f[i] by simp [rd_L1, hil], wrap64_nat (by omega), wrap64_id (by omega) (by omega), show ((lens f i : Nat) : Int) + (f[i].length : Int) = ((lens f (i + 1) : Nat) : Int) by omega, List.drop_eq_getElem_cons hil, List.all_cons]
   refine Evn.bind (Normal_f f[i] (by omega)) ?_
   by_cases h : mayB f[i] = true
   · exact Evn.pos h (hnext.to (by rw [h, Bool.true_and]))
   · exact Evn.neg h ((Evn.ret _).to (by rw [show mayB f[i] = false by simpa using h]; rfl))
theorem cnf_eq (f : List (List Int)) : (f.all mayB && (decide (f.length ≤ 20000) && decide (total f ≤ 200000))) = mayCnfB f := by
 rw [Bool.eq_iff_iff]
 unfold mayCnfB
 simp only [Bool.and_eq_true, decide_eq_true_eq, List.all_eq_true]
 constructor
 · rintro ⟨h1, h2, h3⟩
   refine ⟨h2, fun k hk => ?_⟩
   have hk' : k < f.length := by simpa using hk
   have := lens_le f (k + 1)
   exact ⟨by omega, by rw [getD_of f k hk']; exact h1 _ (List.getElem_mem hk')⟩
 · rintro ⟨h1, h2⟩
   refine ⟨fun c hc => ?_, h1, ?_⟩
   · obtain ⟨k, hk, rfl⟩ := List.getElem_of_mem hc
     have := (h2 k (by simpa using hk)).2
     rwa [getD_of f k hk] at this
   · rcases Nat.eq_zero_or_pos f.length with h0 | h0
     · have : f = [] := List.length_eq_zero_iff.1 h0
       subst this
       simp [total, lens]
     · have := (h2 (f.length - 1) (by simp; omega)).1
       rw [show f.length - 1 + 1 = f.length by omega] at this
       exact this
theorem Cnf_f (f : List (List Int)) (hb : f.length ≤ 9223372036854775807) (ht : total f ≤ 9223372036854775807) : Evn (fun k => skolemref03_Cnf.f k f) (mayCnfB f) := by
 unfold skolemref03_Cnf.f
 exact (Cnf_l0 f hb ht f.length 0 (by omega)).to (by rw [List.drop_zero]; exact cnf_eq f)
theorem lit_abs {f : List (List Int)} (hm : f.all mayB = true) {c : List Int} (hc : c ∈ f) {x : Int} (hx : x ∈ c) : skolemref03_Abs.f x = some (varOf x) := by
 have h1 := ((mayB_iff c).1 (List.all_eq_true.1 hm c hc)).2 x hx
 have h2 := varOf_eq (n := x) (by omega)
 have h3 := varOf_range x
 rw [Abs_f x (by unfold I64; omega) (by omega)]
 congr 1
 omega
theorem within_l1 (f : List (List Int)) (vs : List Int) (hm : f.all mayB = true) (hb : f.length ≤ 9223372036854775807) (hcb : ∀ c ∈ f, c.length ≤ 9223372036854775807) (kb : vs.length ≤ 9223372036854775807) (i : Nat) (hi : i < f.length) (V : Bool)
 (hnext : Evn (fun k => skolemref03_within.l0 k f vs ((i + 1 : Nat) : Int)) V) :
 ∀ n j, j + n = f[i].length → Evn (fun k => skolemref03_within.l1 k f vs (i : Int) (j : Int)) (((f[i].drop j).all fun x => decide (varOf x ∈ vs)) && V) := by
 have hmem := List.getElem_mem hi
 have hcl := hcb _ hmem
 intro n
 induction n with
 | zero =>
   intro j hj
   refine Evn.succ (fun k => by rw [skolemref03_within.l1]) (Evn.pos (by omega) (Evn.pos (by omega) ?_))
   rw [show rd_L1 f (i : Int) = f[i] by simp [rd_L1, hi], wrap64_nat (i := i) (by omega)]
   exact Evn.neg (by omega) (hnext.to (by rw [List.drop_eq_nil_of_le (by omega)]; rfl))
 | succ n ih =>
   intro j hj
   have hjl : j < f[i].length := by omega
   refine Evn.succ (fun k => by rw [skolemref03_within.l1]) (Evn.pos (by omega) (Evn.pos (by omega) ?_))
   rw [show rd_L1 f (i : Int) = f[i] by simp [rd_L1, hi]]
   refine Evn.pos (by omega) (Evn.pos (by omega) ?_)
   rw [rd_nat f[i] j hjl, wrap64_nat (by omega), List.drop_eq_getElem_cons hjl, List.all_cons]
   refine Evn.bind (Evn.of_eq fun _ => lit_abs hm hmem (List.getElem_mem hjl)) (Evn.bind (Has3_f vs _ kb) ?_)
   by_cases h : varOf f[i][j] ∈ vs
   · exact Evn.pos (decide_eq_true h) ((ih (j + 1) (by omega)).to (by rw [decide_eq_true h, Bool.true_and]))
   · exact Evn.neg (by simpa using h) ((Evn.ret _).to (by rw [decide_eq_false h]; rfl))
theorem within_l0 (f : List (List Int)) (vs : List Int) (hm : f.all mayB = true) (hb : f.length ≤ 9223372036854775807) (hcb : ∀ c ∈ f, c.length ≤ 9223372036854775807) (kb : vs.length ≤ 9223372036854775807) :
 ∀ n i, i + n = f.length → Evn (fun k => skolemref03_within.l0 k f vs (i : Int)) ((f.drop i).all fun c => c.all fun x => decide (varOf x ∈ vs)) := by
 intro n
 induction n with
 | zero =>
   intro i hi
   exact Evn.succ (g' := fun _ => some true) (fun k => by rw [skolemref03_within.l0, if_neg (by omega)]) ((Evn.ret _).to (by rw [List.drop_eq_nil_of_le (by omega)]; rfl))
 | succ n ih =>
   intro i hi
   have hil : i < f.length := by omega
   refine Evn.succ (fun k => by rw [skolemref03_within.l0]) (Evn.pos (by omega) ?_)
   rw [List.drop_eq_getElem_cons hil, List.all_cons]
   exact (within_l1 f vs hm hb hcb kb i hil _ (ih (i + 1) (by omega)) f[i].length 0 (by omega)).to (by rw [List.drop_zero])
theorem within_f (f : List (List Int)) (vs : List Int) (hm : f.all mayB = true) (hb : f.length ≤ 9223372036854775807) (hcb : ∀ c ∈ f, c.length ≤ 9223372036854775807) (kb : vs.length ≤ 9223372036854775807) :
 Evn (fun k => skolemref03_within.f k f vs) (f.all fun c => c.all fun x => decide (varOf x ∈ vs)) := by
 unfold skolemref03_within.f
 exact (within_l0 f vs hm hb hcb kb f.length 0 (by omega)).to (by rw [List.drop_zero])
theorem MayD_l0 (U : List Int) (X : List S61) (C : List (List Int)) (hU : U.length ≤ 1000000000000) (hX : X.length ≤ 1000000000000) (hXo : ∀ x ∈ X, x.f1.length ≤ 9223372036854775807) :
 ∀ n i, i + n = X.length → Evn (fun k => skolemref03_MayDqbf.l0 k (i : Int) U X C) ((X.drop i).all fun x => risesB x.f1 && x.f1.all fun v => decide (v ∈ U)) := by
 intro n
 induction n with
 | zero =>
   intro i hi
   exact Evn.succ (g' := fun _ => some true) (fun k => by rw [skolemref03_MayDqbf.l0, if_neg (by omega)]) ((Evn.ret _).to (by rw [List.drop_eq_nil_of_le (by omega)]; rfl))
 | succ n ih =>
   intro i hi
   have hil : i < X.length := by omega
   have hxo := hXo _ (List.getElem_mem hil)
   refine Evn.succ (fun k => by rw [skolemref03_MayDqbf.l0]) (Evn.pos (by omega) (Evn.pos (by omega) ?_))
   rw [show rd_T61 X (i : Int) = X[i] by simp [rd_T61, hil], wrap64_nat (by omega), List.drop_eq_getElem_cons hil, List.all_cons]
   refine Evn.bind (Rises_f X[i].f1 hxo) ?_
   by_cases h1 : risesB X[i].f1 = true
   · refine Evn.pos h1 (Evn.bind (Part_f X[i].f1 U hxo (by omega)) ?_)
     rw [h1, Bool.true_and]
     by_cases h2 : (X[i].f1.all fun v => decide (v ∈ U)) = true
     · exact Evn.pos h2 ((ih (i + 1) (by omega)).to (by rw [h2, Bool.true_and]))
     · exact Evn.neg h2 ((Evn.ret _).to (by rw [Bool.eq_false_iff.2 h2, Bool.false_and]))
   · exact Evn.neg h1 ((Evn.ret _).to (by rw [Bool.eq_false_iff.2 h1]; rfl))
theorem MayD_f (U : List Int) (X : List S61) (C : List (List Int)) (hU : U.length ≤ 1000000000000) (hX : X.length ≤ 1000000000000) (hXo : ∀ x ∈ X, x.f1.length ≤ 9223372036854775807)
 (hC : C.length ≤ 9223372036854775807) (hCc : ∀ c ∈ C, c.length ≤ 9223372036854775807) (ht : total C ≤ 9223372036854775807) : Evn (fun k => skolemref03_MayDqbf.f k U X C) (mayD (dqv U X C)) := by
 rw [← mayR_eq]
 unfold skolemref03_MayDqbf.f mayR
 have e1 : (dqv U X C).univ = U := rfl
 have e2 : (dqv U X C).vars = X.map S61.f0 := by unfold DqV.vars dqv; rw [List.map_map]; rfl
 have e3 : (dqv U X C).clauses = C := rfl
 have e4 : (dqv U X C).exist.all (fun x => risesB x.2 && x.2.all fun v => decide (v ∈ U)) = X.all fun x => risesB x.f1 && x.f1.all fun v => decide (v ∈ U) := by
  unfold dqv; simp only; rw [List.all_map]; rfl
 rw [e1, e2, e3, e4]
 have hal : (U ++ X.map S61.f0).length = U.length + X.length := by simp
 refine Evn.bind (All_f U X C hU hX) ?_
 have hno : ∀ (b : Bool), b = false → Evn (fun k => skolemref03_MayDqbf.j0 k true U X C) b := fun b hb => Evn.succ (g' := fun _ => some false) (fun k => by rw [skolemref03_MayDqbf.j0, if_pos rfl]) ((Evn.ret _).to hb.symm)
 by_cases c1 : (U ++ X.map S61.f0).length ≤ 1024
 · refine Evn.neg (by omega) (Evn.bind (single_f _ (by omega)) ?_)
   rw [decide_eq_true c1, Bool.true_and]
   cases h2 : singleB (U ++ X.map S61.f0)
   · exact Evn.neg (by simp) (hno _ rfl)
   · refine Evn.pos rfl (Evn.bind (Rises_f U (by omega)) ?_)
     rw [Bool.true_and]
     cases h3 : risesB U
     · exact Evn.neg (by simp) (hno _ rfl)
     · refine Evn.pos rfl (Evn.pos (by omega) (Evn.pos (by omega) ?_))
       rw [Bool.true_and, show ((U.length : Int)).toNat = U.length by omega, List.drop_left]
       refine Evn.bind (Rises_f _ (by rw [List.length_map]; omega)) ?_
       cases h4 : risesB (X.map S61.f0)
       · exact Evn.neg (by simp) (hno _ rfl)
       · refine Evn.pos rfl (Evn.bind (Cnf_f C hC ht) ?_)
         rw [Bool.true_and]
         cases h5 : mayCnfB C
         · exact Evn.neg (by simp) (hno _ rfl)
         · rw [Bool.true_and]
           have hm : C.all mayB = true := by
            have := cnf_eq C
            rw [h5, Bool.and_eq_true] at this
            exact this.1
           refine Evn.pos rfl (Evn.bind (within_f C _ hm hC hCc (by omega)) ?_)
           refine Evn.succ (fun k => by rw [skolemref03_MayDqbf.j0]) ?_
           cases h6 : (C.all fun c => c.all fun x => decide (varOf x ∈ U ++ X.map S61.f0))
           · exact Evn.pos rfl (Evn.ret _)
           · rw [Bool.true_and]
             exact Evn.neg (by simp) ((MayD_l0 U X C hU hX hXo X.length 0 (by omega)).to (by rw [List.drop_zero]))
 · exact Evn.pos (by omega) (hno _ (by rw [decide_eq_false c1]; simp))
end Go.Proofs.YtjecjaihficcdaaGreat.PEquivNext
namespace Go.Proofs.YtjecjaihficcdaaGreat
open Go.RowKit
def Abide {β : Type} (J : β → (Nat → Prop) → World → Prop) : Prop :=
 ∀ s (T T' : Nat → Prop) A C, J s T A → Chg T A C → (∀ i, T i → T' i) → (∀ i, T' i → T i ∨ A.heap.size ≤ i) → (∀ i, T' i → i < C.heap.size) → J s T' C
def Iter {α : Type} (P : Program) (gf : FuncId) (lb : Array Value) (encs : α → Array Value) (xs : List α) (Rk : Nat → Prop) (w : World) : Prop :=
 ∀ (l : Nat) (J Jx : List α → (Nat → Prop) → World → Prop) (W : World), Chg (fun k => ¬ Rk k) w W → Abide J → Abide Jx →
  (∀ pre x T W1, J pre T W1 → (pre ++ [x]) <+: xs → YieldAt Fence.wide 0 P l (encs x) W1 fun e W' =>
   (e = .returned (.bool true) ∧ J (pre ++ [x]) T W' ∧ Chg (fun k => ¬ (Rk k ∨ T k)) W1 W') ∨ (e = .returned (.bool false) ∧ Jx (pre ++ [x]) T W')) →
  J [] (fun _ => False) W →
  CallsIn Fence.wide 0 P gf (#[.func (.yield l) #[] #[]] ++ lb) W fun e W' => (∃ v, e = .returned v) ∧ ((∃ T, J xs T W') ∨ (∃ pre T, pre <+: xs ∧ Jx pre T W'))
def RoundPost {α : Type} (Rk T : Nat → Prop) (I : List α → (Nat → Prop) → World → Prop) (Ix : Code → List α → (Nat → Prop) → World → Prop) (xs : List α) (W : World) : Exit → Act → World → Prop
 | .normal, _, W' => Chg (fun k => ¬ (Rk k ∨ T k)) W W' ∧ I xs T W'
 | .ret, _, W' => Chg (fun k => ¬ (Rk k ∨ T k)) W W' ∧ Ix .ret xs T W'
 | .exit id, _, W' => Chg (fun k => ¬ (Rk k ∨ T k)) W W' ∧ Ix (.exit id) xs T W'
 | .goto t, _, W' => Chg (fun k => ¬ (Rk k ∨ T k)) W W' ∧ Ix (.goto t) xs T W'
 | .panic _, _, _ => False
 | .outgrown, _, _ => False
theorem putObj_chg (W : World) (l : Nat) (o : Obj) : Chg (fun i => i = l) W (W.putObj l o) :=
 ⟨rfl, rfl, rfl, by simp, fun k _ hk => World.putObj_heap_other hk⟩
def markOf (D : Nat) : Deferred := { target := .collected D, args := #[] }
theorem wp_range {α : Type} {P : Program} {g : Operand} {ps : Array Tmp} {assign body : Code} {Q : Exit → Act → World → Prop} {a : Act} {w : World}
 {gf : FuncId} {lb : Array Value} {encs : α → Array Value} {xs : List α} {Rk : Nat → Prop} (hit : Iter P gf lb encs xs Rk w) (hg : a.eval g = .func (.func gf) #[] lb) (hf : Fv P gf)
 (hRk : ∀ k, Rk k → k < w.heap.size) (hps : ∀ x, (encs x).size = ps.size)
 (I : List α → (Nat → Prop) → World → Prop) (Ix : Code → List α → (Nat → Prop) → World → Prop) (hI : Abide I) (hIx : ∀ c, Abide (Ix c)) (h0 : I [] (fun _ => False) w) (a₁ : α → Act)
 (hassign : ∀ (l : Nat) (x : α) (W : World) (K : Act → World → Prop), K (a₁ x) W →
  assign.wpIn (Fence.wide.inRound l) 0 P (Exit.then K (fun _ _ _ => False)) { tmps := (ps.zip (encs x)).foldl (fun t (p, v) => t.setIfInBounds p v) a.tmps, defers := [] } W)
 (hbody : ∀ (l : Nat) (pre : List α) (x : α) (T : Nat → Prop) (W : World), I pre T W → (pre ++ [x]) <+: xs → (∀ i, T i → w.heap.size ≤ i) → w.heap.size ≤ W.heap.size → body.wpIn (Fence.wide.inRound l) 0 P (RoundPost Rk T I Ix (pre ++ [x]) W) (a₁ x) W)
 (hdone : ∀ (D : Nat) (T : Nat → Prop) (W : World), w.heap.size ≤ D → T D → I xs T W → W.heap[D]? = some (.deferred (some [])) → Q .normal { a with defers := markOf D :: a.defers } W)
 (hstop : ∀ (D : Nat) (c : Code) (pre : List α) (T : Nat → Prop) (W : World), w.heap.size ≤ D → T D → pre <+: xs → Ix c pre T W → W.heap[D]? = some (.deferred (some [])) → c.wp P Q { a with defers := markOf D :: a.defers } W) :
 (Code.rangeFunc g ps assign body).wp P Q a w := by
 refine (wpIn_wide (n := 0)).1 ?_
 refine wpIn_rangeFunc ?_
 intro fn hfn
 rw [Fence.wide_round]
 obtain ⟨rec, hrec⟩ : ∃ rec : LoopState → Option Code → Loop, rec = fun st pe => { state := st, pending := pe, fn, tmps := a.tmps, params := ps, assign, body, defers := w.heap.size } := ⟨_, rfl⟩
 obtain ⟨W1, hW1⟩ : ∃ W1, (w.alloc (.deferred (some []))).alloc (.loop (rec .ready none)) = W1 := ⟨_, rfl⟩
 have hL1 : W1.heap[w.heap.size + 1]? = some (.loop (rec .ready none)) := by
  rw [← hW1]; have := World.alloc_heap_new (w.alloc (.deferred (some []))) (.loop (rec .ready none)); rwa [World.size_alloc] at this
 have hsz : W1.heap.size = w.heap.size + 2 := by rw [← hW1]; simp
 have hE1 : Ext w W1 := by rw [← hW1]; exact (Ext.alloc w _).trans (Ext.alloc _ _)
 have hK1 : W1.heap[w.heap.size]? = some (.deferred (some [])) := by
  rw [← hW1]; exact (Below.heap_alloc _ _ _ (by simp)).trans (World.alloc_heap_new w _)
 obtain ⟨U, hU⟩ : ∃ U : (Nat → Prop) → Nat → Prop, U = fun T i => T i ∨ i = w.heap.size ∨ i = w.heap.size + 1 := ⟨_, rfl⟩
 have hUo : ∀ (T : Nat → Prop) i, U T i ↔ T i ∨ i = w.heap.size ∨ i = w.heap.size + 1 := fun T i => by rw [hU]
 have hUm : ∀ {T T' : Nat → Prop}, (∀ i, T i → T' i) → ∀ i, U T i → U T' i := fun h i hi => by rw [hUo] at hi ⊢; exact hi.imp (h i) id
 have hUg : ∀ {T T' : Nat → Prop} {n : Nat}, (∀ i, T' i → T i ∨ n ≤ i) → ∀ i, U T' i → U T i ∨ n ≤ i := fun h i hi => by
  rw [hUo] at hi
  rcases hi with hi | hi
  · exact (h i hi).imp (fun h => by rw [hUo]; exact .inl h) id
  · exact .inl (by rw [hUo]; exact .inr hi)
 have hI1 : I [] (U fun _ => False) W1 := hI [] (fun _ => False) _ w W1 h0 (hE1.chg _) (fun i h => h.elim) (fun i h => by
  rw [hUo] at h; rcases h with h | h | h
  · exact h.elim
  · exact .inr (by omega)
  · exact .inr (by omega)) (fun i h => by
  rw [hUo] at h; rcases h with h | h | h
  · exact h.elim
  · omega
  · omega)
 refine ⟨w.heap.size + 1, [markOf w.heap.size], W1, { target := .fn (.func gf) lb, args := #[.func (.yield (w.heap.size + 1)) #[] #[]] }, W1, gf,
  #[.func (.yield (w.heap.size + 1)) #[] #[]] ++ lb, W1, ?_, ?_, ?_, ?_, fun h => by simp [Fence.wide] at h, ?_⟩
 · rw [← hW1, hrec]; exact run_enterLoop_outer _ _ _ _ _
 · simp only [resolve, hg]
   simp [go_sem]
 · intro f' _; trivial
 · have := run_enter (P := P) hf (#[.func (.yield (w.heap.size + 1)) #[] #[]] ++ lb) W1
   simp [invoke, go_sem, this]
 · have put_I : ∀ (J : List α → (Nat → Prop) → World → Prop), Abide J → ∀ s T W o, (∀ i, U T i → i < W.heap.size) → J s (U T) W → J s (U T) (W.putObj (w.heap.size + 1) o) := fun J hJ s T W o hlt h =>
    hJ s _ _ _ _ h ((putObj_chg W _ o).mono fun i hi => by rw [hUo]; exact .inr (.inr hi)) (fun _ h => h) (fun _ h => .inl h) (fun i hi => by rw [World.putObj_size]; exact hlt i hi)
   have keepB : ∀ {T : Nat → Prop} {A C : World} {k : Nat} {o : Obj}, (∀ i, T i → w.heap.size + 1 < i) → Chg T A C → k ≤ w.heap.size + 1 → A.heap[k]? = some o → C.heap[k]? = some o := fun hT hc hk ho =>
    (hc.block _ (Array.getElem?_eq_some_iff.1 ho).1 (fun h => by have := hT _ h; omega)).trans ho
   refine (hit (w.heap.size + 1)
    (fun pre T W => I pre (U T) W ∧ W.heap[w.heap.size + 1]? = some (.loop (rec .ready none)) ∧ W.heap[w.heap.size]? = some (.deferred (some [])) ∧ (∀ i, T i → w.heap.size + 1 < i ∧ i < W.heap.size))
    (fun pre T W => ∃ c, Ix c pre (U T) W ∧ W.heap[w.heap.size + 1]? = some (.loop (rec .done (some c))) ∧ W.heap[w.heap.size]? = some (.deferred (some [])) ∧ (∀ i, T i → w.heap.size + 1 < i ∧ i < W.heap.size))
    W1 (hE1.chg _)
    (fun s T T' A C hs hc h1 h2 h3 => ?_) (fun s T T' A C hs hc h1 h2 h3 => ?_) ?_ ⟨hI1, hL1, hK1, fun i h => h.elim⟩).mono ?_
   · obtain ⟨i1, i2, i3, i4⟩ := hs
     have h5 := (Array.getElem?_eq_some_iff.1 i2).1
     have h6 := hc.size
     refine ⟨hI s (U T) (U T') A C i1 (hc.mono fun i hi => by rw [hUo]; exact .inl hi) (hUm h1) (hUg h2) (fun i hi => by rw [hUo] at hi; rcases hi with hi | hi | hi; exact h3 i hi; all_goals omega), keepB (fun i hi => (i4 i hi).1) hc (Nat.le_refl _) i2, keepB (fun i hi => (i4 i hi).1) hc (by omega) i3, fun i hi => ⟨?_, h3 i hi⟩⟩
     rcases h2 i hi with h | h
     · exact (i4 i h).1
     · have := (Array.getElem?_eq_some_iff.1 i2).1; omega
   · obtain ⟨c, i1, i2, i3, i4⟩ := hs
     have h5 := (Array.getElem?_eq_some_iff.1 i2).1
     have h6 := hc.size
     refine ⟨c, hIx c s (U T) (U T') A C i1 (hc.mono fun i hi => by rw [hUo]; exact .inl hi) (hUm h1) (hUg h2) (fun i hi => by rw [hUo] at hi; rcases hi with hi | hi | hi; exact h3 i hi; all_goals omega), keepB (fun i hi => (i4 i hi).1) hc (Nat.le_refl _) i2, keepB (fun i hi => (i4 i hi).1) hc (by omega) i3, fun i hi => ⟨?_, h3 i hi⟩⟩
     rcases h2 i hi with h | h
     · exact (i4 i h).1
     · have := (Array.getElem?_eq_some_iff.1 i2).1; omega
   ·
    rintro pre x T W ⟨hi, hl, hk, hT⟩ hpre
    have hlt : w.heap.size + 1 < W.heap.size := (Array.getElem?_eq_some_iff.1 hl).1
    have hy := run_yield (P := P) (args := encs x) hl (by rw [hrec]; exact hps x)
    rw [hrec] at hy
    refine ⟨fn, _, assign, body, hy, roundIn_of_wpIn hfn (hassign _ x W _ ⟨_, run_beginRound hl (by rw [hrec]), ?_⟩)⟩
    have hl2 : (W.putObj (w.heap.size + 1) (.loop { rec .ready none with state := .busy })).heap[w.heap.size + 1]? = some (.loop { rec .ready none with state := .busy }) := World.putObj_heap_same hlt
    have hk2 : (W.putObj (w.heap.size + 1) (.loop { rec .ready none with state := .busy })).heap[w.heap.size]? = some (.deferred (some [])) := (World.putObj_heap_other (by omega)).trans hk
    have hc2 : Chg (fun i => i = w.heap.size + 1) W (W.putObj (w.heap.size + 1) (.loop { rec .ready none with state := .busy })) := putObj_chg _ _ _
    have hUn : ∀ i, (¬ (Rk i ∨ U T i)) → ¬ (Rk i ∨ T i) := fun i h h' => h (h'.imp id fun h => by rw [hUo]; exact .inl h)
    have hUl : ∀ i, i = w.heap.size + 1 → ¬ (Rk i ∨ T i) := fun i e h => by
     rcases h with h | h
     · have := hRk i h; omega
     · have := (hT i h).1; omega
    have hlU : ∀ i, U T i → i < W.heap.size := fun i h => by
     rw [hUo] at h; rcases h with h | h | h
     · exact (hT i h).2
     · omega
     · omega
    refine wpIn_mono (hbody _ pre x (U T) _ (put_I I hI _ _ _ _ hlU hi) hpre (fun i h => by
     rw [hUo] at h; rcases h with h | h | h
     · have := (hT i h).1; omega
     · omega
     · omega) (by rw [World.putObj_size]; omega)) ?_
    have fin : ∀ (jump : Option Code) (W3 : World), Chg (fun k => ¬ (Rk k ∨ U T k)) (W.putObj (w.heap.size + 1) (.loop { rec .ready none with state := .busy })) W3 →
     (Instr.endRound (w.heap.size + 1) jump).run P W3 = .ok (.bool jump.isNone) (W3.putObj (w.heap.size + 1) (.loop (rec (if jump.isNone then .ready else .done) jump))) ∧
     W3.heap[w.heap.size + 1]? = some (.loop { rec .ready none with state := .busy }) ∧
     (W3.putObj (w.heap.size + 1) (.loop (rec (if jump.isNone then .ready else .done) jump))).heap[w.heap.size + 1]? = some (.loop (rec (if jump.isNone then .ready else .done) jump)) ∧
     (W3.putObj (w.heap.size + 1) (.loop (rec (if jump.isNone then .ready else .done) jump))).heap[w.heap.size]? = some (.deferred (some [])) := fun jump W3 hk3 => by
     have hl3 : W3.heap[w.heap.size + 1]? = some (.loop { rec .ready none with state := .busy }) := (hk3.block _ (by rw [World.putObj_size]; exact hlt) (fun h => h (.inr (by rw [hUo]; exact .inr (.inr rfl))))).trans hl2
     have hk4 : W3.heap[w.heap.size]? = some (.deferred (some [])) := (hk3.block _ (by rw [World.putObj_size]; omega) (fun h => h (.inr (by rw [hUo]; exact .inr (.inl rfl))))).trans hk2
     have := run_endRound (P := P) jump hl3
     rw [hrec] at this ⊢
     exact ⟨this, by rw [hrec] at hl3; exact hl3, World.putObj_heap_same (Array.getElem?_eq_some_iff.1 hl3).1, (World.putObj_heap_other (by omega)).trans hk4⟩
    have hsz3 : ∀ (W3 : World), Chg (fun k => ¬ (Rk k ∨ U T k)) (W.putObj (w.heap.size + 1) (.loop { rec .ready none with state := .busy })) W3 → W.heap.size ≤ W3.heap.size := fun W3 h => by have := h.size; rwa [World.putObj_size] at this
    rintro e a3 W3 hp
    cases e with
    | normal =>
      obtain ⟨hk3, hi3⟩ := hp
      obtain ⟨hr, hl3, hl4, hk4⟩ := fin none W3 hk3
      refine ⟨_, _, hr, .inl ⟨rfl, ⟨put_I I hI _ _ _ _ (fun i h => Nat.lt_of_lt_of_le (hlU i h) (hsz3 W3 hk3)) hi3, hl4, hk4, fun i h => ⟨(hT i h).1, by rw [World.putObj_size]; exact Nat.lt_of_lt_of_le (hT i h).2 (hsz3 W3 hk3)⟩⟩, ?_⟩⟩
      exact ((hc2.mono hUl).trans (hk3.mono hUn)).trans ((putObj_chg _ _ _).mono hUl)
    | ret =>
      obtain ⟨hk3, hi3⟩ := hp
      obtain ⟨hr, hl3, hl4, hk4⟩ := fin (some .ret) W3 hk3
      exact ⟨_, _, hr, .inr ⟨rfl, .ret, put_I _ (hIx _) _ _ _ _ (fun i h => Nat.lt_of_lt_of_le (hlU i h) (hsz3 W3 hk3)) hi3, hl4, hk4, fun i h => ⟨(hT i h).1, by rw [World.putObj_size]; exact Nat.lt_of_lt_of_le (hT i h).2 (hsz3 W3 hk3)⟩⟩⟩
    | exit id =>
      obtain ⟨hk3, hi3⟩ := hp
      obtain ⟨hr, hl3, hl4, hk4⟩ := fin (some (.exit id)) W3 hk3
      exact ⟨_, _, hr, .inr ⟨rfl, .exit id, put_I _ (hIx _) _ _ _ _ (fun i h => Nat.lt_of_lt_of_le (hlU i h) (hsz3 W3 hk3)) hi3, hl4, hk4, fun i h => ⟨(hT i h).1, by rw [World.putObj_size]; exact Nat.lt_of_lt_of_le (hT i h).2 (hsz3 W3 hk3)⟩⟩⟩
    | goto t =>
      obtain ⟨hk3, hi3⟩ := hp
      obtain ⟨hr, hl3, hl4, hk4⟩ := fin (some (.goto t)) W3 hk3
      exact ⟨_, _, hr, .inr ⟨rfl, .goto t, put_I _ (hIx _) _ _ _ _ (fun i h => Nat.lt_of_lt_of_le (hlU i h) (hsz3 W3 hk3)) hi3, hl4, hk4, fun i h => ⟨(hT i h).1, by rw [World.putObj_size]; exact Nat.lt_of_lt_of_le (hT i h).2 (hsz3 W3 hk3)⟩⟩⟩
    | panic ch => exact hp.elim
    | outgrown => exact hp.elim
   ·
    rintro e W2 ⟨⟨v, rfl⟩, (⟨T, hi, hl, hk, hT⟩ | ⟨pre, T, hpre, c, hi, hl, hk, hT⟩)⟩
    · exact ⟨none, _, by have := run_endLoop (P := P) hl (by rw [hrec]; simp); rw [hrec] at this; exact this, hdone _ (U T) _ (Nat.le_refl _) (by rw [hUo]; exact .inr (.inl rfl)) (put_I I hI _ _ _ _ (fun i h => by rw [hUo] at h; have := (Array.getElem?_eq_some_iff.1 hl).1; rcases h with h | h | h; exact (hT i h).2; all_goals omega) hi) ((World.putObj_heap_other (by omega)).trans hk)⟩
    · exact ⟨some c, _, by have := run_endLoop (P := P) hl (by rw [hrec]; simp); rw [hrec] at this; exact this, wpIn_wide.2 (hstop _ c pre (U T) _ (Nat.le_refl _) (by rw [hUo]; exact .inr (.inl rfl)) hpre (put_I _ (hIx c) _ _ _ _ (fun i h => by rw [hUo] at h; have := (Array.getElem?_eq_some_iff.1 hl).1; rcases h with h | h | h; exact (hT i h).2; all_goals omega) hi) ((World.putObj_heap_other (by omega)).trans hk))⟩
theorem calls_marks {P : Program} {f : FuncId} {fn : Func} {c : Code} {args : Array Value} {w : World} {R : Ending → World → Prop} (hf : P.funcs[f]? = some fn) (hb : fn.body = some c)
 (h : c.wp P (bodyPostM Fence.wide 0 P fn R) { tmps := args ++ Array.replicate (fn.ntmps - args.size) undef, defers := [] } w) : Calls P f args w R :=
 (callsIn_wide (n := 0)).1 (callsIn_of_wp_marks hf hb trivial (wpIn_wide.2 h) rfl)
theorem ret_mark {P : Program} {fn : Func} {R : Ending → World → Prop} {a : Act} {w : World} {D : Nat} {v : Value} (hr : ∀ w, (results fn a.tmps).run P w = .ok v w) (hd : a.defers = [markOf D]) (hK : w.heap[D]? = some (.deferred (some [])))
 (h : R (.returned v) (w.putObj D (.deferred none))) : bodyPostM Fence.wide 0 P fn R .ret a w := by
 show LeavesInM Fence.wide 0 P fn a.tmps R a.defers .returning w
 rw [hd]
 exact ⟨by simp, .inl ⟨D, _, rfl, run_takeDeferred hK, v, hr _, h⟩⟩
end Go.Proofs.YtjecjaihficcdaaGreat
namespace Go.Proofs.YtjecjaihficcdaaGreat
open Go.RowKit
attribute [local go_sem] Oper.semAt_some
theorem Chg.cell {S : Nat → Prop} {w w' : World} (h : Chg S w w') {a : Addr} {v : Value} (hc : w.cell? a = some v) (hn : ¬ S a.block) : w'.cell? a = some v := by
 rw [← hc]
 have := h.block a.block (World.block_lt_of_cell? w a hc) hn
 simp [World.cell?, this]
theorem add_block (ad : Addr) (j : Nat) : (ad.add j).block = ad.block := by unfold Addr.add; split <;> rfl
def RowB (A : Option Addr) (n : Nat) (k : Nat) : Prop := 0 < n ∧ ∃ ad, A = some ad ∧ k = ad.block
theorem Row.chg {S : Nat → Prop} {w w' : World} {A : Option Addr} {vs : List Value} (h : Row w A vs) (e : Chg S w w') (hn : ∀ k, RowB A vs.length k → ¬ S k) : Row w' A vs := fun j hj => by
 obtain ⟨ad, ha, hc⟩ := h j hj
 exact ⟨ad, ha, e.cell hc (by rw [add_block]; exact hn _ ⟨by omega, ad, ha, rfl⟩)⟩
theorem RowB.lt {w : World} {A : Option Addr} {vs : List Value} (h : Row w A vs) {k : Nat} (hk : RowB A vs.length k) : k < w.heap.size := by
 obtain ⟨h0, ad, rfl, rfl⟩ := hk
 obtain ⟨ad', ha, hc⟩ := h 0 h0
 cases ha
 have := World.block_lt_of_cell? w _ hc
 rwa [add_block] at this
def backL (us : List Value) : Nat → List (Int × Value)
 | 0 => []
 | k + 1 => backL us k ++ [(((us.length - 1 - k : Nat) : Int), us.getD (us.length - 1 - k) undef)]
theorem backL_pre (us : List Value) (k : Nat) : ∀ m, k ≤ m → backL us k <+: backL us m := by
 intro m
 induction m with
 | zero => intro h; obtain rfl : k = 0 := by omega
           exact List.prefix_refl _
 | succ m ih =>
   intro h
   rcases Nat.lt_or_ge k (m + 1) with h1 | h1
   · exact (ih (by omega)).trans (List.prefix_append _ _)
   · obtain rfl : k = m + 1 := by omega
     exact List.prefix_refl _
set_option maxRecDepth 100000 in
set_option maxHeartbeats 2000000 in
theorem back_iter (A : Option Addr) (c b : Nat) (us : List Value) (w : World) (hb : w.cell? ⟨b, 0, none⟩ = some (.slice A us.length c)) (hrow : Row w A us) (hl : us.length ≤ 9223372036854775807) :
 Iter Tryz.prog 107 #[.pointer (some ⟨b, 0, none⟩)] (fun p : Int × Value => #[.int .i64 p.1, p.2]) (backL us us.length) (fun k => k = b ∨ RowB A us.length k) w := by
 intro l J Jx W hW _ _ hY h0
 have HB := Lib.hid (hW.cell hb (fun h => h (.inl rfl)))
 have HR := Lib.hid (hrow.chg hW (fun k hk h => h (.inr hk)))
 have HY := Lib.hid hY
 clear hY hb hrow hW
 refine callsIn_of_wp Tryz.func107 rfl trivial ?_ rfl
 simp only [Tryz.ntmps107, List.size_toArray, List.length_cons, List.length_nil, Nat.reduceAdd, Nat.reduceSub, Array.replicate_succ, Array.replicate_zero, List.push_toArray, List.append_toArray, List.nil_append, List.cons_append]
 have hb0 := HB.out
 gi_wp2
 gi_loopw [3] (fun i wr => ∃ k : Nat, k ≤ us.length ∧ i = .int .i64 ((us.length : Int) - 1 - k) ∧ Hid (J (backL us k) (fun _ => False) wr ∧ wr.cell? ⟨b, 0, none⟩ = some (.slice A us.length c) ∧ Row wr A us))
  (fun i _ => (intOf i + 1).toNat)
 case atStart => exact ⟨0, Nat.zero_le _, by simp, h0, HB.out, HR.out⟩
 case round =>
  obtain ⟨k, hk, rfl, HS⟩ := hrel
  by_cases hlt : k < us.length
  · obtain ⟨j, hj⟩ : ∃ j : Nat, j = us.length - 1 - k := ⟨_, rfl⟩
    have ej : (us.length : Int) - 1 - k = (j : Int) := by omega
    have hjl : j < us.length := by omega
    obtain ⟨ad, rfl, hcell⟩ := HS.out.2.2 j hjl
    have hbx := HS.out.2.1
    obtain ⟨fn, tmps, assign, body, hy, hR⟩ := HY.out (backL us k) ((j : Int), us.getD j undef) _ wr HS.out.1 (by
     have := backL_pre us (k + 1) us.length hlt
     rw [backL, ← hj] at this
     exact this)
    have eu : us.getD j undef = us[j] := by simp [hjl]
    rw [eu] at hy
    have HK : Hid (backL us (k + 1) = backL us k ++ [((j : Int), us.getD j undef)]) := Lib.hid (by rw [backL, ← hj])
    have HJ := Lib.hid hj
    rw [ej]
    dsimp only at hy
    generalize us[j] = u at *
    have HR2 := Lib.hid hR
    clear hR eu ej hj
    gi_wp2
    refine ⟨rfl, HR2.out.mono ?_⟩
    rintro e W3 (⟨rfl, hJ3, hk3⟩ | ⟨rfl, hJx3⟩)
    · have HN : Hid (J (backL us (k + 1)) (fun _ => False) W3 ∧ W3.cell? ⟨b, 0, none⟩ = some (.slice (some ad) us.length c) ∧ Row W3 (some ad) us) := Lib.hid ⟨HK.out ▸ hJ3, hk3.cell HS.out.2.1 (fun h => h (.inl (.inl rfl))), HS.out.2.2.chg hk3 (fun k hk h => h (.inl (.inr hk)))⟩
      clear hJ3 hk3
      gi_wp2
      go_roundw
      case rel => exact ⟨k + 1, by omega, by have := HJ.out; first | (congr 1; omega) | congr 1, HN⟩
      case measure => (simp [intOf]; try omega)
    · gi_wp2
      refine bodyPost_ret (results_none rfl _ _ _) rfl ?_
      exact ⟨⟨_, rfl⟩, .inr ⟨backL us (k + 1), _, backL_pre us _ _ hlt, HK.out ▸ hJx3⟩⟩
  · obtain rfl : k = us.length := by omega
    have ej : (us.length : Int) - 1 - us.length = -1 := by omega
    rw [ej]
    gi_wp2
    go_end0
    exact ⟨⟨_, rfl⟩, .inl ⟨_, HS.out.1⟩⟩
end Go.Proofs.YtjecjaihficcdaaGreat
namespace Go.Proofs.YtjecjaihficcdaaGreat
open Go.RowKit
def noDefer (ops : List Oper) : Bool := ops.all fun o => match o.op with | .defer _ => false | _ => true
section
variable {P : Program} {ops : Array Oper} {Q : Exit → Act → World → Prop} {md : Region.Mode} {l n : Nat}
theorem upon_in {K K' : Act → World → Prop} (hK : ∀ a w, K a w → K' a w) {o : Oper} {a : Act} {r : Result Next} (h : o.upon P a K Q r) : o.uponIn (Fence.wide.inRound l) n P a K' Q r := by
 cases r with
 | ok x w' =>
   cases x with
   | value v => exact hK _ _ h
   | skip => exact hK _ _ h
   | defer d => exact hK _ _ h
   | enter f args => exact ⟨fun h => by simp [Fence.wide] at h, CallsIn.inRound l (callsIn_wide.2 (Calls.mono h fun e w'' he => by cases e <;> first | exact hK _ _ he | exact he))⟩
   | row r args =>
     refine ⟨fun h => by simp [Fence.wide] at h, fun c cs _ => ?_⟩
     obtain ⟨v, w'', hr, hs⟩ := h c cs
     exact ⟨v, w'', hK _ _ hr, stepsIn_wide.2 hs⟩
   | _ => exact h.elim
 | halt x w' => cases x <;> first | exact h | exact h.elim
theorem oper_in {K K' : Act → World → Prop} (hK : ∀ a w, K a w → K' a w) {o : Oper} {a : Act} {w : World} (hd : ∀ c, o.op ≠ .defer c) (h : o.wp P a w K Q) : o.wpIn (Fence.wide.inRound l) n P a w K' Q := by
 refine ⟨fun _ _ => trivial, ?_⟩
 have e : o.semAt (Fence.wide.inRound l).round a.eval = execOp a.eval o := Oper.semAt_plain _ _ _ hd
 rw [e]
 exact upon_in hK h
theorem no_defer {os : List Oper} (h : noDefer os = true) {o : Oper} (ho : o ∈ os) : ∀ c, o.op ≠ .defer c := fun c e => by
 have := List.all_eq_true.1 h o ho
 rw [e] at this
 cases this
theorem list_in (hQ : ¬ LetsOut Q) : ∀ (os : List Oper), noDefer os = true → ∀ {a : Act} {w : World}, wpList P ops Q os a w → wpListIn (Fence.wide.inRound l) n P ops Q os a w
 | [], _, _, _, h => h
 | o :: os, hd, a, w, h => by
   have hd' : noDefer os = true := by unfold noDefer at hd ⊢; rw [List.all_cons, Bool.and_eq_true] at hd; exact hd.2
   unfold wpList at h
   unfold wpListIn
   split
   · rename_i hw
     rw [if_pos hw] at h
     exact oper_in (fun _ _ hk => list_in hQ os hd' hk) (no_defer hd List.mem_cons_self) (h.resolve_right fun h' => hQ h'.2)
   · rename_i hw
     rw [if_neg hw] at h
     exact ⟨fun _ _ => trivial, list_in hQ os hd' h⟩
theorem any_in (hQ : ¬ LetsOut Q) (hd : noDefer ops.toList = true) : ∀ (fuel : Nat) (listed : Array Bool) (a : Act) (w : World), wpAny P md ops Q fuel listed a w → wpAnyIn (Fence.wide.inRound l) n P md ops Q fuel listed a w := by
 intro fuel
 induction fuel with
 | zero => intro listed a w h; exact h
 | succ fuel ih =>
   intro listed a w h
   refine ⟨h.1, fun i hi => ?_⟩
   have h2 := h.2 i hi
   unfold wpOp at h2
   unfold wpOpIn
   split
   · rename_i ho
     rw [ho] at h2
     exact ih _ _ _ h2
   · rename_i o ho
     rw [ho] at h2
     simp only at h2
     split
     · rename_i hw
       rw [if_pos hw] at h2
       exact oper_in (fun _ _ hk => ih _ _ _ hk) (no_defer hd (by
        have := List.mem_of_getElem? (l := ops.toList) (i := i) (a := o) (by simpa using ho)
        exact this)) (h2.resolve_right fun h' => hQ h'.2)
     · rename_i hw
       rw [if_neg hw] at h2
       exact ⟨fun _ _ => trivial, ih _ _ _ h2⟩
theorem region_in (hQ : ¬ LetsOut Q) {id : Nat} {a : Act} {w : World} {os : List Oper} (hd : noDefer os = true) (h : wpList P os.toArray Q os a w) : (Code.region id os.toArray false).wpIn (Fence.wide.inRound l) n P Q a w :=
 wpIn_region_lit (list_in hQ os hd h)
theorem still_tail_in (hQ : ¬ LetsOut Q) {id : Nat} {a : Act} {w : World} {os : List Oper} (m : Nat) (hm : P.follows .mixedOrders = true) (hd : noDefer os = true) (hB : Region.lexTailB .any os.toArray m = true)
 (h : wpStill P os.toArray { w with drawn := w.drawn + 1 } (fun a' => wpList P os.toArray Q (os.drop m) a' { w with drawn := w.drawn + 1 }) (os.take m) a) : (Code.region id os.toArray true).wpIn (Fence.wide.inRound l) n P Q a w := by
 simp only [Region.lexTailB, Bool.and_eq_true, decide_eq_true_eq] at hB
 obtain ⟨⟨⟨⟨hsel, hn⟩, hs⟩, hc⟩, hlex⟩ := hB
 have hn' : m < os.length := by simpa using hn
 have htl : (os.take m).length = m := by simp; omega
 have hdl : (os.drop m).length = os.toArray.size - m := by simp
 have inv0 : HeadInv .any os.toArray m (Array.replicate os.toArray.size false) :=
  ⟨by simp, fun j oj _ hl => (by rw [getD_replicate_false] at hl; cases hl), fun t _ ht => getD_in (by simpa using ht) (getD_replicate_false _ _)⟩
 have H := wpAnyL_lex (md := .any) (g := os.toArray.size - m) hsel hs hc hn (os.take m) 0 _ a (fun j hj => by
  have hj' : j < m := by rw [htl] at hj; exact hj
  simp [hj']) (by simpa using htl) inv0 (by rw [htl]; exact hlex) h
 refine wpIn_region_any hm ?_
 have := wpAny_of_head (Q' := Q) (g := os.toArray.size - m) (fun listed a' hL => by
  have := wpAny_of_seq (md := .any) (Q' := Q) (os.drop m) m listed a' { w with drawn := w.drawn + 1 } (fun j => by simp [List.getElem?_drop]) (by rw [hdl]; exact hL.1) hL.2
  rwa [hdl] at this) _ _ _ H
 rw [htl, show m + (os.toArray.size - m) = os.toArray.size by omega] at this
 exact any_in hQ (by simpa using hd) _ _ _ _ this
end
end Go.Proofs.YtjecjaihficcdaaGreat
namespace Go.Proofs.YtjecjaihficcdaaGreat
open Go.RowKit Go.ChangeMaps
section
variable {κ : Type} [DecidableEq κ]
def idxK : List (κ × Value) → κ → Nat → Option (Nat × Value)
 | [], _, _ => none
 | p :: ps, n, i => if n = p.1 then some (i, p.2) else idxK ps n (i + 1)
def lkp (ks : List (κ × Value)) (n : κ) : Option Value := (ks.find? fun p => decide (n = p.1)).map Prod.snd
def kput : List (κ × Value) → κ → Value → List (κ × Value)
 | [], n, v => [(n, v)]
 | p :: ps, n, v => if n = p.1 then (n, v) :: ps else p :: kput ps n v
theorem idxK_val (ks : List (κ × Value)) (n : κ) : ∀ i, (idxK ks n i).map (·.2) = lkp ks n := by
 induction ks with
 | nil => intro i; rfl
 | cons p ps ih =>
   intro i
   unfold idxK lkp
   rw [List.find?_cons]
   by_cases h : n = p.1
   · simp [h]
   · simp only [h, if_false, decide_false]
     exact ih (i + 1)
theorem idxK_none {ks : List (κ × Value)} {n : κ} : ∀ {i}, idxK ks n i = none → n ∉ ks.map Prod.fst := by
 induction ks with
 | nil => intro i _; simp
 | cons p ps ih =>
   intro i h
   unfold idxK at h
   by_cases hp : n = p.1
   · rw [if_pos hp] at h; cases h
   · rw [if_neg hp] at h
     simp only [List.map_cons, List.mem_cons, not_or]
     exact ⟨hp, ih h⟩
theorem idxK_some {ks : List (κ × Value)} {n : κ} {v : Value} : ∀ {i j}, idxK ks n i = some (j, v) → i ≤ j ∧ ∃ h : j - i < ks.length, (ks[j - i]).1 = n ∧ ∀ u, kput ks n u = ks.set (j - i) (n, u) := by
 induction ks with
 | nil => intro i j h; cases h
 | cons p ps ih =>
   intro i j h
   unfold idxK at h
   by_cases hp : n = p.1
   · rw [if_pos hp] at h
     injection h with h; injection h with h1 h2
     subst h1
     exact ⟨Nat.le_refl _, by simp, by simpa using hp.symm, fun u => by unfold kput; rw [if_pos hp]; simp⟩
   · rw [if_neg hp] at h
     obtain ⟨h1, h2, h3, h4⟩ := ih h
     have e : j - i = (j - (i + 1)) + 1 := by omega
     refine ⟨by omega, by simp; omega, ?_, fun u => ?_⟩
     · simp only [e, List.getElem_cons_succ]; exact h3
     · unfold kput; rw [if_neg hp, h4 u, e, List.set_cons_succ]
theorem kput_new {ks : List (κ × Value)} {n : κ} (h : n ∉ ks.map Prod.fst) (v : Value) : kput ks n v = ks ++ [(n, v)] := by
 induction ks with
 | nil => rfl
 | cons p ps ih =>
   simp only [List.map_cons, List.mem_cons, not_or] at h
   unfold kput
   rw [if_neg h.1, ih h.2]; rfl
theorem lkp_kput (ks : List (κ × Value)) (n : κ) (v : Value) (k : κ) : lkp (kput ks n v) k = if k = n then some v else lkp ks k := by
 induction ks with
 | nil => unfold kput lkp; by_cases h : k = n <;> simp [h]
 | cons p ps ih =>
   unfold kput
   by_cases h : n = p.1
   · rw [if_pos h]
     unfold lkp
     by_cases hk : k = n
     · simp [hk]
     · have : ¬ k = p.1 := fun e => hk (e.trans h.symm)
       simp [hk, this]
   · rw [if_neg h]
     unfold lkp at ih ⊢
     by_cases hk : k = p.1
     · have : ¬ k = n := fun e => h (e.symm.trans hk)
       have h2 : ¬ p.1 = n := fun e => h e.symm
       simp [hk, h2]
     · simp only [List.find?_cons, hk, decide_false]
       exact ih
theorem lkp_mem {ks : List (κ × Value)} {n : κ} {v : Value} (h : lkp ks n = some v) : (n, v) ∈ ks := by
 unfold lkp at h
 obtain ⟨p, hp, rfl⟩ := Option.map_eq_some_iff.1 h
 have h1 := List.find?_some hp
 have h2 := List.mem_of_find?_eq_some hp
 have : n = p.1 := by simpa using h1
 rw [this]; exact h2
theorem lkp_none {ks : List (κ × Value)} {n : κ} : lkp ks n = none ↔ n ∉ ks.map Prod.fst := by
 unfold lkp
 rw [Option.map_eq_none_iff, List.find?_eq_none]
 simp only [List.mem_map, not_exists, not_and, decide_eq_true_eq]
 exact ⟨fun h p hp e => h p hp e.symm, fun h p hp e => h p hp e.symm⟩
structure KeyFam (P : Program) (K : TypeId) (kv : κ → Value) : Prop where
 inj : ∀ a b, kv a = kv b → a = b
 find : ∀ (ks : List (κ × Value)) (es : List MapEntry) (n : κ) (w : World), es.map (fun e => (e.key, e.val)) = ks.map (fun p => (kv p.1, p.2)) → (Instr.findKey K (kv n) es).run P w = .ok (idxK ks n 0) w
 chk : ∀ (b : Bool) (n : κ) (w : World), (Instr.checkKey b 10000 K (kv n)).run P w = .ok () w
 stay : ∀ (n : κ) (w : World), (Instr.keyThatStays (kv n) (kv n)).run P w = .ok (kv n) w
def MapK (kv : κ → Value) (w : World) (g : Nat) (ks : List (κ × Value)) : Prop :=
 ∃ (es : Array MapEntry) (clock : Nat), w.heap[g]? = some (.map es clock) ∧ MapKept.Stamped es clock ∧ es.toList.map (fun e => (e.key, e.val)) = ks.map (fun p => (kv p.1, p.2))
variable {P : Program} {T K E : TypeId} {kv : κ → Value} {w : World} {g : Nat} {ks : List (κ × Value)}
omit [DecidableEq κ] in
theorem MapK.lt (h : MapK kv w g ks) : g < w.heap.size := by obtain ⟨es, clock, hg, -⟩ := h; exact (Array.getElem?_eq_some_iff.1 hg).1
omit [DecidableEq κ] in
theorem MapK.keep {S : Nat → Prop} {w' : World} (h : MapK kv w g ks) (k : Chg S w w') (hn : ¬ S g) : MapK kv w' g ks := by
 obtain ⟨es, clock, hg, r⟩ := h
 exact ⟨es, clock, (k.block g (Array.getElem?_eq_some_iff.1 hg).1 hn).trans hg, r⟩
omit [DecidableEq κ] in
theorem MapK.ext {w' : World} (h : MapK kv w g ks) (k : Ext w w') : MapK kv w' g ks := h.keep (k.chg fun _ => False) id
omit [DecidableEq κ] in
theorem MapK.new (w : World) : MapK kv (w.alloc (.map #[] 0)) w.heap.size [] := ⟨#[], 0, heap_alloc_new w _, MapKept.stamped_empty 0, rfl⟩
theorem MapK.lookup (h : MapK kv w g ks) (F : KeyFam P K kv) (hT : P.underlying T = some (.map K E)) {z : Value} (hz : (zeroValue E).run P w = .ok z w) (n : κ) :
 (Instr.lookup T (.map (some g)) (kv n) false).run P w = .ok ((lkp ks n).getD z) w := by
 obtain ⟨es, clock, hg, hs, hm⟩ := h
 rw [← idxK_val ks n 0]
 have hf := F.find ks es.toList n w hm
 have hc := F.chk es.isEmpty n w
 cases hi : idxK ks n 0 with
 | none => rw [hi] at hf; simp [Instr.lookup, run_underlying hT, MapKept.run_getObj_map hg, hc, hf, hz, Result.andThen]
 | some jv => rw [hi] at hf; simp [Instr.lookup, run_underlying hT, MapKept.run_getObj_map hg, hc, hf, Result.andThen]
theorem MapK.lookup_ok (h : MapK kv w g ks) (F : KeyFam P K kv) (hT : P.underlying T = some (.map K E)) {z : Value} (hz : (zeroValue E).run P w = .ok z w) (n : κ) :
 (Instr.lookup T (.map (some g)) (kv n) true).run P w = .ok (.tuple #[(lkp ks n).getD z, .bool (lkp ks n).isSome]) w := by
 obtain ⟨es, clock, hg, hs, hm⟩ := h
 rw [← idxK_val ks n 0]
 have hf := F.find ks es.toList n w hm
 have hc := F.chk es.isEmpty n w
 cases hi : idxK ks n 0 with
 | none => rw [hi] at hf; simp [Instr.lookup, run_underlying hT, MapKept.run_getObj_map hg, hc, hf, hz, Result.andThen]
 | some jv => rw [hi] at hf; simp [Instr.lookup, run_underlying hT, MapKept.run_getObj_map hg, hc, hf, Result.andThen]
theorem MapK.update (h : MapK kv w g ks) (F : KeyFam P K kv) (hT : P.underlying T = some (.map K E)) (n : κ) (v : Value) :
 ∃ w', (Instr.mapUpdate T (.map (some g)) (kv n) v).run P w = .ok () w' ∧ MapK kv w' g (kput ks n v) ∧ Chg (fun k => k = g) w w' ∧ w'.heap.size = w.heap.size := by
 obtain ⟨es, clock, hg, hs, hm⟩ := h
 have hf := F.find ks es.toList n w hm
 have hc := F.chk false n w
 have hlen : es.toList.length = ks.length := by have := congrArg List.length hm; simpa using this
 have hkeys : ∀ (j : Nat) (h1 : j < es.toList.length) (h2 : j < ks.length), (es.toList[j]).key = kv (ks[j]).1 := fun j h1 h2 => by
  have := congrArg (fun l => l[j]?) hm
  simp only [List.getElem?_map, List.getElem?_eq_getElem h1, List.getElem?_eq_getElem h2, Option.map_some] at this
  injection this with this
  exact congrArg Prod.fst this
 cases hi : idxK ks n 0 with
 | none =>
   rw [hi] at hf
   have hno := idxK_none hi
   refine ⟨setObjW w g (.map (es.push { key := kv n, val := v, born := clock }) (clock + 1)), ?_, ⟨_, _, setObjW_at hg, ?_, ?_⟩, setObjW_chg w g _, by simp [setObjW]⟩
   · simp [Instr.mapUpdate, run_underlying hT, MapKept.run_getObj_map hg, hc, hf, Result.andThen, MapKept.run_setObj_map _ hg, setObjW]
   · refine MapKept.stamped_push hs fun x hx e => hno ?_
     obtain ⟨j, hj, rfl⟩ := List.getElem_of_mem hx
     have hj2 : j < ks.length := by omega
     rw [hkeys j hj hj2] at e
     rw [← F.inj _ _ e]
     exact List.mem_map.2 ⟨ks[j], List.getElem_mem hj2, rfl⟩
   · rw [Array.toList_push, List.map_append, hm, kput_new hno]; simp
 | some jv =>
   obtain ⟨j, ov⟩ := jv
   rw [hi] at hf
   obtain ⟨-, h2, h3, h4⟩ := idxK_some hi
   simp only [Nat.sub_zero] at h2 h3 h4
   have hjl : j < es.toList.length := by omega
   have hj : j < es.size := by simpa using hjl
   have hkj : es[j].key = kv n := by have := hkeys j hjl h2; rw [h3] at this; simpa using this
   have hes : (es.modify j fun e => { e with key := kv n, val := v }).toList = es.toList.set j { es.toList[j] with key := kv n, val := v } := by
    rw [Array.toList_modify, modify_set _ _ _ hjl]
   refine ⟨setObjW w g (.map (es.modify j fun e => { e with key := kv n, val := v }) clock), ?_, ⟨_, _, setObjW_at hg, ?_, ?_⟩, setObjW_chg w g _, by simp [setObjW]⟩
   · simp [Instr.mapUpdate, run_underlying hT, MapKept.run_getObj_map hg, hc, hf, Result.andThen, MapKept.run_setObj_map _ hg, setObjW, hj, hkj, F.stay]
   · exact MapKept.stamped_modify hs j _ (fun _ _ => rfl) (fun e _ he => by
      have : e = es[j] := by rw [Array.getElem?_eq_getElem hj] at he; injection he with he; exact he.symm
      rw [this, hkj])
   · rw [hes, h4 v, List.map_set, List.map_set, hm]
omit [DecidableEq κ] in
theorem MapK.nodup (h : MapK kv w g ks) : (ks.map Prod.fst).Nodup := by
 obtain ⟨es, clock, hg, ⟨-, -, h3⟩, hm⟩ := h
 have e : es.toList.map (fun e => e.key) = (ks.map Prod.fst).map kv := by
  have := congrArg (List.map Prod.fst) hm
  rw [List.map_map, List.map_map] at this
  rw [List.map_map]
  exact this
 rw [e] at h3
 exact (List.pairwise_map.1 h3).imp fun h e => h (by rw [e])
omit [DecidableEq κ] in
theorem MapK.size (h : MapK kv w g ks) : ∃ es clock, w.heap[g]? = some (.map es clock) ∧ es.size = ks.length := by
 obtain ⟨es, clock, hg, hs, hm⟩ := h
 exact ⟨es, clock, hg, by have := congrArg List.length hm; simpa using this⟩
end
section
variable {P : Program} {K E : TypeId}
theorem fam_int (hK : P.underlying K = some (.int .i64)) : KeyFam P K (fun n : Int => Value.int .i64 n) where
 inj := fun a b h => by injection h
 find := fun ks es n w h => by
  have : ∀ (ks : List (Int × Value)) (es : List MapEntry) (i : Nat), es.map (fun e => (e.key, e.val)) = ks.map (fun p => (Value.int .i64 p.1, p.2)) → Instr.findNow (.int .i64) (.int .i64 n) es i = some (idxK ks n i) := by
   intro ks
   induction ks with
   | nil => intro es i h; cases es with | nil => rfl | cons _ _ => simp at h
   | cons p ps ih =>
     intro es i h
     cases es with
     | nil => simp at h
     | cons e es =>
       simp only [List.map_cons, List.cons.injEq, Prod.mk.injEq] at h
       obtain ⟨⟨h1, h2⟩, h3⟩ := h
       simp only [Instr.findNow, h1, Instr.sameNow, if_true, idxK]
       by_cases hn : n = p.1
       · simp [hn, h2]
       · have : (n == p.1) = false := by simpa using hn
         simp [hn, this, ih es (i + 1) h3]
  simp [Instr.findKey, run_underlying hK, this ks es 0 h]
 chk := fun b n w => run_checkKey hK b n
 stay := fun n w => run_keyStays n
theorem fam_pair (hK : P.underlying K = some (.array 2 E)) (hE : P.underlying E = some (.int .i64)) (hag : ∀ w, (isAgg E).run P w = .ok false w) (hsz : ∀ w, (sizeOf E).run P w = .ok 1 w) :
 KeyFam P K (fun p : Int × Int => Value.agg #[.int .i64 p.1, .int .i64 p.2]) := by
 have hpt : ∀ (cs : Array Value) (j : Nat) (v : Value) (w : World), cs[j]? = some v → (part E cs j).run P w = .ok v w := fun cs j v w h => by
  simp [part, hag, Result.andThen, h]
 have hp0 : ∀ (x y : Value) (w : World), (part E #[x, y] 0).run P w = .ok x w := fun x y w => hpt _ 0 _ w rfl
 have hp1 : ∀ (x y : Value) (w : World), (part E #[x, y] 1).run P w = .ok y w := fun x y w => hpt _ 1 _ w rfl
 have heq : ∀ (d : Nat) (a b : Int × Int) (w : World), (Op.equalIn (d + 1 + 1) K (.agg #[.int .i64 a.1, .int .i64 a.2]) (.agg #[.int .i64 b.1, .int .i64 b.2])).run P w = .ok (decide (a = b)) w := fun d a b w => by
  have h1 : ∀ (x y : Int) (w : World), (Op.equalIn (d + 1) E (.int .i64 x) (.int .i64 y)).run P w = .ok (x == y) w := fun x y w => by
   simp [Op.equalIn, run_underlying hE, Result.andThen]
  have e : decide (a = b) = ((a.1 == b.1) && (a.2 == b.2)) := by rw [Bool.eq_iff_iff]; simp [Prod.ext_iff]
  rw [Op.equalIn.eq_def]
  simp only [Sem.run_bind, run_underlying hK, Result.andThen_ok, hsz]
  simp only [Std.Legacy.Range.forIn_eq_forIn_range', Std.Legacy.Range.size, Nat.sub_zero, Nat.add_one_sub_one, Nat.div_one, List.range'_succ, List.range'_zero, List.forIn_cons, List.forIn_nil, Nat.mul_one, Sem.run_bind]
  simp only [hp0, hp1, Result.andThen, h1, e]
  by_cases h5 : a.1 = b.1 <;> by_cases h6 : a.2 = b.2 <;> simp [Result.andThen, hp0, hp1, h1, h5, h6]
 have hck : ∀ (f : Nat) (b : Bool) (n : Int × Int) (w : World), (Instr.checkKey b (f + 1 + 1) K (.agg #[.int .i64 n.1, .int .i64 n.2])).run P w = .ok () w := fun f b n w => by
  have h1 : ∀ (x : Int) (w : World), (Instr.checkKey b (f + 1) E (.int .i64 x)).run P w = .ok () w := fun x w => by
   simp [Instr.checkKey, run_underlying hE]
  rw [Instr.checkKey.eq_def]
  simp only [Sem.run_bind, run_underlying hK, Result.andThen_ok, hsz]
  simp only [Std.Legacy.Range.forIn_eq_forIn_range', Std.Legacy.Range.size, Nat.sub_zero, Nat.add_one_sub_one, Nat.div_one, List.range'_succ, List.range'_zero, List.forIn_cons, List.forIn_nil, Nat.mul_one, Sem.run_bind]
  simp [Result.andThen, hp0, hp1, h1, hsz]
 have hst : ∀ (f : Nat) (n : Int × Int), Instr.sameBits (f + 1) (.agg #[.int .i64 n.1, .int .i64 n.2]) (.agg #[.int .i64 n.1, .int .i64 n.2]) = true := fun f n => by
  simp [Instr.sameBits, sameBits_int]
 refine ⟨fun a b h => ?_, fun ks es n w h => ?_, fun b n w => hck 9998 b n w, fun n w => ?_⟩
 · simp at h
   exact Prod.ext h.1 h.2
 · have hask : ∀ (ks : List ((Int × Int) × Value)) (es : List MapEntry) (i : Nat), es.map (fun e => (e.key, e.val)) = ks.map (fun p => (Value.agg #[.int .i64 p.1.1, .int .i64 p.1.2], p.2)) →
    (Instr.findAsking K (.agg #[.int .i64 n.1, .int .i64 n.2]) es i).run P w = .ok (idxK ks n i) w := by
    intro ks
    induction ks with
    | nil => intro es i h; cases es with | nil => rfl | cons _ _ => simp at h
    | cons p ps ih =>
      intro es i h
      cases es with
      | nil => simp at h
      | cons e es =>
        simp only [List.map_cons, List.cons.injEq, Prod.mk.injEq] at h
        obtain ⟨⟨h1, h2⟩, h3⟩ := h
        have hq : (Op.equal K (.agg #[.int .i64 n.1, .int .i64 n.2]) e.key).run P w = .ok (decide (n = p.1)) w := by
         rw [h1]; exact heq 9998 n p.1 w
        simp only [Instr.findAsking, Sem.run_bind, hq, Result.andThen_ok, idxK]
        by_cases hn : n = p.1
        · simp [hn, h2]
        · simp [hn, ih es (i + 1) h3]
   have hno : ∀ es : List MapEntry, es ≠ [] → es.map (fun e => (e.key, e.val)) = ks.map (fun p => (Value.agg #[.int .i64 p.1.1, .int .i64 p.1.2], p.2)) → Instr.findNow (.array 2 E) (.agg #[.int .i64 n.1, .int .i64 n.2]) es 0 = none := fun es h0 _ => by
    cases es with
    | nil => exact absurd rfl h0
    | cons e es => simp [Instr.findNow, Instr.sameNow]
   by_cases h0 : es = []
   · subst h0
     cases ks with
     | nil => simp [Instr.findKey, run_underlying hK, Instr.findNow, idxK, Result.andThen]
     | cons _ _ => simp at h
   · simp only [Instr.findKey, Sem.run_bind, run_underlying hK, Result.andThen_ok, hno es h0 h]
     exact hask ks es 0 h
 · have := hst 9999 n
   simp only [Instr.keyThatStays]
   rw [show (10000 : Nat) = 9999 + 1 from rfl, this]
   simp
end
end Go.Proofs.YtjecjaihficcdaaGreat
