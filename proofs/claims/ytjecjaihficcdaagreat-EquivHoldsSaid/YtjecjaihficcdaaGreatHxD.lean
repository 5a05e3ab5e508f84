/- Walks and plain laws that this claim uses. -/
import Derived.Test.YtjecjaihficcdaaGreatHxC
import Derived.Test.YtjecjaihficcdaaGreatHxA
import Derived.Deep.CutRange
import Derived.Ground.SlsfProg
import Derived.Shelf.SlSortCmp.Whole1
import Derived.Test.YtjecjaihficcdaaGreatProg
import Derived.Shelf.Sort.Plain
import Derived.Ground.Names2Prog
import Derived.Shelf.Slices.CompactI
import Derived.Shelf.Slices.In.SortNone
import Derived.Lib.SlicesCompact
import Derived.Sort.Statements
import Derived.Sort.OwnSortedInts
import Derived.Lib.RowBridge
import Derived.Shelf.SlSortCmp.NoneTotal
import Derived.RangeFuncNested
namespace Go.Proofs.YtjecjaihficcdaaGreat
open Go.RowKit
theorem RX.ext {w w' : World} {v : Value} {X : List (Int × List Int)} (h : RX w v X) (k : Ext w w') : RX w' v X := by
 obtain ⟨A, c, ons, h1, h2, h3, h4, h5⟩ := h
 refine ⟨A, c, ons, h1, h2, h3, h4, fun j hj hj' => ?_⟩
 obtain ⟨ad, h6, h7, h8, h9⟩ := h5 j hj hj'
 exact ⟨ad, h6, k.cell h7, k.cell h8, h9.ext k⟩
set_option maxHeartbeats 1000000 in
theorem deps1_fn (y v : Int) (on : Value) (ho : ∃ A n c, on = .slice A n c) (b : Nat) (w : World) (hb : w.cell? ⟨b, 0, none⟩ = some (.int .i64 v)) :
 Calls Tryz.prog 154 #[.agg #[.int .i64 y, on], .pointer (some ⟨b, 0, none⟩)] w fun e w' => e = .returned (.bool (decide (y = v))) ∧ Ext w w' := by
 obtain ⟨A, n, c, rfl⟩ := ho
 have hE := Ext.alloc w (.cells #[.int .i64 y, .slice A n c] 61)
 have hb' := hE.cell hb
 have HE := Lib.hid hE
 clear hE
 by_cases h : y = v
 · rw [decide_eq_true h]
   subst h
   go_enter Tryz.func154, Tryz.ntmps154
   go_wp2
   go_ret
   exact ⟨by simp, HE.out⟩
 · rw [decide_eq_false h]
   have h' : (y == v) = false := by simpa using h
   go_enter Tryz.func154, Tryz.ntmps154
   go_wp2
   go_ret
   exact ⟨by simp, HE.out⟩
theorem fv_deps1 : Fv Tryz.prog 154 := ⟨_, Tryz.func154, by kernel_rfl, by kernel_rfl⟩
def PostIx (X : List (Int × List Int)) (v : Int) (w : World) (e : Ending) (w' : World) : Prop :=
 ∃ r : Int, e = .returned (.int .i64 r) ∧ Ext w w' ∧ ((∃ (k : Nat) (h : k < X.length), r = (k : Int) ∧ X[k].1 = v ∧ ∀ j (h : j < k), (X[j]'(by omega)).1 ≠ v) ∨ (r = -1 ∧ ∀ j (h : j < X.length), X[j].1 ≠ v))
set_option maxHeartbeats 1000000 in
theorem indexX (X : List (Int × List Int)) (u : Value) (v : Int) (b : Nat) (w : World) (hx : RX w u X) (hb : w.cell? ⟨b, 0, none⟩ = some (.int .i64 v)) :
 Calls Tryz.prog 153 #[u, .func (.func 154) #[] #[.pointer (some ⟨b, 0, none⟩)]] w (PostIx X v w) := by
 obtain ⟨XA, xc, ons, rfl, x1, x2, x3, x4⟩ := hx
 have X4 := Lib.hid x4
 have HB := Lib.hid hb
 clear x4 hb
 go_enter Tryz.func153, Tryz.ntmps153
 go_wp2
 go_loopg [8] X.length (fun gn i wr => ∃ k : Nat, k ≤ X.length ∧ gn + k = X.length ∧ i = .int .i64 k ∧ Hid (Ext w wr) ∧ Hid (∀ j (h : j < X.length), j < k → X[j].1 ≠ v))
 case atStart => exact ⟨0, Nat.zero_le _, by omega, rfl, Lib.hid (Ext.refl _), Lib.hid (fun j _ h => absurd h (Nat.not_lt_zero j))⟩
 case round =>
  obtain ⟨k, hk, hgk, rfl, HE, HN⟩ := hrel
  obtain ⟨w2, rfl⟩ : ∃ w2 : World, w2 = wr := ⟨_, rfl⟩
  by_cases hlt : k < X.length
  · obtain ⟨ad, rfl, c1, c2, hr⟩ := X4.out k hlt (by omega)
    have c1' := HE.out.cell c1
    have c2' := HE.out.cell c2
    have hs : ∃ A n c, ons[k] = .slice A n c := by obtain ⟨A, c, h, -⟩ := hr; exact ⟨A, _, c, h⟩
    have HY : Hid (∀ w', Ext w2 w' → _) := Lib.hid (fun w' (h : Ext w2 w') => deps1_fn X[k].1 v ons[k] hs b w' ((HE.out.trans h).cell HB.out))
    obtain ⟨OA, on, oc, hoe⟩ := hs
    rw [hoe] at c2' HY
    obtain ⟨y, hy⟩ : ∃ y, y = X[k].1 := ⟨_, rfl⟩
    rw [← hy] at c1' HY
    have HYY := Lib.hid hy
    clear c1 c2 hr hoe hy
    by_cases hyv : y = v
    · rw [decide_eq_true hyv] at HY
      have HYV := Lib.hid hyv
      clear hyv
      go_wp2_with (refine wpList_callv (.tmp 11) #[.tmp 15] _ rfl rfl #[.pointer (some ⟨b, 0, none⟩)] rfl fv_deps1 (#[.agg #[.int .i64 y, .slice OA on oc]] ++ #[.pointer (some ⟨b, 0, none⟩)]) (by simp only [List.map_toArray, List.map_cons, List.map_nil]; rfl) ?_; refine (HY.out _ (Ext.refl _)).mono ?_; rintro e w' ⟨rfl, hE⟩; refine ⟨_, rfl, ?_⟩; have HE' := Lib.hid hE; clear hE)
      go_ret
      exact ⟨k, rfl, HE.out.trans HE'.out, .inl ⟨k, hlt, rfl, by rw [← HYY.out]; exact HYV.out, fun j hj => HN.out j (by omega) hj⟩⟩
    · rw [decide_eq_false hyv] at HY
      go_wp2_with (refine wpList_callv (.tmp 11) #[.tmp 15] _ rfl rfl #[.pointer (some ⟨b, 0, none⟩)] rfl fv_deps1 (#[.agg #[.int .i64 y, .slice OA on oc]] ++ #[.pointer (some ⟨b, 0, none⟩)]) (by simp only [List.map_toArray, List.map_cons, List.map_nil]; rfl) ?_; refine (HY.out _ (Ext.refl _)).mono ?_; rintro e w' ⟨rfl, hE⟩; refine ⟨_, rfl, ?_⟩; have HE' := Lib.hid hE; clear hE)
      have HN2 : Hid (∀ j (h : j < X.length), j < k + 1 → X[j].1 ≠ v) := Lib.hid (fun j h hj => by
       rcases Nat.lt_or_ge j k with h1 | h1
       · exact HN.out j h h1
       · obtain rfl : j = k := by omega
         rw [← HYY.out]; exact hyv)
      go_roundg (X.length - (k + 1))
      case measure => omega
      case rel => exact ⟨k + 1, by omega, by omega, by go_num, Lib.hid (HE.out.trans HE'.out), HN2⟩
  · obtain rfl : k = X.length := by omega
    go_wp2
    go_ret
    exact ⟨-1, rfl, HE.out, .inr ⟨rfl, fun j hj => HN.out j hj hj⟩⟩
def DepsV (d : DqV) (v : Int) : List Int × Bool := ((d.deps v).getD [], (d.deps v).isSome)
def PostDeps (w : World) (r : List Int × Bool) (e : Ending) (w' : World) : Prop := ∃ u, e = .returned (.tuple #[u, .bool r.2]) ∧ RI w' u r.1 ∧ Ext w w'
set_option maxHeartbeats 1000000 in
theorem Deps_any (d : DqV) (vu vx vc : Value) (v : Int) (w : World) (hu : ∃ A n c, vu = .slice A n c) (hc : ∃ A n c, vc = .slice A n c) (hx : RX w vx d.exist) (hl : ∀ x ∈ d.exist, x.2.length ≤ 1000000000) :
 Calls Tryz.prog 108 #[.agg #[vu, vx, vc], .int .i64 v] w (PostDeps w (DepsV d v)) := by
 obtain ⟨UA, un, uc, rfl⟩ := hu
 obtain ⟨CA, cn, cc, rfl⟩ := hc
 have HX := Lib.hid hx
 obtain ⟨XA, xc, ons, rfl, x1, x2, x3, x4⟩ := hx
 have X4 := Lib.hid x4
 clear x4
 have e1 := Ext.alloc w (.cells #[.slice UA un uc, .slice XA d.exist.length xc, .slice CA cn cc] 27)
 have e2 := Ext.alloc (w.alloc (.cells #[.slice UA un uc, .slice XA d.exist.length xc, .slice CA cn cc] 27)) (.cells #[.int .i64 v] 3)
 have HI := Lib.hid (indexX d.exist _ v (w.heap.size + 1) _ ((RX.ext HX.out (e1.trans e2))) (by have := (Var1.new (w.alloc (.cells #[.slice UA un uc, .slice XA d.exist.length xc, .slice CA cn cc] 27)) 3 (.int .i64 v)).cell; rw [World.size_alloc] at this; exact this))
 have HE := Lib.hid (e1.trans e2)
 clear e1 e2
 cases hf : d.exist.find? fun x => decide (x.1 = v) with
 | none =>
   have hn : ∀ j (h : j < d.exist.length), d.exist[j].1 ≠ v := fun j h e => by
    have := List.find?_eq_none.1 hf _ (List.getElem_mem h)
    simp [e] at this
   have hR : DepsV d v = ([], false) := by unfold DepsV DqV.deps; rw [hf]; rfl
   rw [hR]
   have HI2 := Lib.hid (HI.out.mono (R' := fun e w' => e = .returned (.int .i64 (-1)) ∧ Ext _ w') (by
    rintro e w' ⟨r, rfl, h, ⟨k, hk, _, h2, _⟩ | ⟨rfl, _⟩⟩
    · exact absurd h2 (hn k hk)
    · exact ⟨rfl, h⟩))
   clear hR hn hf HI
   go_enter Tryz.func108, Tryz.ntmps108
   go_wp2_with (go_at_call 153; refine HI2.out.mono ?_; rintro e w2 ⟨rfl, hE2⟩; have HE2 := Lib.hid hE2; clear hE2)
   go_ret2
   exact ⟨_, rfl, RI.none _, HE.out.trans HE2.out⟩
 | some x =>
   obtain ⟨hxv, k, hk, hkx, hfirst⟩ := List.find?_eq_some_iff_getElem.1 hf
   have hkv : d.exist[k].1 = v := by rw [hkx]; simpa using hxv
   have hfi : ∀ j (h : j < k), (d.exist[j]'(by omega)).1 ≠ v := fun j hj => by simpa using hfirst j hj
   have hR : DepsV d v = (d.exist[k].2, true) := by unfold DepsV DqV.deps; rw [hf, hkx]; rfl
   rw [hR]
   have HI2 := Lib.hid (HI.out.mono (R' := fun e w' => e = .returned (.int .i64 (k : Int)) ∧ Ext _ w') (by
    rintro e w' ⟨r, rfl, h, ⟨k', hk', rfl, h2, h3⟩ | ⟨_, h2⟩⟩
    · obtain rfl : k' = k := by
       rcases Nat.lt_trichotomy k' k with h4 | h4 | h4
       · exact absurd h2 (hfi k' h4)
       · exact h4
       · exact absurd hkv (h3 k h4)
      exact ⟨rfl, h⟩
    · exact absurd hkv (h2 k hk)))
   obtain ⟨ad, rfl, c1, c2, hr⟩ := X4.out k hk (by omega)
   have hb : d.exist[k].2.length * 8 ≤ 140737488355328 := by have := hl _ (List.getElem_mem hk); omega
   obtain ⟨xs, hxs⟩ : ∃ xs, xs = d.exist[k].2 := ⟨_, rfl⟩
   rw [← hxs] at hb hr ⊢
   obtain ⟨V, hV⟩ : ∃ V, V = ons[k] := ⟨_, rfl⟩
   rw [← hV] at c2 hr
   have HRI := Lib.hid hr
   have C2 := Lib.hid c2
   have HB := Lib.hid hb
   have b0 := Blk.new w 27 [.slice UA un uc, .slice (some ad) d.exist.length xc, .slice CA cn cc]
   have b1 := Lib.hid (((Ext.alloc (w.alloc (.cells #[.slice UA un uc, .slice (some ad) d.exist.length xc, .slice CA cn cc] 27)) (.cells #[.int .i64 v] 3)).chg (fun _ => False)).blk b0 id)
   clear hR hfi hkv hfirst hxv hkx hf HI c1 c2 hr hV hxs hb b0
   go_enter Tryz.func108, Tryz.ntmps108
   go_wp2_with (first
    | (go_at_call 153; refine HI2.out.mono ?_; rintro e w2 ⟨rfl, hE2⟩; have HE2 := Lib.hid hE2; have HE3 := Lib.hid (HE.out.trans hE2)
       have cb1 : w2.cell? ⟨w.heap.size, 1, none⟩ = some (.slice (some ad) d.exist.length xc) := ((hE2.chg (fun _ => False)).blk b1.out id).cell 1
       have cc2 := HE3.out.cell C2.out
       clear hE2)
    | (go_at_call 59; refine (cloneI_any V xs _ (HRI.out.ext HE3.out) HB.out).mono ?_; rintro e w3 ⟨v', rfl, hown, hE⟩; have HE4 := Lib.hid hE; have HOW := Lib.hid hown; clear hE hown))
   go_ret2
   exact ⟨_, rfl, HOW.out.reads, HE3.out.trans HE4.out⟩
theorem slice_of {w : World} {v : Value} {xs : List Int} (h : RI w v xs) : ∃ A n c, v = .slice A n c := by obtain ⟨A, c, h, -⟩ := h; exact ⟨A, _, c, h⟩
structure RD (w : World) (vu vx vc : Value) (d : DqV) : Prop where
 u : RI w vu d.univ
 x : RX w vx d.exist
 c : RLL w vc d.clauses
theorem RD.ext {w w' : World} {vu vx vc : Value} {d : DqV} (h : RD w vu vx vc d) (k : Ext w w') : RD w' vu vx vc d := ⟨h.u.ext k, h.x.ext k, RLL.ext' h.c k⟩
structure DOk (d : DqV) : Prop where
 u64 : All64 d.univ
 x64 : ∀ x ∈ d.exist, I64 x.1 ∧ All64 x.2
 c64 : All64L d.clauses
 ul : d.univ.length ≤ 1000000
 xl : d.exist.length ≤ 1000000
 ol : ∀ x ∈ d.exist, x.2.length ≤ 1000000
 cl : d.clauses.length ≤ 1000000
 tot : total d.clauses ≤ 1000000
theorem DOk.dep {d : DqV} (h : DOk d) (v : Int) : All64 (DepsV d v).1 ∧ (DepsV d v).1.length ≤ 1000000 := by
 unfold DepsV
 cases hd : d.deps v with
 | none => exact ⟨fun x hx => by simp at hx, by simp⟩
 | some on => exact ⟨(h.x64 _ (deps_mem hd)).2, h.ol _ (deps_mem hd)⟩
set_option maxHeartbeats 2000000 in
theorem allowed_any (d : DqV) (vu vx vc : Value) (x y : Int) (w : World) (hd : RD w vu vx vc d) (ok : DOk d) (hy : I64 y) :
 Calls Tryz.prog 56 #[.agg #[vu, vx, vc], .int .i64 x, .int .i64 y] w fun e w' => e = .returned (.bool (allowP d x y)) ∧ Ext w w' := by
 have HD := Lib.hid hd
 have OK := Lib.hid ok
 have hol : ∀ x ∈ d.exist, x.2.length ≤ 1000000000 := fun x hx => by have := ok.ol x hx; omega
 obtain ⟨⟨UA, uc, hue, -⟩, ⟨XA, xc, ons, hxe, -⟩, ⟨CA, cc, us, hce, -⟩⟩ := hd
 have HDP : Hid (∀ v w', Ext w w' → Calls Tryz.prog 108 #[.agg #[vu, vx, vc], .int .i64 v] w' (PostDeps w' (DepsV d v))) := Lib.hid (fun v w' h => Deps_any d vu vx vc v w' (slice_of (HD.out.u.ext h)) ⟨CA, _, cc, hce⟩ (HD.out.x.ext h) hol)
 subst hue hxe hce
 have e1 := Ext.alloc w (.cells #[.slice UA d.univ.length uc, .slice XA d.exist.length xc, .slice CA us.length cc] 27)
 have HE := Lib.hid e1
 have HB := Lib.hid (Blk.new w 27 [.slice UA d.univ.length uc, .slice XA d.exist.length xc, .slice CA us.length cc])
 have HV := Lib.hid (fun w' => var_any y hy w')
 obtain ⟨Rz, hRz⟩ : ∃ Rz, Rz = allowP d x y := ⟨_, rfl⟩
 have HR := Lib.hid hRz
 rw [← hRz]
 clear hRz e1 ok hol
 obtain ⟨on, hon⟩ : ∃ on, on = (DepsV d x).1 := ⟨_, rfl⟩
 obtain ⟨v, hv⟩ : ∃ v, v = varOf y := ⟨_, rfl⟩
 have D1 := Lib.hid (HDP.out x _ HE.out)
 have HON := Lib.hid hon
 have HVE := Lib.hid hv
 rw [← hv] at HV
 unfold PostDeps at D1
 rw [← hon] at D1
 clear hon hv
 cases his : (DepsV d x).2
 · rw [his] at D1
   have HF : Hid (Rz = false) := Lib.hid (by rw [HR.out]; unfold allowP; unfold DepsV at his; cases hq : d.deps x with | none => rfl | some _ => rw [hq] at his; simp at his)
   clear his
   go_enter Tryz.func56, Tryz.ntmps56
   go_wp2_with (first
    | (go_at_call 108; refine D1.out.mono ?_; rintro e w2 ⟨u, rfl, hr, hE2⟩; have HE2 := Lib.hid hE2; clear hE2)
    | (go_at_call 36; refine (HV.out _).mono ?_; rintro e w' ⟨rfl, rfl⟩))
   go_ret
   exact ⟨(congrArg (fun b : Bool => Ending.returned (Value.bool b)) HF.out).symm, HE.out.trans HE2.out⟩
 · rw [his] at D1
   have hdx : d.deps x = some on := by rw [HON.out]; unfold DepsV at his ⊢; cases hq : d.deps x with | none => rw [hq] at his; simp at his | some _ => rfl
   have hallow : Rz = (!decide (v = x) && (match d.deps v with | some mine => subB mine on | none => decide (v ∈ on))) := by rw [HR.out]; unfold allowP; rw [hdx, HVE.out]; (try rfl)
   clear his
   by_cases hvx : v = x
   · have HF : Hid (Rz = false) := Lib.hid (by rw [hallow, decide_eq_true hvx]; rfl)
     have hb : (v == x) = true := by simpa using hvx
     clear hallow hdx
     have HVX := Lib.hid hvx
     clear hvx
     go_enter Tryz.func56, Tryz.ntmps56
     go_wp2_with (first
      | (go_at_call 108; refine D1.out.mono ?_; rintro e w2 ⟨u, rfl, hr, hE2⟩; have HE2 := Lib.hid hE2; clear hE2)
      | (go_at_call 36; refine (HV.out _).mono ?_; rintro e w' ⟨rfl, rfl⟩))
     go_ret
     exact ⟨(congrArg (fun b : Bool => Ending.returned (Value.bool b)) HF.out).symm, HE.out.trans HE2.out⟩
   · rw [decide_eq_false hvx, Bool.not_false, Bool.true_and] at hallow
     have hb : (v == x) = false := by simpa using hvx
     have h64 := Lib.hid (OK.out.dep x)
     have k64 := Lib.hid (OK.out.dep v)
     cases hm : d.deps v with
     | none =>
       have HDV : Hid (DepsV d v = ([], false)) := Lib.hid (by unfold DepsV; rw [hm]; rfl)
       rw [hm] at hallow
       have HAL := Lib.hid hallow
       clear hallow hm hdx hvx
       go_enter Tryz.func56, Tryz.ntmps56
       go_wp2_with (first
        | (go_at_call_of 108 (Value.int .i64 x); refine D1.out.mono ?_; rintro e w2 ⟨u, rfl, hr, hE2⟩; have HE2 := Lib.hid hE2; have HRO := Lib.hid hr; have hbx := ((hE2.chg (fun _ => False)).blk HB.out id); have b20 := hbx.cell 0; have b21 := hbx.cell 1; have b22 := hbx.cell 2; clear hE2 hr)
        | (go_at_call 36; refine (HV.out _).mono ?_; rintro e w' ⟨rfl, rfl⟩)
        | (go_at_call_of 108 (Value.int .i64 v); refine (HDP.out v _ (HE.out.trans HE2.out)).mono ?_; rintro e w3 ⟨u3, rfl, hr, hE3⟩; rw [HDV.out]; have HE3 := Lib.hid hE3; clear hE3 hr)
        | (go_at_call 86; refine (Contains_any on v u _ (HRO.out.ext HE3.out)).mono ?_; rintro e w4 ⟨rfl, hE4⟩; rw [← HAL.out]; have HE4 := Lib.hid hE4; clear hE4))
       go_ret
       exact ⟨rfl, ((HE.out.trans HE2.out).trans HE3.out).trans HE4.out⟩
     | some mine =>
       have HDV : Hid (DepsV d v = (mine, true)) := Lib.hid (by unfold DepsV; rw [hm]; rfl)
       have m64 : All64 mine := by have := k64.out.1; rw [HDV.out] at this; exact this
       have o64 : All64 on := by rw [HON.out]; exact h64.out.1
       have M64 := Lib.hid m64
       have O64 := Lib.hid o64
       rw [hm] at hallow
       have HAL := Lib.hid hallow
       clear hallow hm hdx hvx m64 o64
       go_enter Tryz.func56, Tryz.ntmps56
       go_wp2_with (first
        | (go_at_call_of 108 (Value.int .i64 x); refine D1.out.mono ?_; rintro e w2 ⟨u, rfl, hr, hE2⟩; have HE2 := Lib.hid hE2; have HRO := Lib.hid hr; have hbx := ((hE2.chg (fun _ => False)).blk HB.out id); have b20 := hbx.cell 0; have b21 := hbx.cell 1; have b22 := hbx.cell 2; clear hE2 hr)
        | (go_at_call 36; refine (HV.out _).mono ?_; rintro e w' ⟨rfl, rfl⟩)
        | (go_at_call_of 108 (Value.int .i64 v); refine (HDP.out v _ (HE.out.trans HE2.out)).mono ?_; rintro e w3 ⟨u3, rfl, hr, hE3⟩; rw [HDV.out] at hr ⊢; have HE3 := Lib.hid hE3; have HR3 := Lib.hid hr; clear hE3 hr)
        | (go_at_call 109; refine (Sub_any mine on u3 u _ M64.out O64.out HR3.out (HRO.out.ext HE3.out)).mono ?_; rintro e w4 ⟨rfl, hE4⟩; rw [← show Rz = subB mine on from HAL.out]; have HE4 := Lib.hid hE4; clear hE4))
       go_ret
       exact ⟨rfl, ((HE.out.trans HE2.out).trans HE3.out).trans HE4.out⟩
end Go.Proofs.YtjecjaihficcdaaGreat
namespace Go.Proofs.YtjecjaihficcdaaGreat
open Go.RowKit
theorem lhas_any (xs : List Int) (y : Int) (v : Value) (w : World) (hr : RI w v xs) : Calls Tryz.prog 115 #[v, .int .i64 y] w fun e w' => e = .returned (.bool (decide (y ∈ xs))) ∧ Ext w w' := by
 have H := Lib.hid (Contains_any xs y v w hr)
 clear hr
 go_enter Tryz.func115, Tryz.ntmps115
 go_wp2_with (go_at_call 86; refine H.out.mono ?_; rintro e w' ⟨rfl, hE⟩; have HE := Lib.hid hE; clear hE)
 go_ret
 exact ⟨rfl, HE.out⟩
set_option maxRecDepth 100000 in
set_option maxHeartbeats 4000000 in
theorem pair_any (d : DqV) (vu vx vc : Value) (i x y : Int) (w : World) (hd : RD w vu vx vc d) (ok : DOk d) :
 Calls Tryz.prog 58 #[.agg #[vu, vx, vc], .int .i64 i, .int .i64 x, .int .i64 y] w fun e w' => e = .returned (.bool (hasR d i x y)) ∧ Ext w w' := by
 obtain ⟨Rz, hRz⟩ : ∃ Rz, Rz = hasR d i x y := ⟨_, rfl⟩
 rw [← hRz]
 have HR := Lib.hid hRz
 obtain ⟨⟨UA, uc, hue, -⟩, ⟨XA, xc, ons, hxe, -⟩, ⟨CA, cc, us, hce, hc1, hc2, hc3, hc4, hc5⟩⟩ := hd
 subst hue hxe hce
 have HE := Lib.hid (Ext.alloc w (.cells #[.slice UA d.univ.length uc, .slice XA d.exist.length xc, .slice CA us.length cc] 27))
 have HB := Lib.hid (Blk.new w 27 [.slice UA d.univ.length uc, .slice XA d.exist.length xc, .slice CA us.length cc])
 have hcl := ok.cl
 obtain ⟨n, hn⟩ : ∃ n, n = us.length := ⟨_, rfl⟩
 have HN := Lib.hid hn
 have H4 := Lib.hid hc4
 have H5 := Lib.hid hc5
 have H3 := Lib.hid (hc3.ext HE.out)
 have hnl : n ≤ 1000000 := by rw [hn, hc4]; exact hcl
 rw [← hn]
 rw [← hn] at HE H3 HB
 clear hRz hcl hc1 hc2 hc3 hc4 hc5 hn
 by_cases h0 : 0 ≤ i
 · have h0b : decide (0 ≤ i) = true := decide_eq_true h0
   by_cases h1 : i < (n : Int)
   · have h1b : decide (i < (n : Int)) = true := decide_eq_true h1
     obtain ⟨k, hk⟩ : ∃ k : Nat, i = (k : Int) := ⟨i.toNat, by omega⟩
     subst hk
     have hkn : k < us.length := by rw [← HN.out]; omega
     have hkc : k < d.clauses.length := by rw [← H4.out]; exact hkn
     obtain ⟨ad, had, hcell⟩ := H3.out k hkn
     subst had
     have hri := H5.out k hkn hkc
     have hrow : d.row (k : Int).toNat = d.clauses[k] := by unfold DqV.row; rw [Int.toNat_natCast, getD_of _ k hkc]
     obtain ⟨C, hC⟩ : ∃ C, C = d.clauses[k] := ⟨_, rfl⟩
     rw [← hC] at hri hrow
     obtain ⟨KA, kc, hke, -⟩ := hri
     rw [hke] at hcell
     have hri := H5.out k hkn hkc
     rw [hke, ← hC] at hri
     have HRI := Lib.hid hri
     obtain ⟨m, hm⟩ : ∃ m, m = C.length := ⟨_, rfl⟩
     rw [← hm] at hcell HRI
     have HM := Lib.hid hm
     have HRE : Hid (Rz = (decide (m = 2) && decide (x ∈ C) && decide (y ∈ C))) := Lib.hid (by
      rw [HR.out]; unfold hasR
      rw [hrow, decide_eq_true (show (k : Int) < d.clauses.length by omega), decide_eq_true h0, ← hm]; rfl)
     have hkn' : k < n := by omega
     clear hri hke hkn hkc hrow hC hm
     by_cases h2 : m = 2
     · have h2b : ((m : Int) == 2) = true := by simp [h2]
       by_cases hx : x ∈ C
       · have HRF : Hid (Rz = decide (y ∈ C)) := Lib.hid (by rw [HRE.out, decide_eq_true hx, decide_eq_true h2]; rfl)
         have HX := Lib.hid (decide_eq_true hx)
         clear hx
         subst h2
         go_enter Tryz.func58, Tryz.ntmps58
         go_wp2_with (first
          | (go_at_call 115; refine (lhas_any C x _ _ (HRI.out.ext HE.out)).mono ?_; rintro e w2 ⟨rfl, hE⟩; rw [HX.out]; have HE2 := Lib.hid (HE.out.trans hE); have hb2 := ((hE.chg (fun _ => False)).blk HB.out id).cell 2; have hc2 := hE.cell hcell; clear hE)
          | (go_at_call 115; refine (lhas_any C y _ _ (HRI.out.ext HE2.out)).mono ?_; rintro e w3 ⟨rfl, hE⟩; rw [← HRF.out]; have HE3 := Lib.hid (HE2.out.trans hE); clear hE))
         go_ret
         exact ⟨rfl, HE3.out⟩
       · have HRF : Hid (Rz = false) := Lib.hid (by rw [HRE.out, decide_eq_false hx]; simp)
         have HX := Lib.hid (decide_eq_false hx)
         clear hx
         subst h2
         go_enter Tryz.func58, Tryz.ntmps58
         go_wp2_with (go_at_call 115; refine (lhas_any C x _ _ (HRI.out.ext HE.out)).mono ?_; rintro e w2 ⟨rfl, hE⟩; rw [HX.out]; have HE2 := Lib.hid (HE.out.trans hE); clear hE)
         go_ret
         exact ⟨(congrArg (fun b : Bool => Ending.returned (Value.bool b)) HRF.out).symm, HE2.out⟩
     · have h2b : ((m : Int) == 2) = false := by simp; omega
       have HRF : Hid (Rz = false) := Lib.hid (by rw [HRE.out, decide_eq_false h2]; rfl)
       go_enter Tryz.func58, Tryz.ntmps58
       go_wp2
       go_ret
       exact ⟨(congrArg (fun b : Bool => Ending.returned (Value.bool b)) HRF.out).symm, HE.out⟩
   · have h1b : decide (i < (n : Int)) = false := decide_eq_false h1
     have HF : Hid (Rz = false) := Lib.hid (by rw [HR.out]; unfold hasR; rw [decide_eq_false (show ¬ i < d.clauses.length by rw [← H4.out, ← HN.out]; exact h1)]; simp)
     go_enter Tryz.func58, Tryz.ntmps58
     go_wp2
     go_ret
     exact ⟨(congrArg (fun b : Bool => Ending.returned (Value.bool b)) HF.out).symm, HE.out⟩
 · have h0b : decide (0 ≤ i) = false := decide_eq_false h0
   have HF : Hid (Rz = false) := Lib.hid (by rw [HR.out]; unfold hasR; rw [h0b]; rfl)
   go_enter Tryz.func58, Tryz.ntmps58
   go_wp2
   go_ret
   exact ⟨(congrArg (fun b : Bool => Ending.returned (Value.bool b)) HF.out).symm, HE.out⟩
end Go.Proofs.YtjecjaihficcdaaGreat
namespace Go.Proofs.YtjecjaihficcdaaGreat
open Go.RowKit
def cmpI (a b : Int) : Int := if a < b then -1 else if b < a then 1 else 0
set_option maxHeartbeats 400000 in
theorem isNaN_any (a : Int) (w : World) : Calls Tryz.prog 131 #[.int .i64 a] w fun e w' => e = .returned (.bool false) ∧ w = w' := by
 go_enter Tryz.func131, Tryz.ntmps131
 go_wp2
 go_ret
 exact ⟨by simp, rfl⟩
set_option maxHeartbeats 400000 in
theorem cmp_any (a b : Int) (w : World) : Calls Tryz.prog 94 #[.int .i64 a, .int .i64 b] w fun e w' => e = .returned (.int .i64 (cmpI a b)) ∧ w = w' := by
 by_cases h1 : a < b
 · go_enter Tryz.func94, Tryz.ntmps94
   go_wp2_with (go_at_call 131; refine (isNaN_any _ _).mono ?_; rintro e w' ⟨rfl, rfl⟩)
   go_ret
   exact ⟨ret_int (by unfold cmpI; rw [if_pos h1]), rfl⟩
 · by_cases h2 : b < a
   · go_enter Tryz.func94, Tryz.ntmps94
     go_wp2_with (go_at_call 131; refine (isNaN_any _ _).mono ?_; rintro e w' ⟨rfl, rfl⟩)
     go_ret
     exact ⟨ret_int (by unfold cmpI; rw [if_neg (by omega), if_pos h2]), rfl⟩
   · go_enter Tryz.func94, Tryz.ntmps94
     go_wp2_with (go_at_call 131; refine (isNaN_any _ _).mono ?_; rintro e w' ⟨rfl, rfl⟩)
     go_ret
     exact ⟨ret_int (by unfold cmpI; rw [if_neg (by omega), if_neg (by omega)]), rfl⟩
end Go.Proofs.YtjecjaihficcdaaGreat
namespace Go.Proofs.YtjecjaihficcdaaGreat
open Go.RowKit
def sizeA (n : Int) : Int := if n < 0 then IntKind.u64.wrap (-(IntKind.u64.wrap n)) else IntKind.u64.wrap n
theorem sizeA_abs {n : Int} (h : I64 n) : sizeA n = (n.natAbs : Int) := by
 unfold I64 at h
 unfold sizeA
 split
 · simp only [wrapu]; omega
 · simp only [wrapu]; omega
def ordF (x y : Int) : Int := if cmpI (sizeA x) (sizeA y) = 0 then cmpI x y else cmpI (sizeA x) (sizeA y)
set_option maxHeartbeats 400000 in
theorem size_all (n : Int) (w : World) : Calls Tryz.prog 88 #[.int .i64 n] w fun e w' => e = .returned (.int .u64 (sizeA n)) ∧ w = w' := by
 by_cases h : n < 0
 · go_enter Tryz.func88, Tryz.ntmps88
   go_wp2
   go_ret
   exact ⟨ret_int (by unfold sizeA; rw [if_pos h]), rfl⟩
 · go_enter Tryz.func88, Tryz.ntmps88
   go_wp2
   go_ret
   exact ⟨ret_int (by unfold sizeA; rw [if_neg (by omega)]), rfl⟩
set_option maxHeartbeats 400000 in
theorem isNaNu_any (a : Int) (w : World) : Calls Tryz.prog 180 #[.int .u64 a] w fun e w' => e = .returned (.bool false) ∧ w = w' := by
 go_enter Tryz.func180, Tryz.ntmps180
 go_wp2
 go_ret
 exact ⟨by simp, rfl⟩
set_option maxHeartbeats 400000 in
theorem cmpu_any (a b : Int) (w : World) : Calls Tryz.prog 158 #[.int .u64 a, .int .u64 b] w fun e w' => e = .returned (.int .i64 (cmpI a b)) ∧ w = w' := by
 by_cases h1 : a < b
 · go_enter Tryz.func158, Tryz.ntmps158
   go_wp2_with (go_at_call 180; refine (isNaNu_any _ _).mono ?_; rintro e w' ⟨rfl, rfl⟩)
   go_ret
   exact ⟨ret_int (by unfold cmpI; rw [if_pos h1]), rfl⟩
 · by_cases h2 : b < a
   · go_enter Tryz.func158, Tryz.ntmps158
     go_wp2_with (go_at_call 180; refine (isNaNu_any _ _).mono ?_; rintro e w' ⟨rfl, rfl⟩)
     go_ret
     exact ⟨ret_int (by unfold cmpI; rw [if_neg (by omega), if_pos h2]), rfl⟩
   · go_enter Tryz.func158, Tryz.ntmps158
     go_wp2_with (go_at_call 180; refine (isNaNu_any _ _).mono ?_; rintro e w' ⟨rfl, rfl⟩)
     go_ret
     exact ⟨ret_int (by unfold cmpI; rw [if_neg (by omega), if_neg (by omega)]), rfl⟩
set_option maxHeartbeats 400000 in
theorem order1_fn (x y : Int) (w : World) : Calls Tryz.prog 157 #[.int .i64 x, .int .i64 y] w fun e w' => e = .returned (.int .i64 (cmpI (sizeA x) (sizeA y))) ∧ w = w' := by
 go_enter Tryz.func157, Tryz.ntmps157
 go_wp2_with fail
 refine (size_all x _).mono ?_
 rintro e w' ⟨rfl, rfl⟩
 go_wp2_with fail
 refine (size_all y _).mono ?_
 rintro e w' ⟨rfl, rfl⟩
 go_wp2_with (go_at_call 158; refine (cmpu_any _ _ _).mono ?_; rintro e w' ⟨rfl, rfl⟩)
 go_ret
 exact ⟨rfl, rfl⟩
theorem fv_order1 : Fv Tryz.prog 157 := ⟨_, Tryz.func157, by kernel_rfl, by kernel_rfl⟩
theorem fv_cmp : Fv Tryz.prog 94 := ⟨_, Tryz.func94, by kernel_rfl, by kernel_rfl⟩
set_option maxHeartbeats 2000000 in
theorem by_any (x y : Int) (g : Nat) (w : World) (h0 : w.cell? ⟨g, 0, none⟩ = some (.func (.func 157) #[] #[])) (h1 : w.cell? ⟨g, 1, none⟩ = some (.func (.func 94) #[] #[])) :
 Calls Tryz.prog 156 #[.int .i64 x, .int .i64 y, .slice (some ⟨g, 0, none⟩) 2 2] w fun e w' => e = .returned (.int .i64 (ordF x y)) ∧ w = w' := by
 by_cases hc : cmpI (sizeA x) (sizeA y) = 0
 · have HC := Lib.hid hc
   have ho := order1_fn x y w
   rw [hc] at ho
   have HO := Lib.hid ho
   clear ho hc
   go_enter Tryz.func156, Tryz.ntmps156
   go_wp2_with fail
   go_loopg [12] 2 (fun gn i wr => w = wr ∧ ((gn = 2 ∧ i = .int .i64 0) ∨ (gn = 1 ∧ i = .int .i64 1) ∨ (gn = 0 ∧ i = .int .i64 2 ∧ Hid (cmpI x y = 0))))
   case atStart => exact ⟨rfl, .inl ⟨rfl, rfl⟩⟩
   case round =>
    obtain ⟨rfl, ⟨rfl, rfl⟩ | ⟨rfl, rfl⟩ | ⟨rfl, rfl, HZ⟩⟩ := hrel
    · go_wp2_with (refine wpList_callv (.tmp 16) #[.tmp 17, .tmp 18] _ rfl rfl #[] rfl fv_order1 #[.int .i64 x, .int .i64 y] (by simp only [List.map_toArray, List.map_cons, List.map_nil]; rfl) ?_; refine HO.out.mono ?_; rintro e w' ⟨rfl, rfl⟩; refine ⟨_, rfl, ?_⟩)
      go_roundg 1
      case measure => omega
      case rel => exact ⟨rfl, .inr (.inl ⟨rfl, rfl⟩)⟩
    · by_cases hz : cmpI x y = 0
      · have hcm := cmp_any x y w
        rw [hz] at hcm
        have HCM := Lib.hid hcm
        have HZ := Lib.hid hz
        clear hcm hz
        go_wp2_with (refine wpList_callv (.tmp 16) #[.tmp 17, .tmp 18] _ rfl rfl #[] rfl fv_cmp #[.int .i64 x, .int .i64 y] (by simp only [List.map_toArray, List.map_cons, List.map_nil]; rfl) ?_; refine HCM.out.mono ?_; rintro e w' ⟨rfl, rfl⟩; refine ⟨_, rfl, ?_⟩)
        go_roundg 0
        case measure => omega
        case rel => exact ⟨rfl, .inr (.inr ⟨rfl, rfl, HZ⟩)⟩
      · have hzb : (cmpI x y != 0) = true := by simpa using hz
        have HZ := Lib.hid hz
        clear hz
        go_wp2_with (refine wpList_callv (.tmp 16) #[.tmp 17, .tmp 18] _ rfl rfl #[] rfl fv_cmp #[.int .i64 x, .int .i64 y] (by simp only [List.map_toArray, List.map_cons, List.map_nil]; rfl) ?_; refine (cmp_any x y w).mono ?_; rintro e w' ⟨rfl, rfl⟩; refine ⟨_, rfl, ?_⟩)
        go_ret
        exact ⟨ret_int (by unfold ordF; rw [if_pos HC.out]), rfl⟩
    · go_wp2_with fail
      go_ret
      exact ⟨ret_int (by unfold ordF; rw [if_pos HC.out, HZ.out]), rfl⟩
 · have hcb : (cmpI (sizeA x) (sizeA y) != 0) = true := by simpa using hc
   have HC := Lib.hid hc
   have HO := Lib.hid (order1_fn x y w)
   clear hc
   go_enter Tryz.func156, Tryz.ntmps156
   go_wp2_with fail
   go_loopg [12] 0 (fun gn i wr => w = wr ∧ i = .int .i64 0)
   case atStart => exact ⟨rfl, rfl⟩
   case round =>
    obtain ⟨rfl, rfl⟩ := hrel
    go_wp2_with (refine wpList_callv (.tmp 16) #[.tmp 17, .tmp 18] _ rfl rfl #[] rfl fv_order1 #[.int .i64 x, .int .i64 y] (by simp only [List.map_toArray, List.map_cons, List.map_nil]; rfl) ?_; refine HO.out.mono ?_; rintro e w' ⟨rfl, rfl⟩; refine ⟨_, rfl, ?_⟩)
    go_ret
    exact ⟨ret_int (by unfold ordF; rw [if_neg HC.out]), rfl⟩
set_option maxHeartbeats 400000 in
theorem order_any (x y : Int) (w : World) : Calls Tryz.prog 117 #[.int .i64 x, .int .i64 y] w fun e w' => e = .returned (.int .i64 (ordF x y)) ∧ ∃ o, w' = w.alloc o := by
 go_enter Tryz.func117, Tryz.ntmps117
 go_wp2_with fail
 refine (by_any x y w.heap.size _ ?_ ?_).mono ?_
 · exact (Blk.new w 70 [.func (.func 157) #[] #[], .func (.func 94) #[] #[]]).cell 0
 · exact (Blk.new w 70 [.func (.func 157) #[] #[], .func (.func 94) #[] #[]]).cell 1
 rintro e w' ⟨rfl, rfl⟩
 go_wp2
 go_ret
 exact ⟨rfl, _, rfl⟩
end Go.Proofs.YtjecjaihficcdaaGreat
namespace Go.Proofs
open Go.Shelf
def Tryz.laysSlF6_f51_ren : Go.Shelf.Ren := ⟨fun | 6 => 51 | 15 => 101 | 14 => 100 | 28 => 141 | 29 => 142 | 20 => 133 | 21 => 134 | 22 => 135 | 23 => 136 | 24 => 137 | 25 => 138 | 26 => 139 | 27 => 140 | 46 => 172 | 47 => 173 | 48 => 174 | 49 => 175 | 50 => 176 | 57 => 188 | n => n, fun | 22 => 24 | 24 => 3 | 25 => 70 | 3 => 3 | 39 => 118 | 0 => 0 | 53 => 145 | 55 => 51 | 4 => 4 | 46 => 139 | 45 => 138 | 50 => 90 | 5 => 5 | 9 => 9 | 66 => 165 | 70 => 169 | 76 => 181 | 77 => 182 | n => n, fun | n => n⟩
theorem Tryz.laysSlF6_f51 : Go.Proofs.SlLaysF.n6 Tryz.prog Tryz.laysSlF6_f51_ren := {
 mixed := by kernel_rfl
 f6 := ⟨Tryz.f51.name, by decide, Tryz.func51.trans (congrArg some (by kernel_rfl))⟩
 f14 := ⟨Tryz.f100.name, by decide, Tryz.func100.trans (congrArg some (by kernel_rfl))⟩
 f15 := Tryz.func101.trans (congrArg some (by kernel_rfl))
 f20 := ⟨Tryz.f133.name, by decide, Tryz.func133.trans (congrArg some (by kernel_rfl))⟩
 f21 := ⟨Tryz.f134.name, by decide, Tryz.func134.trans (congrArg some (by kernel_rfl))⟩
 f22 := ⟨Tryz.f135.name, by decide, Tryz.func135.trans (congrArg some (by kernel_rfl))⟩
 f23 := ⟨Tryz.f136.name, by decide, Tryz.func136.trans (congrArg some (by kernel_rfl))⟩
 f24 := ⟨Tryz.f137.name, by decide, Tryz.func137.trans (congrArg some (by kernel_rfl))⟩
 f25 := ⟨Tryz.f138.name, by decide, Tryz.func138.trans (congrArg some (by kernel_rfl))⟩
 f26 := ⟨Tryz.f139.name, by decide, Tryz.func139.trans (congrArg some (by kernel_rfl))⟩
 f27 := ⟨Tryz.f140.name, by decide, Tryz.func140.trans (congrArg some (by kernel_rfl))⟩
 f28 := Tryz.func141.trans (congrArg some (by kernel_rfl))
 f29 := Tryz.func142.trans (congrArg some (by kernel_rfl))
 f46 := ⟨Tryz.f172.name, by decide, Tryz.func172.trans (congrArg some (by kernel_rfl))⟩
 f47 := Tryz.func173.trans (congrArg some (by kernel_rfl))
 f48 := Tryz.func174.trans (congrArg some (by kernel_rfl))
 f49 := ⟨Tryz.f175.name, by decide, Tryz.func175.trans (congrArg some (by kernel_rfl))⟩
 f50 := ⟨Tryz.f176.name, by decide, Tryz.func176.trans (congrArg some (by kernel_rfl))⟩
 f57 := ⟨Tryz.f188.name, by decide, Tryz.func188.trans (congrArg some (by kernel_rfl))⟩
 t0 := Tryz.underlying0
 a0 := Tryz.isAgg0
 z0 := Tryz.sizeOf0
 v0 := Tryz.zeroValue0
 t3 := Tryz.underlying3
 a3 := Tryz.isAgg3
 z3 := Tryz.sizeOf3
 v3 := Tryz.zeroValue3
 t4 := Tryz.underlying4
 a4 := Tryz.isAgg4
 z4 := Tryz.sizeOf4
 v4 := Tryz.zeroValue4
 t5 := Tryz.underlying5
 a5 := Tryz.isAgg5
 z5 := Tryz.sizeOf5
 v5 := Tryz.zeroValue5
 t9 := Tryz.underlying9
 a9 := Tryz.isAgg9
 z9 := Tryz.sizeOf9
 v9 := Tryz.zeroValue9
 t22 := Tryz.underlying24
 a22 := Tryz.isAgg24
 z22 := Tryz.sizeOf24
 v22 := Tryz.zeroValue24
 a24 := Tryz.isAgg3
 z24 := Tryz.sizeOf3
 t25 := Tryz.underlying70
 a25 := Tryz.isAgg70
 z25 := Tryz.sizeOf70
 v25 := Tryz.zeroValue70
 t39 := Tryz.underlying118
 a39 := Tryz.isAgg118
 z39 := Tryz.sizeOf118
 v39 := Tryz.zeroValue118
 t45 := Tryz.underlying138
 a45 := Tryz.isAgg138
 z45 := Tryz.sizeOf138
 v45 := Tryz.zeroValue138
 t46 := Tryz.underlying139
 a46 := Tryz.isAgg139
 z46 := Tryz.sizeOf139
 v46 := Tryz.zeroValue139
 t50 := Tryz.underlying90
 a50 := Tryz.isAgg90
 z50 := Tryz.sizeOf90
 v50 := Tryz.zeroValue90
 t53 := Tryz.underlying145
 a53 := Tryz.isAgg145
 z53 := Tryz.sizeOf145
 v53 := Tryz.zeroValue145
 t55 := Tryz.underlying51
 a55 := Tryz.isAgg51
 z55 := Tryz.sizeOf51
 v55 := Tryz.zeroValue51
 t66 := Tryz.underlying165
 a66 := Tryz.isAgg165
 z66 := Tryz.sizeOf165
 v66 := Tryz.zeroValue165
 t70 := Tryz.underlying169
 a70 := Tryz.isAgg169
 z70 := Tryz.sizeOf169
 v70 := Tryz.zeroValue169
 t76 := Tryz.underlying181
 a76 := Tryz.isAgg181
 z76 := Tryz.sizeOf181
 v76 := Tryz.zeroValue181
 t77 := Tryz.underlying182
 a77 := Tryz.isAgg182
 z77 := Tryz.sizeOf182
 v77 := Tryz.zeroValue182 }
def Tryz.laysSlF6_f52_ren : Go.Shelf.Ren := ⟨fun | 6 => 52 | 15 => 101 | 14 => 102 | 28 => 141 | 29 => 142 | 20 => 143 | 21 => 144 | 22 => 145 | 23 => 146 | 24 => 147 | 25 => 148 | 26 => 149 | 27 => 150 | 46 => 177 | 47 => 173 | 48 => 174 | 49 => 178 | 50 => 179 | 57 => 189 | n => n, fun | 22 => 22 | 24 => 24 | 25 => 84 | 3 => 3 | 39 => 118 | 0 => 0 | 53 => 145 | 55 => 51 | 4 => 4 | 46 => 139 | 45 => 138 | 50 => 90 | 5 => 5 | 9 => 9 | 66 => 165 | 70 => 169 | 76 => 181 | 77 => 182 | n => n, fun | n => n⟩
theorem Tryz.laysSlF6_f52 : Go.Proofs.SlLaysF.n6 Tryz.prog Tryz.laysSlF6_f52_ren := {
 mixed := by kernel_rfl
 f6 := ⟨Tryz.f52.name, by decide, Tryz.func52.trans (congrArg some (by kernel_rfl))⟩
 f14 := ⟨Tryz.f102.name, by decide, Tryz.func102.trans (congrArg some (by kernel_rfl))⟩
 f15 := Tryz.func101.trans (congrArg some (by kernel_rfl))
 f20 := ⟨Tryz.f143.name, by decide, Tryz.func143.trans (congrArg some (by kernel_rfl))⟩
 f21 := ⟨Tryz.f144.name, by decide, Tryz.func144.trans (congrArg some (by kernel_rfl))⟩
 f22 := ⟨Tryz.f145.name, by decide, Tryz.func145.trans (congrArg some (by kernel_rfl))⟩
 f23 := ⟨Tryz.f146.name, by decide, Tryz.func146.trans (congrArg some (by kernel_rfl))⟩
 f24 := ⟨Tryz.f147.name, by decide, Tryz.func147.trans (congrArg some (by kernel_rfl))⟩
 f25 := ⟨Tryz.f148.name, by decide, Tryz.func148.trans (congrArg some (by kernel_rfl))⟩
 f26 := ⟨Tryz.f149.name, by decide, Tryz.func149.trans (congrArg some (by kernel_rfl))⟩
 f27 := ⟨Tryz.f150.name, by decide, Tryz.func150.trans (congrArg some (by kernel_rfl))⟩
 f28 := Tryz.func141.trans (congrArg some (by kernel_rfl))
 f29 := Tryz.func142.trans (congrArg some (by kernel_rfl))
 f46 := ⟨Tryz.f177.name, by decide, Tryz.func177.trans (congrArg some (by kernel_rfl))⟩
 f47 := Tryz.func173.trans (congrArg some (by kernel_rfl))
 f48 := Tryz.func174.trans (congrArg some (by kernel_rfl))
 f49 := ⟨Tryz.f178.name, by decide, Tryz.func178.trans (congrArg some (by kernel_rfl))⟩
 f50 := ⟨Tryz.f179.name, by decide, Tryz.func179.trans (congrArg some (by kernel_rfl))⟩
 f57 := ⟨Tryz.f189.name, by decide, Tryz.func189.trans (congrArg some (by kernel_rfl))⟩
 t0 := Tryz.underlying0
 a0 := Tryz.isAgg0
 z0 := Tryz.sizeOf0
 v0 := Tryz.zeroValue0
 t3 := Tryz.underlying3
 a3 := Tryz.isAgg3
 z3 := Tryz.sizeOf3
 v3 := Tryz.zeroValue3
 t4 := Tryz.underlying4
 a4 := Tryz.isAgg4
 z4 := Tryz.sizeOf4
 v4 := Tryz.zeroValue4
 t5 := Tryz.underlying5
 a5 := Tryz.isAgg5
 z5 := Tryz.sizeOf5
 v5 := Tryz.zeroValue5
 t9 := Tryz.underlying9
 a9 := Tryz.isAgg9
 z9 := Tryz.sizeOf9
 v9 := Tryz.zeroValue9
 t22 := Tryz.underlying22
 a22 := Tryz.isAgg22
 z22 := Tryz.sizeOf22
 v22 := Tryz.zeroValue22
 a24 := Tryz.isAgg24
 z24 := Tryz.sizeOf24
 t25 := Tryz.underlying84
 a25 := Tryz.isAgg84
 z25 := Tryz.sizeOf84
 v25 := Tryz.zeroValue84
 t39 := Tryz.underlying118
 a39 := Tryz.isAgg118
 z39 := Tryz.sizeOf118
 v39 := Tryz.zeroValue118
 t45 := Tryz.underlying138
 a45 := Tryz.isAgg138
 z45 := Tryz.sizeOf138
 v45 := Tryz.zeroValue138
 t46 := Tryz.underlying139
 a46 := Tryz.isAgg139
 z46 := Tryz.sizeOf139
 v46 := Tryz.zeroValue139
 t50 := Tryz.underlying90
 a50 := Tryz.isAgg90
 z50 := Tryz.sizeOf90
 v50 := Tryz.zeroValue90
 t53 := Tryz.underlying145
 a53 := Tryz.isAgg145
 z53 := Tryz.sizeOf145
 v53 := Tryz.zeroValue145
 t55 := Tryz.underlying51
 a55 := Tryz.isAgg51
 z55 := Tryz.sizeOf51
 v55 := Tryz.zeroValue51
 t66 := Tryz.underlying165
 a66 := Tryz.isAgg165
 z66 := Tryz.sizeOf165
 v66 := Tryz.zeroValue165
 t70 := Tryz.underlying169
 a70 := Tryz.isAgg169
 z70 := Tryz.sizeOf169
 v70 := Tryz.zeroValue169
 t76 := Tryz.underlying181
 a76 := Tryz.isAgg181
 z76 := Tryz.sizeOf181
 v76 := Tryz.zeroValue181
 t77 := Tryz.underlying182
 a77 := Tryz.isAgg182
 z77 := Tryz.sizeOf182
 v77 := Tryz.zeroValue182 }
open Go.RowKit Go.Lib Go.Sort in
theorem Tryz.slices_SortFunc_f51 {α : Type} [Inhabited α] (enc : α → Value) (h1 : OneCell enc) (cf : α → α → Int) (hO : SWO (ltOf cf)) (g : Nat) (cb : Array Value) (blk off cap : Nat) (d : Array α) (w : World) (eg : ∀ args w, (callFunc g args).run Tryz.prog w = .ok (.enter g args) w) (hcmp : CmpLays1 Tryz.prog g cb enc cf blk off d.size w) (hH : Holds enc w blk off d) (hblk : blk < w.heap.size) (hsz : d.size < 4611686018427387904) :
 Calls Tryz.prog 51 #[.slice (some ⟨blk, off, none⟩) d.size cap, .func (.func g) #[] cb] w fun e w' =>
  e = .returned (.tuple #[]) ∧ ∃ d' n os, PermIn 0 d.size d d' ∧ SortedIn (ltOf cf) 0 d.size d' ∧ w' = sortWorld enc w blk off n d' os := Any.slices_SortFunc Tryz.laysSlF6_f51 enc h1 cf hO g cb blk off cap d w eg hcmp hH hblk hsz
open Go.RowKit Go.Lib Go.Sort in
theorem Tryz.slices_SortFunc_f52 {α : Type} [Inhabited α] (enc : α → Value) (h1 : OneCell enc) (cf : α → α → Int) (hO : SWO (ltOf cf)) (g : Nat) (cb : Array Value) (blk off cap : Nat) (d : Array α) (w : World) (eg : ∀ args w, (callFunc g args).run Tryz.prog w = .ok (.enter g args) w) (hcmp : CmpLays1 Tryz.prog g cb enc cf blk off d.size w) (hH : Holds enc w blk off d) (hblk : blk < w.heap.size) (hsz : d.size < 4611686018427387904) :
 Calls Tryz.prog 52 #[.slice (some ⟨blk, off, none⟩) d.size cap, .func (.func g) #[] cb] w fun e w' =>
  e = .returned (.tuple #[]) ∧ ∃ d' n os, PermIn 0 d.size d d' ∧ SortedIn (ltOf cf) 0 d.size d' ∧ w' = sortWorld enc w blk off n d' os := Any.slices_SortFunc Tryz.laysSlF6_f52 enc h1 cf hO g cb blk off cap d w eg hcmp hH hblk hsz
end Go.Proofs
namespace Go.Proofs
open Go.Shelf
def Tryz.lays189_ren : Go.Shelf.Ren := ⟨fun | 189 => 73 | 125 => 101 | 257 => 123 | 128 => 141 | 129 => 142 | 294 => 163 | 295 => 164 | 296 => 165 | 297 => 166 | 298 => 167 | 299 => 168 | 216 => 169 | 300 => 170 | 301 => 171 | 328 => 185 | 329 => 173 | 330 => 174 | 331 => 186 | 332 => 187 | 215 => 131 | 343 => 190 | n => n, fun | 28 => 24 | 3 => 3 | 46 => 118 | 0 => 0 | 51 => 145 | 53 => 51 | 4 => 4 | 183 => 139 | 182 => 138 | 131 => 90 | 5 => 5 | 9 => 9 | 218 => 165 | 222 => 169 | 228 => 181 | 229 => 182 | n => n, fun | n => n⟩
theorem Tryz.lays189 : Go.Proofs.Lays.n189 Tryz.prog Tryz.lays189_ren := {
 mixed := by kernel_rfl
 f125 := Tryz.func101.trans (congrArg some (by kernel_rfl))
 f128 := Tryz.func141.trans (congrArg some (by kernel_rfl))
 f129 := Tryz.func142.trans (congrArg some (by kernel_rfl))
 f189 := Tryz.func73.trans (congrArg some (by kernel_rfl))
 f215 := Tryz.func131.trans (congrArg some (by kernel_rfl))
 f216 := Tryz.func169.trans (congrArg some (by kernel_rfl))
 f257 := Tryz.func123.trans (congrArg some (by kernel_rfl))
 f294 := Tryz.func163.trans (congrArg some (by kernel_rfl))
 f295 := Tryz.func164.trans (congrArg some (by kernel_rfl))
 f296 := Tryz.func165.trans (congrArg some (by kernel_rfl))
 f297 := Tryz.func166.trans (congrArg some (by kernel_rfl))
 f298 := Tryz.func167.trans (congrArg some (by kernel_rfl))
 f299 := Tryz.func168.trans (congrArg some (by kernel_rfl))
 f300 := Tryz.func170.trans (congrArg some (by kernel_rfl))
 f301 := Tryz.func171.trans (congrArg some (by kernel_rfl))
 f328 := Tryz.func185.trans (congrArg some (by kernel_rfl))
 f329 := Tryz.func173.trans (congrArg some (by kernel_rfl))
 f330 := Tryz.func174.trans (congrArg some (by kernel_rfl))
 f331 := Tryz.func186.trans (congrArg some (by kernel_rfl))
 f332 := Tryz.func187.trans (congrArg some (by kernel_rfl))
 f343 := Tryz.func190.trans (congrArg some (by kernel_rfl))
 t0 := Tryz.underlying0
 a0 := Tryz.isAgg0
 z0 := Tryz.sizeOf0
 v0 := Tryz.zeroValue0
 t3 := Tryz.underlying3
 a3 := Tryz.isAgg3
 z3 := Tryz.sizeOf3
 v3 := Tryz.zeroValue3
 t4 := Tryz.underlying4
 a4 := Tryz.isAgg4
 z4 := Tryz.sizeOf4
 v4 := Tryz.zeroValue4
 t5 := Tryz.underlying5
 a5 := Tryz.isAgg5
 z5 := Tryz.sizeOf5
 v5 := Tryz.zeroValue5
 t9 := Tryz.underlying9
 a9 := Tryz.isAgg9
 z9 := Tryz.sizeOf9
 v9 := Tryz.zeroValue9
 t28 := Tryz.underlying24
 a28 := Tryz.isAgg24
 z28 := Tryz.sizeOf24
 v28 := Tryz.zeroValue24
 t46 := Tryz.underlying118
 a46 := Tryz.isAgg118
 z46 := Tryz.sizeOf118
 v46 := Tryz.zeroValue118
 t51 := Tryz.underlying145
 a51 := Tryz.isAgg145
 z51 := Tryz.sizeOf145
 v51 := Tryz.zeroValue145
 t53 := Tryz.underlying51
 a53 := Tryz.isAgg51
 z53 := Tryz.sizeOf51
 v53 := Tryz.zeroValue51
 t131 := Tryz.underlying90
 a131 := Tryz.isAgg90
 z131 := Tryz.sizeOf90
 v131 := Tryz.zeroValue90
 t182 := Tryz.underlying138
 a182 := Tryz.isAgg138
 z182 := Tryz.sizeOf138
 v182 := Tryz.zeroValue138
 t183 := Tryz.underlying139
 a183 := Tryz.isAgg139
 z183 := Tryz.sizeOf139
 v183 := Tryz.zeroValue139
 t218 := Tryz.underlying165
 a218 := Tryz.isAgg165
 z218 := Tryz.sizeOf165
 v218 := Tryz.zeroValue165
 t222 := Tryz.underlying169
 a222 := Tryz.isAgg169
 z222 := Tryz.sizeOf169
 v222 := Tryz.zeroValue169
 t228 := Tryz.underlying181
 a228 := Tryz.isAgg181
 z228 := Tryz.sizeOf181
 v228 := Tryz.zeroValue181
 t229 := Tryz.underlying182
 a229 := Tryz.isAgg182
 z229 := Tryz.sizeOf182
 v229 := Tryz.zeroValue182 }
open Go.Sort Go.RowKit in
theorem Tryz.slices_Sort_int (blk off cap : Nat) (zs : List Int) (w : World) (hH : Holds (Value.int .i64) w blk off zs.toArray) (hblk : blk < w.heap.size) (hsz : zs.length < 4611686018427387904) :
 Calls Tryz.prog 73 #[.slice (some ⟨blk, off, none⟩) zs.length cap] w fun e w' =>
  e = .returned (.tuple #[]) ∧ ∃ n os, w' = grow (putRow (Value.int .i64) (Sort.ahead w n) blk off (zs.mergeSort fun x y => decide (x ≤ y)).toArray) os := Any.slices_Sort_int Tryz.lays189 blk off cap zs w hH hblk hsz
def Tryz.laysNm220_ren : Go.Shelf.Ren := ⟨fun | 20 => 74 | n => n, fun | 22 => 24 | 3 => 3 | 4 => 4 | 0 => 0 | n => n, fun | n => n⟩
theorem Tryz.laysNm220 : Go.Proofs.Lays2.n20 Tryz.prog Tryz.laysNm220_ren := {
 mixed := by kernel_rfl
 f20 := Tryz.func74.trans (congrArg some (by kernel_rfl))
 t0 := Tryz.underlying0
 a0 := Tryz.isAgg0
 z0 := Tryz.sizeOf0
 v0 := Tryz.zeroValue0
 t3 := Tryz.underlying3
 a3 := Tryz.isAgg3
 z3 := Tryz.sizeOf3
 v3 := Tryz.zeroValue3
 t4 := Tryz.underlying4
 a4 := Tryz.isAgg4
 z4 := Tryz.sizeOf4
 v4 := Tryz.zeroValue4
 t22 := Tryz.underlying24
 a22 := Tryz.isAgg24
 z22 := Tryz.sizeOf24
 v22 := Tryz.zeroValue24
 i3 := by kernel_rfl }
open Go.RowKit Go.Lib Go.Sort in
theorem Tryz.slices_Compact_int (blk off cap : Nat) (zs : List Int) (w : World) (hH : Holds (Value.int .i64) w blk off zs.toArray) (hsz : zs.length ≤ 9223372036854775807) (hcap : zs.length ≤ cap) :
 Calls Tryz.prog 74 #[.slice (some ⟨blk, off, none⟩) zs.length cap] w fun e w' => e = .returned (.slice (some ⟨blk, off, none⟩) (Lib.compact zs).length cap) ∧ ∃ q, w' = putRow (Value.int .i64) (Sort.ahead w q) blk off (Lib.compact zs ++ List.replicate (zs.length - (Lib.compact zs).length) 0).toArray := Any.slices_Compact_int Tryz.laysNm220 blk off cap zs w hH hsz hcap
open Go.RowKit Go.Lib Go.Sort in
theorem Tryz.slices_Compact_int_empty (a : Option Addr) (cap : Nat) (w : World) :
 Calls Tryz.prog 74 #[.slice a 0 cap] w fun e w' => e = .returned (.slice a 0 cap) ∧ w' = w := Any.slices_Compact_int_empty Tryz.laysNm220 a cap w
open Go.RowKit Go.Sort in
theorem Tryz.slices_Sort_int_none (p : Option Addr) (cap : Nat) (w : World) :
 Calls Tryz.prog 73 #[.slice p 0 cap] w fun e w' => e = .returned (.tuple #[]) ∧ w' = w := Any.slices_Sort_int_none Tryz.lays189 p cap w
end Go.Proofs
namespace Go.Proofs.YtjecjaihficcdaaGreat
theorem compact_upto {lt : Int → Int → Prop} (tri : ∀ a b, lt a b ∨ a = b ∨ lt b a) (trans : ∀ a b c, lt a b → lt b c → lt a c) (zs : List Int) (hs : zs.Pairwise fun a b => ¬ lt b a) :
 ∀ m, m ≤ zs.length → (Lib.compactUpTo zs.toArray m).Pairwise lt ∧ (∀ x, x ∈ Lib.compactUpTo zs.toArray m ↔ x ∈ zs.take m) ∧ ∀ h : 0 < m, ∀ hm : m - 1 < zs.length, ∀ x ∈ Lib.compactUpTo zs.toArray m, x = zs[m - 1] ∨ lt x zs[m - 1]
 | 0, _ => ⟨by simp [Lib.compactUpTo], fun x => by simp [Lib.compactUpTo], fun h => absurd h (Nat.lt_irrefl _)⟩
 | m + 1, hm => by
   obtain ⟨h1, h2, h3⟩ := compact_upto tri trans zs hs m (by omega)
   have hml : m < zs.length := by omega
   have hg : ∀ j (hj : j < zs.length), zs.toArray[j]! = zs[j] := fun j hj => by simp [getElem!_pos, hj]
   rw [Lib.compactUpTo_succ]
   have hlast : ∀ x ∈ Lib.compactUpTo zs.toArray m, x = zs[m] ∨ lt x zs[m] := fun x hx => by
    rcases Nat.eq_zero_or_pos m with h0 | h0
    · subst h0; simp [Lib.compactUpTo] at hx
    · have hm1 : m - 1 < zs.length := by omega
      have hle : ¬ lt zs[m] zs[m - 1] := List.pairwise_iff_getElem.1 hs (m - 1) m hm1 hml (by omega)
      have hle' : zs[m - 1] = zs[m] ∨ lt zs[m - 1] zs[m] := by
       rcases tri zs[m - 1] zs[m] with h | h | h
       · exact .inr h
       · exact .inl h
       · exact absurd h hle
      rcases h3 h0 hm1 x hx with rfl | h4
      · exact hle'
      · rcases hle' with h5 | h5
        · rw [← h5]; exact .inr h4
        · exact .inr (trans _ _ _ h4 h5)
   by_cases hk : Lib.keeps zs.toArray m = true
   · rw [if_pos hk, hg m hml]
     have hne : ∀ x ∈ Lib.compactUpTo zs.toArray m, lt x zs[m] := fun x hx => by
      rcases hlast x hx with rfl | h
      · unfold Lib.keeps at hk
        rw [decide_eq_true_eq] at hk
        rcases hk with h0 | h0
        · subst h0; simp [Lib.compactUpTo] at hx
        · rcases Nat.eq_zero_or_pos m with hz | hz
          · subst hz; simp [Lib.compactUpTo] at hx
          · have hm1 : m - 1 < zs.length := by omega
            rw [hg m hml, hg (m - 1) hm1] at h0
            have hle : ¬ lt zs[m] zs[m - 1] := List.pairwise_iff_getElem.1 hs (m - 1) m hm1 hml (by omega)
            rcases h3 hz hm1 _ hx with h6 | h6
            · exact absurd h6 h0
            · exact absurd h6 hle
      · exact h
     refine ⟨List.pairwise_append.2 ⟨h1, by simp, fun x hx y hy => ?_⟩, fun x => ?_, fun _ _ x hx => ?_⟩
     · rw [List.mem_singleton.1 hy]; exact hne x hx
     · rw [List.mem_append, h2, List.take_succ_eq_append_getElem hml, List.mem_append]
     · simp only [Nat.add_sub_cancel]
       rcases List.mem_append.1 hx with h | h
       · exact .inr (hne x h)
       · exact .inl (List.mem_singleton.1 h)
   · rw [if_neg hk, List.append_nil]
     have hk' : m ≠ 0 ∧ zs.toArray[m]! = zs.toArray[m - 1]! := by
      unfold Lib.keeps at hk
      rw [decide_eq_true_eq, not_or, Classical.not_not] at hk
      exact hk
     have hm1 : m - 1 < zs.length := by omega
     rw [hg m hml, hg (m - 1) hm1] at hk'
     refine ⟨h1, fun x => ?_, fun _ _ x hx => ?_⟩
     · rw [h2, List.take_succ_eq_append_getElem hml, List.mem_append, List.mem_singleton]
       constructor
       · exact .inl
       · rintro (h | rfl)
         · exact h
         · rw [hk'.2, List.mem_take_iff_getElem]
           exact ⟨m - 1, by omega, rfl⟩
     · simp only [Nat.add_sub_cancel]
       exact hlast x hx
theorem compact_strict {lt : Int → Int → Prop} (tri : ∀ a b, lt a b ∨ a = b ∨ lt b a) (trans : ∀ a b c, lt a b → lt b c → lt a c) (zs : List Int) (hs : zs.Pairwise fun a b => ¬ lt b a) :
 (Lib.compact zs).Pairwise lt ∧ ∀ x, x ∈ Lib.compact zs ↔ x ∈ zs := by
 obtain ⟨h1, h2, _⟩ := compact_upto tri trans zs hs zs.length (Nat.le_refl _)
 exact ⟨h1, fun x => by rw [show Lib.compact zs = Lib.compactUpTo zs.toArray zs.length from rfl, h2, List.take_length]⟩
theorem mergeSort_sorted (xs : List Int) : (xs.mergeSort fun x y => decide (x ≤ y)).Pairwise (fun a b => ¬ b < a) :=
 (List.pairwise_mergeSort (le := fun x y => decide (x ≤ y)) (fun a b c h1 h2 => by simp at *; omega) (fun a b => by simp; omega) xs).imp fun h => by simp at h; omega
theorem mem_mergeSort' (xs : List Int) (x : Int) : x ∈ (xs.mergeSort fun x y => decide (x ≤ y)) ↔ x ∈ xs := List.mem_mergeSort
def sortC (xs : List Int) : List Int := Lib.compact (xs.mergeSort fun x y => decide (x ≤ y))
theorem sortC_spec (xs : List Int) : (sortC xs).Pairwise (fun a b : Int => a < b) ∧ ∀ x, x ∈ sortC xs ↔ x ∈ xs := by
 obtain ⟨h1, h2⟩ := compact_strict (lt := fun a b : Int => a < b) (fun a b => by omega) (fun a b c h k => by omega) _ (mergeSort_sorted xs)
 exact ⟨h1, fun x => by rw [sortC, h2, mem_mergeSort']⟩
end Go.Proofs.YtjecjaihficcdaaGreat
namespace Go.Proofs.YtjecjaihficcdaaGreat
def markB (f : List (List Int)) (v : Nat) : Bool := f.any fun c => c.any fun x => varOf x == (v : Int)
def varsTo (f : List (List Int)) (n : Nat) : List Int := ((List.range n).filter fun v => decide (1 ≤ v) && markB f v).map Int.ofNat
def VarsV (f : List (List Int)) : List Int := varsTo f 65537
theorem varsTo_sorted (f : List (List Int)) (n : Nat) : (varsTo f n).Pairwise (· < ·) := by
 unfold varsTo
 rw [List.pairwise_map]
 refine List.Pairwise.filter _ ?_
 refine List.Pairwise.imp (fun h => ?_) List.pairwise_lt_range
 exact Int.ofNat_lt.2 h
theorem mem_VarsV (f : List (List Int)) (y : Int) : y ∈ VarsV f ↔ 0 < y ∧ ∃ c ∈ f, ∃ x ∈ c, varOf x = y := by
 unfold VarsV varsTo
 rw [List.mem_map]
 constructor
 · rintro ⟨v, hv, rfl⟩
   rw [List.mem_filter, Bool.and_eq_true, decide_eq_true_eq] at hv
   refine ⟨by have := hv.2.1; simp; omega, ?_⟩
   have := hv.2.2
   unfold markB at this
   rw [List.any_eq_true] at this
   obtain ⟨c, hc, hx⟩ := this
   rw [List.any_eq_true] at hx
   obtain ⟨x, hx, he⟩ := hx
   exact ⟨c, hc, x, hx, by simpa using he⟩
 · rintro ⟨h0, c, hc, x, hx, he⟩
   have hr := varOf_range x
   refine ⟨y.toNat, ?_, by simp; omega⟩
   rw [List.mem_filter, Bool.and_eq_true, decide_eq_true_eq]
   refine ⟨by simp; omega, by omega, ?_⟩
   unfold markB
   rw [List.any_eq_true]
   exact ⟨c, hc, by rw [List.any_eq_true]; exact ⟨x, hx, by simp; omega⟩⟩
theorem asc_vars {xs : List Int} (h : Asc xs) : (xs.map varOf).Pairwise (· < ·) := by
 rw [List.pairwise_map]; exact h.1
end Go.Proofs.YtjecjaihficcdaaGreat
namespace Go.Proofs.YtjecjaihficcdaaGreat
open Go.RowKit
theorem grow_none (w : World) : Sort.grow w #[] = w := by simp [Sort.grow]
theorem Sort_own (xs : List Int) (v : Value) (base : Nat) (w : World) (h : OwnI w base v xs) (hl : xs.length ≤ 100000000) :
 Calls Tryz.prog 73 #[v] w fun e w' => e = .returned (.tuple #[]) ∧ OwnI w' base v (xs.mergeSort fun x y => decide (x ≤ y)) ∧ w.grownBy w' v.ownBlock := by
 have hlen : (xs.mergeSort fun x y => decide (x ≤ y)).length = xs.length := List.length_mergeSort _
 unfold OwnI at h ⊢
 rw [hlen]
 obtain ⟨-, ⟨rfl, h0⟩ | ⟨g, cap, cur, rfl, hb, hg, hn, hm, hs, ht⟩⟩ := h
 · have : xs = [] := List.length_eq_zero_iff.1 h0
   subst this
   refine (Tryz.slices_Sort_int_none none 0 w).mono ?_
   rintro e w' ⟨rfl, rfl⟩
   exact ⟨rfl, by simp [World.ownsRow_nil], ⟨rfl, rfl, rfl, Nat.le_refl _, fun _ _ _ => rfl⟩⟩
 · refine (Tryz.slices_Sort_int g 0 cap xs w (holds_of_blockI hg (by rw [Nat.mul_one] at ht; exact ht)) (Array.getElem?_eq_some_iff.1 hg).1 (by omega)).mono ?_
   rintro e w' ⟨rfl, n, os, rfl⟩
   exact ⟨rfl, ownsRow_sortedI (ss := xs) hlen hb hg hn hm hs, grownBy_sortedI _⟩
theorem own_shorter {w : World} {base : Nat} {e : TypeId} {A : Option Addr} {n m c : Nat} {xs : List Value} (h : w.ownsRow base e 1 (.slice A n c) n xs) (hm : m ≤ n) (hA : A = none → c = 0) : w.ownsRow base e 1 (.slice A m c) m (xs.take m) := by
 obtain ⟨h0, ⟨he, h1⟩ | ⟨g, cap, cur, he, hb, hg, hn, hmx, hs, ht⟩⟩ := h
 · injection he with e1 e2 e3
   subst e1 e2 e3
   have : m = 0 := by omega
   subst this
   exact ⟨by simp, .inl ⟨rfl, rfl⟩⟩
 · injection he with e1 _ e3
   subst e1 e3
   refine ⟨by rw [List.length_take]; omega, .inr ⟨g, c, cur, rfl, hb, hg, by omega, hmx, hs, ?_⟩⟩
   rw [← ht, List.take_take]
   congr 1
   omega
theorem Compact_own (xs : List Int) (v : Value) (base : Nat) (w : World) (h : OwnI w base v xs) (hl : xs.length ≤ 100000000) :
 Calls Tryz.prog 74 #[v] w fun e w' => ∃ v', e = .returned v' ∧ OwnI w' base v' (Lib.compact xs) ∧ w.grownBy w' v.ownBlock ∧ v'.ownBlock = v.ownBlock := by
 have hle := Lib.compact_length_le xs
 unfold OwnI at h ⊢
 obtain ⟨-, ⟨rfl, h0⟩ | ⟨g, cap, cur, rfl, hb, hg, hn, hm, hs, ht⟩⟩ := h
 · have : xs = [] := List.length_eq_zero_iff.1 h0
   subst this
   refine (Tryz.slices_Compact_int_empty none 0 w).mono ?_
   rintro e w' ⟨rfl, rfl⟩
   exact ⟨_, rfl, World.ownsRow_nil _ _ _ 1, ⟨rfl, rfl, rfl, Nat.le_refl _, fun _ _ _ => rfl⟩, rfl⟩
 · have hmx : cap ≤ 9223372036854775807 := by unfold maxLen at hm; exact hm
   refine (Tryz.slices_Compact_int g 0 cap xs w (holds_of_blockI hg (by rw [Nat.mul_one] at ht; exact ht)) (by omega) hn).mono ?_
   rintro e w' ⟨rfl, q, rfl⟩
   have hl2 : (Lib.compact xs ++ List.replicate (xs.length - (Lib.compact xs).length) 0).length = xs.length := by simp; omega
   have h1 := ownsRow_sortedI (n := q) (os := #[]) (ts := Lib.compact xs ++ List.replicate (xs.length - (Lib.compact xs).length) 0) (ss := xs) hl2 hb hg hn hm hs
   rw [grow_none] at h1
   have h2 := own_shorter h1 hle (fun h => by cases h)
   rw [List.map_append, List.take_append_of_le_length (by simp), List.take_of_length_le (by simp)] at h2
   have h3 := grownBy_sortedI (w := w) (g := g) (n := q) (os := #[]) (Lib.compact xs ++ List.replicate (xs.length - (Lib.compact xs).length) 0).toArray
   rw [grow_none] at h3
   exact ⟨_, rfl, h2, h3, rfl⟩
def varsOf (c : List Int) : List Int := (c.map varOf).filter fun v => decide (0 < v)
def varsAll (f : List (List Int)) : List Int := f.flatMap varsOf
theorem varsOf_len (c : List Int) : (varsOf c).length ≤ c.length := by
 unfold varsOf
 exact Nat.le_trans (List.length_filter_le _ _) (by simp)
theorem varsAll_len (f : List (List Int)) : (varsAll f).length ≤ total f := by
 unfold varsAll total lens
 rw [List.take_length]
 induction f with
 | nil => simp
 | cons c f ih =>
   rw [List.flatMap_cons, List.length_append, List.map_cons, List.sum_cons]
   have := varsOf_len c
   omega
theorem varsAll_succ (f : List (List Int)) (k : Nat) (hk : k < f.length) : varsAll (f.take (k + 1)) = varsAll (f.take k) ++ varsOf f[k] := by
 unfold varsAll
 rw [List.take_succ_eq_append_getElem hk, List.flatMap_append]; simp
theorem varsOf_succ (c : List Int) (m : Nat) (hm : m < c.length) : varsOf (c.take (m + 1)) = varsOf (c.take m) ++ if 0 < varOf c[m] then [varOf c[m]] else [] := by
 unfold varsOf
 rw [List.take_succ_eq_append_getElem hm, List.map_append, List.filter_append]
 by_cases h : 0 < varOf c[m] <;> simp [h]
theorem sortC_vars (f : List (List Int)) : sortC (varsAll f) = VarsV f := by
 obtain ⟨h1, h2⟩ := sortC_spec (varsAll f)
 refine sorted_ext (r := fun a b : Int => a < b) (fun a b h k => by omega) h1 (varsTo_sorted _ _) fun y => ?_
 rw [h2, mem_VarsV]
 unfold varsAll varsOf
 simp only [List.mem_flatMap, List.mem_filter, List.mem_map, decide_eq_true_eq]
 constructor
 · rintro ⟨c, hc, ⟨x, hx, he⟩, h0⟩
   exact ⟨h0, c, hc, x, hx, he⟩
 · rintro ⟨h0, c, hc, x, hx, he⟩
   exact ⟨c, hc, ⟨x, hx, he⟩, h0⟩
def PostVars' (w : World) (r : List Int) (e : Ending) (w' : World) : Prop := ∃ v', e = .returned v' ∧ OwnI w' w.heap.size v' r ∧ Ext w w'
set_option maxRecDepth 100000 in
set_option maxHeartbeats 4000000 in
theorem Vars_any (f : List (List Int)) (u : Value) (w : World) (h64 : All64L f) (kr : RLL w u f) (ht : total f ≤ 1000000) : Calls Tryz.prog 28 #[u] w (PostVars' w (VarsV f)) := by
 obtain ⟨A, c, vs, rfl, h1, h2, h3, h4, h5⟩ := kr
 have H4 := Lib.hid h4
 have H5 := Lib.hid h5
 have H3 := Lib.hid h3
 have HT := Lib.hid ht
 clear h4 h5 h3 ht
 go_enter Tryz.func28, Tryz.ntmps28
 go_wp2_with fail
 go_loopg [3, 11] vs.length (fun gn o i wr => ∃ k : Nat, k ≤ vs.length ∧ gn + k = vs.length ∧ i = .int .i64 k ∧ Hid (OwnI wr w.heap.size o (varsAll (f.take k)) ∧ Ext w wr))
 case atStart => exact ⟨0, Nat.zero_le _, by omega, rfl, OwnI.nil _ _, Ext.refl _⟩
 case round =>
  obtain ⟨k, hk, hgk, rfl, HS⟩ := hrel
  by_cases hlt : k < vs.length
  · have hkf : k < f.length := by rw [← H4.out]; exact hlt
    obtain ⟨w1, rfl⟩ : ∃ w1 : World, w1 = wr := ⟨_, rfl⟩
    obtain ⟨E, ce, he, he1, he2, he3⟩ := H5.out k hlt hkf
    obtain ⟨L, hL⟩ : ∃ L, L = f[k].length := ⟨_, rfl⟩
    rw [← hL] at he he1 he2
    have HE3 := Lib.hid he3
    have HL := Lib.hid hL
    have hk64 := h64 _ (List.getElem_mem hkf)
    obtain ⟨ad, rfl, hrow⟩ := (H3.out.ext HS.out.2) k hlt
    rw [he] at hrow
    have hbd : (varsAll (f.take k)).length + L ≤ 1000000 := by
     have := lens_succ f k hkf
     have := lens_le f (k + 1)
     have h9 := varsAll_len (f.take k)
     have h10 : total (f.take k) = lens f k := by unfold total lens; rw [List.take_length]
     have := HT.out
     omega
    clear he3 he hL
    go_wp2_with fail
    go_loopg [3, 17] L (fun gn o j wr => ∃ m : Nat, m ≤ L ∧ gn + m = L ∧ j = .int .i64 m ∧ Hid (OwnI wr w.heap.size o (varsAll (f.take k) ++ varsOf (f[k].take m)) ∧ Ext w wr))
    case atStart => exact ⟨0, Nat.zero_le _, by omega, rfl, by simpa [varsOf] using HS.out.1, HS.out.2⟩
    case round =>
     obtain ⟨m, hm, hgm, rfl, HS2⟩ := hrel
     by_cases hml : m < L
     · have hmf : m < f[k].length := by rw [← HL.out]; exact hml
       obtain ⟨bd, rfl, hy⟩ := (HE3.out.ext HS2.out.2).int m hmf
       have hx := hk64 _ (List.getElem_mem hmf)
       have hvs := varsOf_succ f[k] m hmf
       have hvl : (varsAll (f.take k) ++ varsOf (f[k].take m)).length ≤ 10000000 := by
        rw [List.length_append]
        have := varsOf_len (f[k].take m)
        rw [List.length_take] at this
        omega
       obtain ⟨x, hxe⟩ : ∃ x, x = f[k][m] := ⟨_, rfl⟩
       rw [← hxe] at hy hx hvs
       have HX := Lib.hid hxe
       clear hxe
       obtain ⟨w2, rfl⟩ : ∃ w2 : World, w2 = wr := ⟨_, rfl⟩
       by_cases hp : 0 < varOf x
       · rw [if_pos hp] at hvs
         have HVS := Lib.hid hvs
         clear hvs
         go_wp2_with (first
          | (go_at_call 36; refine (var_any x hx _).mono ?_; rintro e w' ⟨rfl, rfl⟩)
          | (at_builtin
             refine app_1 rfl (.tmp 25) (.tmp 27) rfl (base := w.heap.size) (xs := varsAll (f.take k) ++ varsOf (f[k].take m)) (y := varOf x) rfl rfl HS2.out.1 hvl HS2.out.2.size ?_
             intro v' w3 hown hg
             have HOW := Lib.hid hown
             have HE4 := Lib.hid (hg.toExt HS2.out.2 (fun i hi => (own_typed HS2.out.1 hi.symm).1))
             clear hown hg))
         go_roundg (L - (m + 1))
         case measure => omega
         case rel => exact ⟨m + 1, by omega, by omega, by go_num, by rw [HVS.out, ← List.append_assoc]; exact HOW.out, HE4.out⟩
       · rw [if_neg hp, List.append_nil] at hvs
         have HVS := Lib.hid hvs
         clear hvs
         go_wp2_with (go_at_call 36; refine (var_any x hx _).mono ?_; rintro e w' ⟨rfl, rfl⟩)
         go_roundg (L - (m + 1))
         case measure => omega
         case rel => exact ⟨m + 1, by omega, by omega, by go_num, by rw [HVS.out]; exact HS2.out.1, HS2.out.2⟩
     · obtain rfl : m = L := by omega
       go_wp2
       go_roundg (vs.length - (k + 1))
       case measure => omega
       case rel => exact ⟨k + 1, by omega, by omega, by go_num, by rw [varsAll_succ f k hkf]; have := HS2.out.1; rw [HL.out, List.take_length] at this; exact this, HS2.out.2⟩
  · obtain rfl : k = vs.length := by omega
    have hsv : OwnI wr w.heap.size u3 (varsAll f) := by have := HS.out.1; rw [H4.out, List.take_length] at this; exact this
    have hE := HS.out.2
    have hvl : (varsAll f).length ≤ 100000000 := by have := varsAll_len f; have := HT.out; omega
    have hml : ((varsAll f).mergeSort fun x y => decide (x ≤ y)).length ≤ 100000000 := by rw [List.length_mergeSort]; exact hvl
    have HSV := Lib.hid hsv
    have HE := Lib.hid hE
    have HSC := Lib.hid (sortC_vars f)
    clear hsv hE HS hgk hk
    go_wp2_with (first
     | (go_at_call 73
        refine (Sort_own _ _ _ _ HSV.out hvl).mono ?_
        rintro e w2 ⟨rfl, ho, hg⟩
        have HO := Lib.hid ho
        have HE2 := Lib.hid (grow_ext HE.out HSV.out hg)
        clear ho hg)
     | (go_at_call 74
        refine (Compact_own _ _ _ _ HO.out hml).mono ?_
        rintro e w3 ⟨v3, rfl, ho, hg, -⟩
        have HO3 := Lib.hid ho
        have HE3 := Lib.hid (grow_ext HE2.out HO.out hg)
        clear ho hg))
    go_ret
    exact ⟨_, rfl, by rw [← HSC.out]; exact HO3.out, HE3.out⟩
end Go.Proofs.YtjecjaihficcdaaGreat
namespace Go.Proofs.YtjecjaihficcdaaGreat
open Go.RowKit
def alt (x y : Int) : Prop := sizeA x < sizeA y ∨ (sizeA x = sizeA y ∧ x < y)
instance (x y : Int) : Decidable (alt x y) := by unfold alt; infer_instance
theorem alt_trans (a b c : Int) (h : alt a b) (k : alt b c) : alt a c := by unfold alt at *; omega
theorem cmpI_neg {a b : Int} : cmpI a b < 0 ↔ a < b := by unfold cmpI; split <;> (try split) <;> omega
theorem cmpI_zero {a b : Int} : cmpI a b = 0 ↔ a = b := by unfold cmpI; split <;> (try split) <;> omega
theorem ordF_neg (x y : Int) : ordF x y < 0 ↔ alt x y := by
 unfold ordF alt
 by_cases h : cmpI (sizeA x) (sizeA y) = 0
 · rw [if_pos h, cmpI_neg]
   have := cmpI_zero.1 h
   omega
 · rw [if_neg h, cmpI_neg]
   have : ¬ sizeA x = sizeA y := fun e => h (cmpI_zero.2 e)
   omega
theorem lt_ord (x y : Int) : ltOf ordF x y = decide (alt x y) := by
 unfold ltOf
 rw [decide_eq_decide]
 exact ordF_neg x y
theorem swo_ord : Sort.SWO (ltOf ordF) := by
 refine ⟨fun x => ?_, fun x y z h k => ?_, fun x y z h k => ?_⟩
 · rw [lt_ord, decide_eq_false_iff_not]; unfold alt; omega
 · rw [lt_ord, decide_eq_true_eq] at *; exact alt_trans _ _ _ h k
 · rw [lt_ord, decide_eq_false_iff_not] at *
   unfold alt at *; omega
theorem alt_blt {x y : Int} (hx : I64 x) (hy : I64 y) : alt x y ↔ blt x y := by
 unfold alt blt
 rw [sizeA_abs hx, sizeA_abs hy]; omega
theorem grow_one (w : World) (o : Obj) : w.alloc o = Sort.grow (w.drewN 0) #[o] := by
 unfold World.alloc Sort.grow World.drewN
 simp
theorem SortF_own (xs : List Int) (v : Value) (base : Nat) (w : World) (h : OwnI w base v xs) (hl : xs.length ≤ 100000000) (h64 : All64 xs) :
 Calls Tryz.prog 51 #[v, .func (.func 117) #[] #[]] w fun e w' => ∃ ys, e = .returned (.tuple #[]) ∧ OwnI w' base v ys ∧ w.grownBy w' v.ownBlock ∧ ys.length = xs.length ∧ (∀ x, x ∈ ys ↔ x ∈ xs) ∧ ys.Pairwise fun a b => ¬ blt b a := by
 unfold OwnI at h ⊢
 obtain ⟨-, ⟨rfl, h0⟩ | ⟨g, cap, cur, rfl, hb, hg, hn, hm, hs, ht⟩⟩ := h
 · have : xs = [] := List.length_eq_zero_iff.1 h0
   subst this
   refine (AnyF.slices_SortFunc_none (P := Tryz.prog) (ρ := Tryz.laysSlF6_f51_ren) { Tryz.laysSlF6_f51 with } none 0 _ w).mono ?_
   rintro e w' ⟨rfl, rfl⟩
   exact ⟨[], rfl, World.ownsRow_nil _ _ _ 1, ⟨rfl, rfl, rfl, Nat.le_refl _, fun _ _ _ => rfl⟩, rfl, fun _ => Iff.rfl, List.Pairwise.nil⟩
 · refine (Tryz.slices_SortFunc_f51 (Value.int .i64) (fun _ => rfl) ordF swo_ord 117 #[] g 0 cap xs.toArray w (enters_of Tryz.func117 (by kernel_rfl) rfl)
    (fun m os dk _ x y => (order_any x y _).mono fun e w' ⟨he, o, ho⟩ => ⟨he, 0, #[o], by rw [ho, grow_one]⟩)
    (holds_of_blockI hg (by rw [Nat.mul_one] at ht; exact ht)) (Array.getElem?_eq_some_iff.1 hg).1 (by simp; omega)).mono ?_
   rintro e w' ⟨rfl, d', n, os, ⟨hsz, -, hperm⟩, hsort, rfl⟩
   have hdl : d'.toList.length = xs.length := by simpa using hsz
   have hp : d'.toList.Perm xs := by
    have h1 : d'.extract 0 xs.toArray.size = d' := by rw [← hsz]; simp
    have h2 : xs.toArray.extract 0 xs.toArray.size = xs.toArray := by simp
    rw [h1, h2] at hperm
    simpa using hperm
   refine ⟨d'.toList, rfl, ?_, ?_, hdl, fun x => hp.mem_iff, ?_⟩
   · have := ownsRow_sortedI (w := w) (n := n) (os := os) (ts := d'.toList) (ss := xs) hdl hb hg hn hm hs
     rw [hdl]
     simpa [sortWorld] using this
   · have := grownBy_sortedI (w := w) (g := g) (n := n) (os := os) d'
     simpa [sortWorld, Value.ownBlock] using this
   · rw [List.pairwise_iff_getElem]
     intro i j hi hj hij
     have := hsort i j (Nat.zero_le _) hij (by simp; omega)
     rw [lt_ord, decide_eq_false_iff_not] at this
     have hi' : i < d'.size := by simpa using hi
     have hj' : j < d'.size := by simpa using hj
     rw [getElem!_pos d' i hi', getElem!_pos d' j hj'] at this
     intro hb'
     apply this
     have m1 : d'[i] ∈ xs := hp.mem_iff.1 (by simp)
     have m2 : d'[j] ∈ xs := hp.mem_iff.1 (by simp)
     exact (alt_blt (h64 _ m2) (h64 _ m1)).2 (by simpa using hb')
def NormV (xs : List Int) : List Int × Int :=
 if xs.length > 200000 ∨ xs.any (fun x => varOf x == 0) = true then ([], 2) else if mayB (setL [] xs) = true then (setL [] xs, 0) else ([], 10)
theorem fv_norm1 : Fv Tryz.prog 116 := ⟨_, Tryz.func116, by kernel_rfl, by kernel_rfl⟩
set_option maxHeartbeats 400000 in
theorem norm1_fn (x : Int) (hx : I64 x) (w : World) : Calls Tryz.prog 116 #[.int .i64 x] w fun e w' => e = .returned (.bool (varOf x == 0)) ∧ w' = w := by
 go_enter Tryz.func116, Tryz.ntmps116
 go_wp2_with (go_at_call 36; refine (var_any x hx _).mono ?_; rintro e w' ⟨rfl, rfl⟩)
 go_ret
 exact ⟨rfl, rfl⟩
theorem anyVar (xs : List Int) (v : Value) (w : World) (h64 : All64 xs) (hr : RI w v xs) (f : FuncId) (hf : Fv Tryz.prog f) (q : Int → Bool) (hq : ∀ x, I64 x → ∀ w, Calls Tryz.prog f #[.int .i64 x] w fun e w' => e = .returned (.bool (q x)) ∧ w' = w) :
 Calls Tryz.prog 34 #[v, .func (.func f) #[] #[]] w fun e w' => e = .returned (.bool (xs.any q)) ∧ w = w' := by
 obtain ⟨A, c, rfl, h1, h2, h3⟩ := hr
 have hix := containsFuncI f #[] hf A c (xs.map (Value.int .i64)) (by rw [List.length_map]; exact h2) (fun j => q (xs.getD j 0)) (fun _ w' => w' = w) w
  (fun _ w' hw => hw ▸ h3)
  (fun j hj w' hw => by
   subst hw
   have hj' : j < xs.length := by simpa using hj
   rw [List.getElem_map, show xs[j] = xs.getD j 0 by simp [hj']]
   exact hq (xs.getD j 0) (h64.getD j hj') w')
  rfl
 rw [List.length_map] at hix
 refine hix.mono fun e w' (hq : PostCont _ _ _ e w') => ?_
 obtain ⟨r', he, hq⟩ := hq
 have h1 : IdxOf (fun j => q (xs.getD j 0)) xs.length r' ∧ w' = w := by
  rcases hq with ⟨k, h1, h2, h3, h4, h5⟩ | ⟨h1, h2, h3⟩
  · exact ⟨.inl ⟨k, h1, h2, h3, h4⟩, h5⟩
  · exact ⟨.inr ⟨h1, h2⟩, h3⟩
 have := (idx_cont h1.1).trans (range_any_get xs q)
 exact ⟨by rw [he, this], h1.2.symm⟩
theorem compact_setL {xs ys : List Int} (h1 : ∀ x, x ∈ ys ↔ x ∈ xs) (h2 : ys.Pairwise fun a b => ¬ blt b a) : Lib.compact ys = setL [] xs := by
 obtain ⟨h3, h4⟩ := compact_strict (lt := blt) blt_tri (fun _ _ _ h k => blt_trans h k) ys h2
 exact sorted_ext blt_asym h3 (setL_sorted xs List.Pairwise.nil) fun x => by rw [h4, h1, mem_setL]; simp
def PostNorm (w : World) (r : List Int × Int) (e : Ending) (w' : World) : Prop := ∃ v, e = .returned (.tuple #[v, .int .i64 r.2]) ∧ OwnI w' w.heap.size v r.1 ∧ Ext w w'
set_option maxHeartbeats 2000000 in
theorem Norm_any (xs : List Int) (v : Value) (w : World) (h64 : All64 xs) (hr : RI w v xs) : Calls Tryz.prog 60 #[v] w (PostNorm w (NormV xs)) := by
 generalize hPP : PostNorm w (NormV xs) = PP
 have HPP := Lib.hid hPP
 clear hPP
 have HR := Lib.hid hr
 have HA := Lib.hid (anyVar xs v w h64 hr 116 fv_norm1 (fun x => varOf x == 0) (fun x hx w => norm1_fn x hx w))
 obtain ⟨A, c, rfl, h1, h2, h3⟩ := hr
 clear h3
 by_cases hl : xs.length ≤ 200000
 · have hl' : ¬ (200000 : Int) < xs.length := by omega
   cases ha : xs.any fun x => varOf x == 0
   · rw [ha] at HA
     have HAA := Lib.hid ha
     clear ha
     have HCL := Lib.hid (cloneI_any _ xs w HR.out (by omega))
     cases hm : mayB (setL [] xs)
     all_goals
      have HM := Lib.hid hm
      clear hm
      go_enter Tryz.func60, Tryz.ntmps60
      go_wp2_with (first
       | (go_at_call 34; refine HA.out.mono ?_; rintro e w' ⟨rfl, rfl⟩)
       | (go_at_call 59; refine HCL.out.mono ?_; rintro e w1 ⟨v1, rfl, ho, hE⟩; have HO := Lib.hid ho; have HE := Lib.hid hE; clear ho hE)
       | (go_at_call 51; refine (SortF_own xs v1 _ _ HO.out (by omega) h64).mono ?_; rintro e w2 ⟨ys, rfl, ho, hg, hyl, hym, hyp⟩; have HO2 := Lib.hid ho; have HE2 := Lib.hid (grow_ext HE.out HO.out hg); have HYL := Lib.hid hyl; have HYS := Lib.hid (compact_setL hym hyp); clear ho hg hyl hym hyp)
       | (go_at_call 74; refine (Compact_own ys v1 _ _ HO2.out (by have := HYL.out; omega)).mono ?_; rintro e w3 ⟨v3, rfl, ho, hg, -⟩; have HO3 := Lib.hid (HYS.out ▸ ho); have HE3 := Lib.hid (grow_ext HE2.out HO2.out hg); clear ho hg)
       | (go_at_call 76; have hmy := may_any v3 (setL [] xs) _ HO3.out.reads (fun x hx => by rcases (mem_setL xs [] x).1 hx with h | h; cases h; exact h64 x h); rw [HM.out] at hmy; refine hmy.mono ?_; rintro e w4 ⟨rfl, rfl⟩; clear hmy))
      rw [← HPP.out]
      unfold NormV
      rw [if_neg (by rw [HAA.out]; simp; omega), HM.out]
     · exact ⟨_, rfl, OwnI.nil _ _, HE3.out⟩
     · exact ⟨_, rfl, HO3.out, HE3.out⟩
   · rw [ha] at HA
     have HAA := Lib.hid ha
     clear ha
     go_enter Tryz.func60, Tryz.ntmps60
     go_wp2_with (go_at_call 34; refine HA.out.mono ?_; rintro e w' ⟨rfl, rfl⟩)
     rw [← HPP.out]
     unfold NormV
     rw [if_pos (.inr HAA.out)]
     exact ⟨_, rfl, OwnI.nil _ _, Ext.refl _⟩
 · have hl' : (200000 : Int) < xs.length := by omega
   go_enter Tryz.func60, Tryz.ntmps60
   go_wp2_with fail
   rw [← HPP.out]
   unfold NormV
   rw [if_pos (.inl (by omega))]
   exact ⟨_, rfl, OwnI.nil _ _, Ext.refl _⟩
end Go.Proofs.YtjecjaihficcdaaGreat
namespace Go.Proofs.YtjecjaihficcdaaGreat
def subst1 (x t y : Int) : Int := if y = x then t else if y = -x then -t else y
def normC (x t : Int) (l : List Int) : Option (List Int) := if (NormV (l.map (subst1 x t))).2 = 0 then some (NormV (l.map (subst1 x t))).1 else none
def okCh (d : DqV) (c : ChV) : Bool := decide (c.kind = 6) && (decide (0 < c.lit) && (allowP d c.lit c.tz && (hasR d c.pos (-c.lit) c.tz && hasR d c.other c.lit (-c.tz))))
def madeV (d : DqV) (c : ChV) : DqV := ⟨d.univ, d.exist.filter (fun x => !decide (x.1 = c.lit)), d.clauses.filterMap (normC c.lit c.tz)⟩
def MakeV (d : DqV) (c : ChV) : DqV × Int := if mayD d = false then (⟨[], [], []⟩, 2) else if okCh d c = false then (⟨[], [], []⟩, 5) else (madeV d c, 0)
end Go.Proofs.YtjecjaihficcdaaGreat
namespace Go.Proofs.YtjecjaihficcdaaGreat
open Go.RowKit
def Abide {β : Type} (J : β → (Nat → Prop) → World → Prop) : Prop :=
 ∀ s (T T' : Nat → Prop) A C, J s T A → Chg T A C → (∀ i, T i → T' i) → (∀ i, T' i → T i ∨ A.heap.size ≤ i) → (∀ i, T' i → i < C.heap.size) → J s T' C
def Iter {α : Type} (P : Program) (gf : FuncId) (lb : Array Value) (encs : α → Array Value) (xs : List α) (Rk : Nat → Prop) (w : World) : Prop :=
 ∀ (l : Nat) (J Jx : List α → (Nat → Prop) → World → Prop) (W : World), Chg (fun k => ¬ Rk k) w W → Abide J → Abide Jx →
  (∀ pre x T W1, J pre T W1 → (pre ++ [x]) <+: xs → YieldAt Fence.wide 0 P l (encs x) W1 fun e W' =>
   (e = .returned (.bool true) ∧ J (pre ++ [x]) T W' ∧ Chg (fun k => ¬ (Rk k ∨ T k)) W1 W') ∨ (e = .returned (.bool false) ∧ Jx (pre ++ [x]) T W')) →
  J [] (fun _ => False) W →
  CallsIn Fence.wide 0 P gf (#[.func (.yield l) #[] #[]] ++ lb) W fun e W' => (∃ v, e = .returned v) ∧ ((∃ T, J xs T W') ∨ (∃ pre T, pre <+: xs ∧ Jx pre T W'))
def RoundPost {α : Type} (Rk T : Nat → Prop) (I : List α → (Nat → Prop) → World → Prop) (Ix : Code → List α → (Nat → Prop) → World → Prop) (xs : List α) (W : World) : Exit → Act → World → Prop
 | .normal, _, W' => Chg (fun k => ¬ (Rk k ∨ T k)) W W' ∧ I xs T W'
 | .ret, _, W' => Chg (fun k => ¬ (Rk k ∨ T k)) W W' ∧ Ix .ret xs T W'
 | .exit id, _, W' => Chg (fun k => ¬ (Rk k ∨ T k)) W W' ∧ Ix (.exit id) xs T W'
 | .goto t, _, W' => Chg (fun k => ¬ (Rk k ∨ T k)) W W' ∧ Ix (.goto t) xs T W'
 | .panic _, _, _ => False
 | .outgrown, _, _ => False
theorem putObj_chg (W : World) (l : Nat) (o : Obj) : Chg (fun i => i = l) W (W.putObj l o) :=
 ⟨rfl, rfl, rfl, by simp, fun k _ hk => World.putObj_heap_other hk⟩
def markOf (D : Nat) : Deferred := { target := .collected D, args := #[] }
theorem wp_range {α : Type} {P : Program} {g : Operand} {ps : Array Tmp} {assign body : Code} {Q : Exit → Act → World → Prop} {a : Act} {w : World}
 {gf : FuncId} {lb : Array Value} {encs : α → Array Value} {xs : List α} {Rk : Nat → Prop} (hit : Iter P gf lb encs xs Rk w) (hg : a.eval g = .func (.func gf) #[] lb) (hf : Fv P gf)
 (hRk : ∀ k, Rk k → k < w.heap.size) (hps : ∀ x, (encs x).size = ps.size)
 (I : List α → (Nat → Prop) → World → Prop) (Ix : Code → List α → (Nat → Prop) → World → Prop) (hI : Abide I) (hIx : ∀ c, Abide (Ix c)) (h0 : I [] (fun _ => False) w) (a₁ : α → Act)
 (hassign : ∀ (l : Nat) (x : α) (W : World) (K : Act → World → Prop), K (a₁ x) W →
  assign.wpIn (Fence.wide.inRound l) 0 P (Exit.then K (fun _ _ _ => False)) { tmps := (ps.zip (encs x)).foldl (fun t (p, v) => t.setIfInBounds p v) a.tmps, defers := [] } W)
 (hbody : ∀ (l : Nat) (pre : List α) (x : α) (T : Nat → Prop) (W : World), I pre T W → (pre ++ [x]) <+: xs → (∀ i, T i → w.heap.size ≤ i) → w.heap.size ≤ W.heap.size → body.wpIn (Fence.wide.inRound l) 0 P (RoundPost Rk T I Ix (pre ++ [x]) W) (a₁ x) W)
 (hdone : ∀ (D : Nat) (T : Nat → Prop) (W : World), w.heap.size ≤ D → T D → I xs T W → W.heap[D]? = some (.deferred (some [])) → Q .normal { a with defers := markOf D :: a.defers } W)
 (hstop : ∀ (D : Nat) (c : Code) (pre : List α) (T : Nat → Prop) (W : World), w.heap.size ≤ D → T D → pre <+: xs → Ix c pre T W → W.heap[D]? = some (.deferred (some [])) → c.wp P Q { a with defers := markOf D :: a.defers } W) :
 (Code.rangeFunc g ps assign body).wp P Q a w := by
 refine (wpIn_wide (n := 0)).1 ?_
 refine wpIn_rangeFunc ?_
 intro fn hfn
 rw [Fence.wide_round]
 obtain ⟨rec, hrec⟩ : ∃ rec : LoopState → Option Code → Loop, rec = fun st pe => { state := st, pending := pe, fn, tmps := a.tmps, params := ps, assign, body, defers := w.heap.size } := ⟨_, rfl⟩
 obtain ⟨W1, hW1⟩ : ∃ W1, (w.alloc (.deferred (some []))).alloc (.loop (rec .ready none)) = W1 := ⟨_, rfl⟩
 have hL1 : W1.heap[w.heap.size + 1]? = some (.loop (rec .ready none)) := by
  rw [← hW1]; have := World.alloc_heap_new (w.alloc (.deferred (some []))) (.loop (rec .ready none)); rwa [World.size_alloc] at this
 have hsz : W1.heap.size = w.heap.size + 2 := by rw [← hW1]; simp
 have hE1 : Ext w W1 := by rw [← hW1]; exact (Ext.alloc w _).trans (Ext.alloc _ _)
 have hK1 : W1.heap[w.heap.size]? = some (.deferred (some [])) := by
  rw [← hW1]; exact (Below.heap_alloc _ _ _ (by simp)).trans (World.alloc_heap_new w _)
 obtain ⟨U, hU⟩ : ∃ U : (Nat → Prop) → Nat → Prop, U = fun T i => T i ∨ i = w.heap.size ∨ i = w.heap.size + 1 := ⟨_, rfl⟩
 have hUo : ∀ (T : Nat → Prop) i, U T i ↔ T i ∨ i = w.heap.size ∨ i = w.heap.size + 1 := fun T i => by rw [hU]
 have hUm : ∀ {T T' : Nat → Prop}, (∀ i, T i → T' i) → ∀ i, U T i → U T' i := fun h i hi => by rw [hUo] at hi ⊢; exact hi.imp (h i) id
 have hUg : ∀ {T T' : Nat → Prop} {n : Nat}, (∀ i, T' i → T i ∨ n ≤ i) → ∀ i, U T' i → U T i ∨ n ≤ i := fun h i hi => by
  rw [hUo] at hi
  rcases hi with hi | hi
  · exact (h i hi).imp (fun h => by rw [hUo]; exact .inl h) id
  · exact .inl (by rw [hUo]; exact .inr hi)
 have hI1 : I [] (U fun _ => False) W1 := hI [] (fun _ => False) _ w W1 h0 (hE1.chg _) (fun i h => h.elim) (fun i h => by
  rw [hUo] at h; rcases h with h | h | h
  · exact h.elim
  · exact .inr (by omega)
  · exact .inr (by omega)) (fun i h => by
  rw [hUo] at h; rcases h with h | h | h
  · exact h.elim
  · omega
  · omega)
 refine ⟨w.heap.size + 1, [markOf w.heap.size], W1, { target := .fn (.func gf) lb, args := #[.func (.yield (w.heap.size + 1)) #[] #[]] }, W1, gf,
  #[.func (.yield (w.heap.size + 1)) #[] #[]] ++ lb, W1, ?_, ?_, ?_, ?_, fun h => by simp [Fence.wide] at h, ?_⟩
 · rw [← hW1, hrec]; exact run_enterLoop_outer _ _ _ _ _
 · simp only [resolve, hg]
   simp [go_sem]
 · intro f' _; trivial
 · have := run_enter (P := P) hf (#[.func (.yield (w.heap.size + 1)) #[] #[]] ++ lb) W1
   simp [invoke, go_sem, this]
 · have put_I : ∀ (J : List α → (Nat → Prop) → World → Prop), Abide J → ∀ s T W o, (∀ i, U T i → i < W.heap.size) → J s (U T) W → J s (U T) (W.putObj (w.heap.size + 1) o) := fun J hJ s T W o hlt h =>
    hJ s _ _ _ _ h ((putObj_chg W _ o).mono fun i hi => by rw [hUo]; exact .inr (.inr hi)) (fun _ h => h) (fun _ h => .inl h) (fun i hi => by rw [World.putObj_size]; exact hlt i hi)
   have keepB : ∀ {T : Nat → Prop} {A C : World} {k : Nat} {o : Obj}, (∀ i, T i → w.heap.size + 1 < i) → Chg T A C → k ≤ w.heap.size + 1 → A.heap[k]? = some o → C.heap[k]? = some o := fun hT hc hk ho =>
    (hc.block _ (Array.getElem?_eq_some_iff.1 ho).1 (fun h => by have := hT _ h; omega)).trans ho
   refine (hit (w.heap.size + 1)
    (fun pre T W => I pre (U T) W ∧ W.heap[w.heap.size + 1]? = some (.loop (rec .ready none)) ∧ W.heap[w.heap.size]? = some (.deferred (some [])) ∧ (∀ i, T i → w.heap.size + 1 < i ∧ i < W.heap.size))
    (fun pre T W => ∃ c, Ix c pre (U T) W ∧ W.heap[w.heap.size + 1]? = some (.loop (rec .done (some c))) ∧ W.heap[w.heap.size]? = some (.deferred (some [])) ∧ (∀ i, T i → w.heap.size + 1 < i ∧ i < W.heap.size))
    W1 (hE1.chg _)
    (fun s T T' A C hs hc h1 h2 h3 => ?_) (fun s T T' A C hs hc h1 h2 h3 => ?_) ?_ ⟨hI1, hL1, hK1, fun i h => h.elim⟩).mono ?_
   · obtain ⟨i1, i2, i3, i4⟩ := hs
     have h5 := (Array.getElem?_eq_some_iff.1 i2).1
     have h6 := hc.size
     refine ⟨hI s (U T) (U T') A C i1 (hc.mono fun i hi => by rw [hUo]; exact .inl hi) (hUm h1) (hUg h2) (fun i hi => by rw [hUo] at hi; rcases hi with hi | hi | hi; exact h3 i hi; all_goals omega), keepB (fun i hi => (i4 i hi).1) hc (Nat.le_refl _) i2, keepB (fun i hi => (i4 i hi).1) hc (by omega) i3, fun i hi => ⟨?_, h3 i hi⟩⟩
     rcases h2 i hi with h | h
     · exact (i4 i h).1
     · have := (Array.getElem?_eq_some_iff.1 i2).1; omega
   · obtain ⟨c, i1, i2, i3, i4⟩ := hs
     have h5 := (Array.getElem?_eq_some_iff.1 i2).1
     have h6 := hc.size
     refine ⟨c, hIx c s (U T) (U T') A C i1 (hc.mono fun i hi => by rw [hUo]; exact .inl hi) (hUm h1) (hUg h2) (fun i hi => by rw [hUo] at hi; rcases hi with hi | hi | hi; exact h3 i hi; all_goals omega), keepB (fun i hi => (i4 i hi).1) hc (Nat.le_refl _) i2, keepB (fun i hi => (i4 i hi).1) hc (by omega) i3, fun i hi => ⟨?_, h3 i hi⟩⟩
     rcases h2 i hi with h | h
     · exact (i4 i h).1
     · have := (Array.getElem?_eq_some_iff.1 i2).1; omega
   ·
    rintro pre x T W ⟨hi, hl, hk, hT⟩ hpre
    have hlt : w.heap.size + 1 < W.heap.size := (Array.getElem?_eq_some_iff.1 hl).1
    have hy := run_yield (P := P) (args := encs x) hl (by rw [hrec]; exact hps x)
    rw [hrec] at hy
    refine ⟨fn, _, assign, body, hy, roundIn_of_wpIn hfn (hassign _ x W _ ⟨_, run_beginRound hl (by rw [hrec]), ?_⟩)⟩
    have hl2 : (W.putObj (w.heap.size + 1) (.loop { rec .ready none with state := .busy })).heap[w.heap.size + 1]? = some (.loop { rec .ready none with state := .busy }) := World.putObj_heap_same hlt
    have hk2 : (W.putObj (w.heap.size + 1) (.loop { rec .ready none with state := .busy })).heap[w.heap.size]? = some (.deferred (some [])) := (World.putObj_heap_other (by omega)).trans hk
    have hc2 : Chg (fun i => i = w.heap.size + 1) W (W.putObj (w.heap.size + 1) (.loop { rec .ready none with state := .busy })) := putObj_chg _ _ _
    have hUn : ∀ i, (¬ (Rk i ∨ U T i)) → ¬ (Rk i ∨ T i) := fun i h h' => h (h'.imp id fun h => by rw [hUo]; exact .inl h)
    have hUl : ∀ i, i = w.heap.size + 1 → ¬ (Rk i ∨ T i) := fun i e h => by
     rcases h with h | h
     · have := hRk i h; omega
     · have := (hT i h).1; omega
    have hlU : ∀ i, U T i → i < W.heap.size := fun i h => by
     rw [hUo] at h; rcases h with h | h | h
     · exact (hT i h).2
     · omega
     · omega
    refine wpIn_mono (hbody _ pre x (U T) _ (put_I I hI _ _ _ _ hlU hi) hpre (fun i h => by
     rw [hUo] at h; rcases h with h | h | h
     · have := (hT i h).1; omega
     · omega
     · omega) (by rw [World.putObj_size]; omega)) ?_
    have fin : ∀ (jump : Option Code) (W3 : World), Chg (fun k => ¬ (Rk k ∨ U T k)) (W.putObj (w.heap.size + 1) (.loop { rec .ready none with state := .busy })) W3 →
     (Instr.endRound (w.heap.size + 1) jump).run P W3 = .ok (.bool jump.isNone) (W3.putObj (w.heap.size + 1) (.loop (rec (if jump.isNone then .ready else .done) jump))) ∧
     W3.heap[w.heap.size + 1]? = some (.loop { rec .ready none with state := .busy }) ∧
     (W3.putObj (w.heap.size + 1) (.loop (rec (if jump.isNone then .ready else .done) jump))).heap[w.heap.size + 1]? = some (.loop (rec (if jump.isNone then .ready else .done) jump)) ∧
     (W3.putObj (w.heap.size + 1) (.loop (rec (if jump.isNone then .ready else .done) jump))).heap[w.heap.size]? = some (.deferred (some [])) := fun jump W3 hk3 => by
     have hl3 : W3.heap[w.heap.size + 1]? = some (.loop { rec .ready none with state := .busy }) := (hk3.block _ (by rw [World.putObj_size]; exact hlt) (fun h => h (.inr (by rw [hUo]; exact .inr (.inr rfl))))).trans hl2
     have hk4 : W3.heap[w.heap.size]? = some (.deferred (some [])) := (hk3.block _ (by rw [World.putObj_size]; omega) (fun h => h (.inr (by rw [hUo]; exact .inr (.inl rfl))))).trans hk2
     have := run_endRound (P := P) jump hl3
     rw [hrec] at this ⊢
     exact ⟨this, by rw [hrec] at hl3; exact hl3, World.putObj_heap_same (Array.getElem?_eq_some_iff.1 hl3).1, (World.putObj_heap_other (by omega)).trans hk4⟩
    have hsz3 : ∀ (W3 : World), Chg (fun k => ¬ (Rk k ∨ U T k)) (W.putObj (w.heap.size + 1) (.loop { rec .ready none with state := .busy })) W3 → W.heap.size ≤ W3.heap.size := fun W3 h => by have := h.size; rwa [World.putObj_size] at this
    rintro e a3 W3 hp
    cases e with
    | normal =>
      obtain ⟨hk3, hi3⟩ := hp
      obtain ⟨hr, hl3, hl4, hk4⟩ := fin none W3 hk3
      refine ⟨_, _, hr, .inl ⟨rfl, ⟨put_I I hI _ _ _ _ (fun i h => Nat.lt_of_lt_of_le (hlU i h) (hsz3 W3 hk3)) hi3, hl4, hk4, fun i h => ⟨(hT i h).1, by rw [World.putObj_size]; exact Nat.lt_of_lt_of_le (hT i h).2 (hsz3 W3 hk3)⟩⟩, ?_⟩⟩
      exact ((hc2.mono hUl).trans (hk3.mono hUn)).trans ((putObj_chg _ _ _).mono hUl)
    | ret =>
      obtain ⟨hk3, hi3⟩ := hp
      obtain ⟨hr, hl3, hl4, hk4⟩ := fin (some .ret) W3 hk3
      exact ⟨_, _, hr, .inr ⟨rfl, .ret, put_I _ (hIx _) _ _ _ _ (fun i h => Nat.lt_of_lt_of_le (hlU i h) (hsz3 W3 hk3)) hi3, hl4, hk4, fun i h => ⟨(hT i h).1, by rw [World.putObj_size]; exact Nat.lt_of_lt_of_le (hT i h).2 (hsz3 W3 hk3)⟩⟩⟩
    | exit id =>
      obtain ⟨hk3, hi3⟩ := hp
      obtain ⟨hr, hl3, hl4, hk4⟩ := fin (some (.exit id)) W3 hk3
      exact ⟨_, _, hr, .inr ⟨rfl, .exit id, put_I _ (hIx _) _ _ _ _ (fun i h => Nat.lt_of_lt_of_le (hlU i h) (hsz3 W3 hk3)) hi3, hl4, hk4, fun i h => ⟨(hT i h).1, by rw [World.putObj_size]; exact Nat.lt_of_lt_of_le (hT i h).2 (hsz3 W3 hk3)⟩⟩⟩
    | goto t =>
      obtain ⟨hk3, hi3⟩ := hp
      obtain ⟨hr, hl3, hl4, hk4⟩ := fin (some (.goto t)) W3 hk3
      exact ⟨_, _, hr, .inr ⟨rfl, .goto t, put_I _ (hIx _) _ _ _ _ (fun i h => Nat.lt_of_lt_of_le (hlU i h) (hsz3 W3 hk3)) hi3, hl4, hk4, fun i h => ⟨(hT i h).1, by rw [World.putObj_size]; exact Nat.lt_of_lt_of_le (hT i h).2 (hsz3 W3 hk3)⟩⟩⟩
    | panic ch => exact hp.elim
    | outgrown => exact hp.elim
   ·
    rintro e W2 ⟨⟨v, rfl⟩, (⟨T, hi, hl, hk, hT⟩ | ⟨pre, T, hpre, c, hi, hl, hk, hT⟩)⟩
    · exact ⟨none, _, by have := run_endLoop (P := P) hl (by rw [hrec]; simp); rw [hrec] at this; exact this, hdone _ (U T) _ (Nat.le_refl _) (by rw [hUo]; exact .inr (.inl rfl)) (put_I I hI _ _ _ _ (fun i h => by rw [hUo] at h; have := (Array.getElem?_eq_some_iff.1 hl).1; rcases h with h | h | h; exact (hT i h).2; all_goals omega) hi) ((World.putObj_heap_other (by omega)).trans hk)⟩
    · exact ⟨some c, _, by have := run_endLoop (P := P) hl (by rw [hrec]; simp); rw [hrec] at this; exact this, wpIn_wide.2 (hstop _ c pre (U T) _ (Nat.le_refl _) (by rw [hUo]; exact .inr (.inl rfl)) hpre (put_I _ (hIx c) _ _ _ _ (fun i h => by rw [hUo] at h; have := (Array.getElem?_eq_some_iff.1 hl).1; rcases h with h | h | h; exact (hT i h).2; all_goals omega) hi) ((World.putObj_heap_other (by omega)).trans hk))⟩
theorem calls_marks {P : Program} {f : FuncId} {fn : Func} {c : Code} {args : Array Value} {w : World} {R : Ending → World → Prop} (hf : P.funcs[f]? = some fn) (hb : fn.body = some c)
 (h : c.wp P (bodyPostM Fence.wide 0 P fn R) { tmps := args ++ Array.replicate (fn.ntmps - args.size) undef, defers := [] } w) : Calls P f args w R :=
 (callsIn_wide (n := 0)).1 (callsIn_of_wp_marks hf hb trivial (wpIn_wide.2 h) rfl)
theorem ret_mark {P : Program} {fn : Func} {R : Ending → World → Prop} {a : Act} {w : World} {D : Nat} {v : Value} (hr : ∀ w, (results fn a.tmps).run P w = .ok v w) (hd : a.defers = [markOf D]) (hK : w.heap[D]? = some (.deferred (some [])))
 (h : R (.returned v) (w.putObj D (.deferred none))) : bodyPostM Fence.wide 0 P fn R .ret a w := by
 show LeavesInM Fence.wide 0 P fn a.tmps R a.defers .returning w
 rw [hd]
 exact ⟨by simp, .inl ⟨D, _, rfl, run_takeDeferred hK, v, hr _, h⟩⟩
end Go.Proofs.YtjecjaihficcdaaGreat
