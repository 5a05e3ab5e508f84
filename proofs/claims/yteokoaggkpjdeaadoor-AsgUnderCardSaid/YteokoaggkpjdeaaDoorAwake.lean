/- The walks of the law's functions awake and large. -/
import Derived.Test.YteokoaggkpjdeaaDoorRefA
namespace Go.Proofs.YteokoaggkpjdeaaDoor
open Go.RowKit

theorem Blk.new' {w : World} {g : Nat} {e : TypeId} {cur : List Value} (h : g = w.heap.size) : Blk (w.alloc (.cells cur.toArray e)) g e cur := h ▸ Blk.new w e cur
theorem Blk.RI {w : World} {g : Nat} {xs : List Int} (h : Blk w g 3 (xs.map (Value.int .i64))) (hl : xs.length ≤ 9223372036854775807) : RI w (.slice (some ⟨g, 0, none⟩) xs.length xs.length) xs := by
  refine ⟨_, _, rfl, Nat.le_refl _, hl, fun j hj => ⟨_, rfl, ?_⟩⟩
  have hadd : (⟨g, 0, none⟩ : Addr).add j = ⟨g, j, none⟩ := by unfold Addr.add; split <;> simp_all
  rw [hadd, h.cell, List.getElem?_eq_getElem hj]
theorem RI.none (w : World) : RI w (.slice Option.none 0 0) [] := ⟨Option.none, 0, rfl, Nat.le_refl _, by simp, fun j hj => by simp at hj⟩
theorem RLL.none (w : World) : RLL w (.slice Option.none 0 0) [] := ⟨Option.none, 0, [], rfl, Nat.le_refl _, by simp, fun j hj => by simp at hj, rfl, fun j hj => by simp at hj⟩
theorem Blk.RLL {w : World} {g : Nat} {vs : List Value} {f : List (List Int)} (h : Blk w g 22 vs) (hl : vs.length ≤ 9223372036854775807) (hf : vs.length = f.length) (hr : ∀ j (h : j < vs.length) (h' : j < f.length), Go.Proofs.YteokoaggkpjdeaaDoor.RI w vs[j] f[j]) :
    RLL w (.slice (some ⟨g, 0, Option.none⟩) vs.length vs.length) f := by
  refine ⟨_, _, vs, rfl, Nat.le_refl _, hl, fun j hj => ⟨_, rfl, ?_⟩, hf, hr⟩
  have hadd : (⟨g, 0, Option.none⟩ : Addr).add j = ⟨g, j, Option.none⟩ := by unfold Addr.add; split <;> simp_all
  rw [hadd, h.cell, List.getElem?_eq_getElem hj]

/-- The world holds the variable 'same' as the program's text lays it. -/
def HasSame (w : World) : Prop := w.cell? ⟨0, 0, Option.none⟩ = some (.func (.func 49) #[] #[])

theorem units1 : UnitsV [[1, 2], [-2], [-1, 3]] [] = ([(-2, 1), (1, 0), (3, 2)], -1, 0) := by decide
theorem units2 : UnitsV [[1], [-1]] [] = ([(1, 0)], 1, 0) := by decide
theorem units3 : UnitsV [[1, 2]] [-1, -2] = ([], 0, 0) := by decide
theorem point1 : PointV 6 [1, 2, 3] = ([-1, 2, 3], 0) := by decide
theorem point2 : PointV 8 [1, 2, 3] = ([], 4) := by decide
theorem number1 : NumberV [1, 2] [-1, 2] = (2, 0) := by decide
theorem under1 : UnderV [1] [[1, 2], [-1, 3], [-1]] = [[3], []] := by decide
theorem clause1 : ClauseV [] [] = 2 := by decide
theorem cube1 : CubeV [] [] = 1 := by decide
theorem cnf1 : CnfV [] [] = 1 := by decide
theorem value1 : ValueV [-2] 2 = 2 := by decide

theorem all64_of (xs : List Int) (h : (xs.all fun x => decide (-9223372036854775808 ≤ x ∧ x ≤ 9223372036854775807)) = true) : All64 xs := fun x hx =>
  show -9223372036854775808 ≤ x ∧ x ≤ 9223372036854775807 from of_decide_eq_true (List.all_eq_true.1 h x hx)
theorem all64L_of (f : List (List Int)) (h : (f.all fun xs => xs.all fun x => decide (-9223372036854775808 ≤ x ∧ x ≤ 9223372036854775807)) = true) : All64L f := fun xs hx => all64_of xs (List.all_eq_true.1 h xs hx)

abbrev rowO (xs : List Int) : Obj := .cells (xs.map (Value.int .i64)).toArray 3
abbrev slV (g n : Nat) : Value := .slice (some ⟨g, 0, Option.none⟩) n n
theorem lit0 (w : World) (xs : List Int) (h : xs.length ≤ 100) : RI (w.alloc (rowO xs)) (slV w.heap.size xs.length) xs := (Blk.new w _ _).RI (by omega)
theorem RLL.one {w : World} {g : Nat} {v0 : Value} {xs : List Int} (h : Blk w g 22 [v0]) (h0 : Go.Proofs.YteokoaggkpjdeaaDoor.RI w v0 xs) : RLL w (slV g 1) [xs] :=
  h.RLL (by simp) rfl fun j hj hj' => by
    obtain rfl : j = 0 := by simp at hj'; omega
    exact h0
theorem RLL.two {w : World} {g : Nat} {v0 v1 : Value} {xs ys : List Int} (h : Blk w g 22 [v0, v1]) (h0 : Go.Proofs.YteokoaggkpjdeaaDoor.RI w v0 xs) (h1 : Go.Proofs.YteokoaggkpjdeaaDoor.RI w v1 ys) : RLL w (slV g 2) [xs, ys] :=
  h.RLL (by simp) rfl fun j hj hj' => by
    match j, hj, hj' with
    | 0, _, _ => exact h0
    | 1, _, _ => exact h1
    | j + 2, _, hj' => exact absurd hj' (by simp)
theorem RLL.three {w : World} {g : Nat} {v0 v1 v2 : Value} {xs ys zs : List Int} (h : Blk w g 22 [v0, v1, v2]) (h0 : Go.Proofs.YteokoaggkpjdeaaDoor.RI w v0 xs) (h1 : Go.Proofs.YteokoaggkpjdeaaDoor.RI w v1 ys) (h2 : Go.Proofs.YteokoaggkpjdeaaDoor.RI w v2 zs) : RLL w (slV g 3) [xs, ys, zs] :=
  h.RLL (by simp) rfl fun j hj hj' => by
    match j, hj, hj' with
    | 0, _, _ => exact h0
    | 1, _, _ => exact h1
    | 2, _, _ => exact h2
    | j + 3, _, hj' => exact absurd hj' (by simp)
theorem lit1 (w : World) (xs : List Int) (h : xs.length ≤ 100) : RLL ((w.alloc (rowO xs)).alloc (.cells #[slV w.heap.size xs.length] 22)) (slV (w.heap.size + 1) 1) [xs] :=
  .one (Blk.new' (by simp)) ((lit0 w xs h).ext (Ext.alloc _ _))
theorem lit2 (w : World) (xs ys : List Int) (h : xs.length ≤ 100) (h' : ys.length ≤ 100) : RLL (((w.alloc (rowO xs)).alloc (rowO ys)).alloc (.cells #[slV w.heap.size xs.length, slV (w.heap.size + 1) ys.length] 22)) (slV (w.heap.size + 1 + 1) 2) [xs, ys] := by
  have e : (w.alloc (rowO xs)).heap.size = w.heap.size + 1 := by simp
  refine .two (Blk.new' (by simp)) (((lit0 w xs h).ext (Ext.alloc _ _)).ext (Ext.alloc _ _)) ?_
  have := (lit0 (w.alloc (rowO xs)) ys h')
  rw [e] at this
  exact this.ext (Ext.alloc _ _)
theorem lit3 (w : World) (xs ys zs : List Int) (h : xs.length ≤ 100) (h' : ys.length ≤ 100) (h'' : zs.length ≤ 100) :
    RLL ((((w.alloc (rowO xs)).alloc (rowO ys)).alloc (rowO zs)).alloc (.cells #[slV w.heap.size xs.length, slV (w.heap.size + 1) ys.length, slV (w.heap.size + 1 + 1) zs.length] 22)) (slV (w.heap.size + 1 + 1 + 1) 3) [xs, ys, zs] := by
  have e : (w.alloc (rowO xs)).heap.size = w.heap.size + 1 := by simp
  have e2 : ((w.alloc (rowO xs)).alloc (rowO ys)).heap.size = w.heap.size + 1 + 1 := by simp
  have h1 := (lit0 (w.alloc (rowO xs)) ys h')
  rw [e] at h1
  have h2 := (lit0 ((w.alloc (rowO xs)).alloc (rowO ys)) zs h'')
  rw [e2] at h2
  exact .three (Blk.new' (by simp)) ((((lit0 w xs h).ext (Ext.alloc _ _)).ext (Ext.alloc _ _)).ext (Ext.alloc _ _)) ((h1.ext (Ext.alloc _ _)).ext (Ext.alloc _ _)) (h2.ext (Ext.alloc _ _))

theorem HasSame.ext {w w' : World} (h : HasSame w) (k : Ext w w') : HasSame w' := k.cell h

theorem Blk.RSt {w : World} {g : Nat} {st : List (Int × Int)} (h : Blk w g 55 (stepsV st)) (hl : st.length ≤ 9223372036854775807) : RSt w (slV g st.length) st := by
  refine ⟨_, _, rfl, Nat.le_refl _, hl, fun _ => ⟨_, rfl, fun j u hu => ?_⟩⟩
  have hadd : (⟨g, 0, Option.none⟩ : Addr).add j = ⟨g, j, Option.none⟩ := by unfold Addr.add; split <;> simp_all
  rw [hadd, h.cell]; exact hu
theorem fv_same : Fv Tryd.prog 49 := ⟨_, Tryd.func49, by kernel_rfl, by kernel_rfl⟩

theorem clauseN (w : World) : Calls Tryd.prog 25 #[.slice Option.none 0 0, .slice Option.none 0 0] w fun e w' => e = .returned (.int .u8 2) ∧ Ext w w' := by
  have := Clause_any [] [] (.slice Option.none 0 0) (.slice Option.none 0 0) w (all64_of _ (by decide)) (all64_of _ (by decide)) (RI.none _) (RI.none _)
  rw [clause1] at this
  exact this

theorem cubeN (w : World) : Calls Tryd.prog 27 #[.slice Option.none 0 0, .slice Option.none 0 0] w fun e w' => e = .returned (.int .u8 1) ∧ Ext w w' := by
  have := Cube_any [] [] (.slice Option.none 0 0) (.slice Option.none 0 0) w (all64_of _ (by decide)) (all64_of _ (by decide)) (RI.none _) (RI.none _)
  rw [cube1] at this
  exact this

theorem cnfN (w : World) : Calls Tryd.prog 17 #[.slice Option.none 0 0, .slice Option.none 0 0] w fun e w' => e = .returned (.int .u8 1) ∧ Ext w w' := by
  have := Cnf_any [] [] (.slice Option.none 0 0) (.slice Option.none 0 0) w (all64_of _ (by decide)) (all64L_of _ (by decide)) (RI.none _) (RLL.none _) (fun _ => by decide)
  rw [cnf1] at this
  exact this

/-- Three calls of Units. -/
theorem unitsC (f : List (List Int)) (xs : List Int) (r : List (Int × Int)) (c e : Int) (hv : UnitsV f xs = (r, c, e)) (v u : Value) (w : World) (h64 : All64 xs) (k64 : All64L f) (hr : RI w v xs) (kr : RLL w u f) (ht : f.length ≤ 20000 → total f ≤ 9223372036854775807) :
    Calls Tryd.prog 34 #[u, v] w fun en w' => ∃ A d, en = .returned (.tuple #[.slice A r.length d, .int .i64 c, .int .i64 e]) ∧ RSt w' (.slice A r.length d) r ∧ Ext w w' := by
  have h := Units_any f xs v u w h64 k64 hr kr ht
  rw [hv] at h
  refine h.mono ?_
  rintro en w' ⟨x, rfl, hown, hE⟩
  have hst := own_RSt hown
  obtain ⟨A, d, rfl, -⟩ := hst
  exact ⟨A, d, rfl, own_RSt hown, hE⟩

set_option maxRecDepth 100000 in
set_option maxHeartbeats 20000000 in
theorem awake_any (w : World) (hG : HasSame w) : Calls Tryd.prog 12 #[] w fun e w' => e = .returned (.bool true) ∧ Ext w w' := by
  have HG := Lib.hid hG
  clear hG
  go_enter Tryd.func12, Tryd.ntmps12
  go_upto_region 3 with (go_at_call 34
                         refine (unitsC [[1, 2], [-2], [-1, 3]] [] _ _ _ units1 _ _ _ (all64_of _ (by decide)) (all64L_of _ (by decide)) (RI.none _) (lit3 w [1, 2] [-2] [-1, 3] (by decide) (by decide) (by decide)) (fun _ => by decide)).mono ?_
                         rintro e w1 ⟨A1, d1, rfl, hst, hE⟩
                         have HS1 := Lib.hid hst
                         have HE1 := Lib.hid (((((Ext.alloc w _).trans (Ext.alloc _ _)).trans (Ext.alloc _ _)).trans (Ext.alloc _ _)).trans hE)
                         clear hst hE)
  go_upto_region 4 with (go_at_call 34
                         refine (unitsC [[1], [-1]] [] _ _ _ units2 _ _ _ (all64_of _ (by decide)) (all64L_of _ (by decide)) (RI.none _) (lit2 w1 [1] [-1] (by decide) (by decide)) (fun _ => by decide)).mono ?_
                         rintro e w2 ⟨A2, d2, rfl, hst, hE⟩
                         have HS2 := Lib.hid hst
                         have HE2 := Lib.hid ((((Ext.alloc w1 _).trans (Ext.alloc _ _)).trans (Ext.alloc _ _)).trans hE)
                         clear hst hE)
  go_upto_region 5 with (go_at_call 34
                         refine (unitsC [[1, 2]] [-1, -2] _ _ _ units3 _ _ _ (all64_of _ (by decide)) (all64L_of _ (by decide)) (by
                           have := lit0 ((w2.alloc (rowO [1, 2])).alloc (.cells #[slV w2.heap.size 2] 22)) [-1, -2] (by decide)
                           rw [show ((w2.alloc (rowO [1, 2])).alloc (.cells #[slV w2.heap.size 2] 22)).heap.size = w2.heap.size + 1 + 1 by simp] at this
                           exact this) ((lit1 w2 [1, 2] (by decide)).ext' (Ext.alloc _ _)) (fun _ => by decide)).mono ?_
                         rintro e w3 ⟨A3, d3, rfl, hst, hE⟩
                         have HE3 := Lib.hid ((((Ext.alloc w2 _).trans (Ext.alloc _ _)).trans (Ext.alloc _ _)).trans hE)
                         clear hst hE)
  go_upto_region 6 with (go_at_call 19
                         have hpt := Point_any [1, 2, 3] 6 (by decide) (by decide) _ _ (all64_of _ (by decide)) (lit0 w3 [1, 2, 3] (by decide))
                         rw [point1] at hpt
                         refine hpt.mono ?_
                         rintro e w4 ⟨v4, rfl, hown, hE⟩
                         have HP4 := Lib.hid (hown.reads)
                         have HE4 := Lib.hid ((Ext.alloc w3 _).trans hE)
                         clear hown hE hpt)
  go_upto_region 7 with (go_at_call 19
                         have hpt := Point_any [1, 2, 3] 8 (by decide) (by decide) _ _ (all64_of _ (by decide)) (lit0 w4 [1, 2, 3] (by decide))
                         rw [point2] at hpt
                         refine hpt.mono ?_
                         rintro e w5 ⟨v5, rfl, hown, hE⟩
                         have HE5 := Lib.hid ((Ext.alloc w4 _).trans hE)
                         clear hown hE hpt)
  go_upto_region 8 with (go_at_call 21
                         have hnu := Number_any [1, 2] [-1, 2] _ _ _ (all64_of _ (by decide)) (all64_of _ (by decide)) ((lit0 w5 [1, 2] (by decide)).ext (Ext.alloc _ _)) (by
                           have := lit0 (w5.alloc (rowO [1, 2])) [-1, 2] (by decide)
                           rw [show (w5.alloc (rowO [1, 2])).heap.size = w5.heap.size + 1 by simp] at this
                           exact this)
                         rw [number1] at hnu
                         refine hnu.mono ?_
                         rintro e w6 ⟨rfl, rfl⟩
                         clear hnu)
  have E5 : Ext w w5 := (((HE1.out.trans HE2.out).trans HE3.out).trans HE4.out).trans HE5.out
  have HW5 := Lib.hid E5
  have HW45 := Lib.hid HE5.out
  have HW15 := Lib.hid (((HE2.out.trans HE3.out).trans HE4.out).trans HE5.out)
  clear E5 HE1 HE2 HE3 HE4 HE5
  obtain ⟨w6, hw6⟩ : ∃ w6 : World, w6 = (w5.alloc (rowO [1, 2])).alloc (rowO [-1, 2]) := ⟨_, rfl⟩
  have HE6 : Hid (Ext w5 w6) := Lib.hid (hw6 ▸ (Ext.alloc w5 _).trans (Ext.alloc _ _))
  rw [← hw6]
  clear hw6
  go_upto_region 9 with (go_at_call 38
                         refine (Steps_any [(-2, 1), (1, 0), (3, 2)] [(-2, 1), (1, 0), (3, 2)] _ _ _ ((HS1.out.ext (HW15.out.trans HE6.out)).ext (Ext.alloc _ _)) ((Blk.new w6 _ _).RSt (by decide))).mono ?_
                         rintro e w7 ⟨rfl, hE⟩
                         have HE7 := Lib.hid (HE6.out.trans ((Ext.alloc w6 _).trans hE))
                         clear hE)
  have cg : w7.cell? ⟨0, 0, Option.none⟩ = some (.func (.func 49) #[] #[]) := HG.out.ext (HW5.out.trans HE7.out)
  go_upto_region 10 with (first
    | (refine wpList_callv (.tmp 96) #[.tmp 97, .tmp 98] _ rfl (by rfl) #[] rfl fv_same #[v4, slV w7.heap.size 3] (by simp only [List.map_toArray, List.map_cons, List.map_nil, List.append_toArray, List.cons_append, List.nil_append]; rfl) ?_
       refine (Same_any [-1, 2, 3] [-1, 2, 3] _ _ _ ((HP4.out.ext (HW45.out.trans HE7.out)).ext (Ext.alloc _ _)) (lit0 w7 [-1, 2, 3] (by decide))).mono ?_
       rintro e w8 ⟨rfl, hE⟩
       refine ⟨_, rfl, ?_⟩
       simp only [Act.put, List.setIfInBounds_toArray, List.set_cons_zero, List.set_cons_succ]
       have HE8 := Lib.hid (HE7.out.trans ((Ext.alloc w7 _).trans hE))
       clear hE cg)
    | (go_at_call 25
       refine (clauseN _).mono ?_
       rintro e w9 ⟨rfl, hE⟩
       have HE9 := Lib.hid hE
       clear hE)
    | (go_at_call 27
       refine (cubeN _).mono ?_
       rintro e w10 ⟨rfl, hE⟩
       have HE10 := Lib.hid hE
       clear hE)
    | (go_at_call 17
       refine (cnfN _).mono ?_
       rintro e w11 ⟨rfl, hE⟩
       have HE11 := Lib.hid hE
       clear hE))
  obtain ⟨w12, hw12⟩ : ∃ w12 : World, w12 = w11 := ⟨_, rfl⟩
  have HE12 : Hid (Ext w5 w12) := Lib.hid (hw12 ▸ (((HE8.out.trans HE9.out).trans HE10.out).trans HE11.out))
  rw [← hw12]
  clear hw12 HE8 HE9 HE10 HE11
  go_wp2_with (first
    | (go_at_call 23
       have hcc := Value_any [-2] 2 _ _ (all64_of _ (by decide)) (by unfold I64; decide) (lit0 w12 [-2] (by decide))
       rw [value1] at hcc
       refine hcc.mono ?_
       rintro e w13 ⟨rfl, hE⟩
       have HE13 := Lib.hid (HE12.out.trans ((Ext.alloc w12 _).trans hE))
       clear hE hcc)
    | (go_at_call 14
       have e1 : (w13.alloc (rowO [1])).heap.size = w13.heap.size + 1 := by simp
       have hl3 := lit3 (w13.alloc (rowO [1])) [1, 2] [-1, 3] [-1] (by decide) (by decide) (by decide)
       rw [e1] at hl3
       have hcc := Under_any [1] [[1, 2], [-1, 3], [-1]] _ _ _ (all64_of _ (by decide)) (all64L_of _ (by decide)) (((((lit0 w13 [1] (by decide)).ext (Ext.alloc _ _)).ext (Ext.alloc _ _)).ext (Ext.alloc _ _)).ext (Ext.alloc _ _)) hl3 (fun _ => by decide)
       rw [under1] at hcc
       refine hcc.mono ?_
       rintro e w14 ⟨v14, rfl, hown, hE⟩
       have HU14 := Lib.hid hown.reads
       have HE14 := Lib.hid (HE13.out.trans ((((((Ext.alloc w13 _).trans (Ext.alloc _ _)).trans (Ext.alloc _ _)).trans (Ext.alloc _ _)).trans (Ext.alloc _ _)).trans hE))
       clear hE hcc hown hl3 e1)
    | (go_at_call 15
       have hl2 : RLL ((w14.alloc (rowO [3])).alloc (.cells #[slV w14.heap.size 1, .slice Option.none 0 0] 22)) (slV (w14.heap.size + 1) 2) [[3], []] :=
         .two (Blk.new' (by simp)) ((lit0 w14 [3] (by decide)).ext (Ext.alloc _ _)) (RI.none _)
       refine (SameAll_any [[3], []] [[3], []] _ _ _ ((HU14.out.ext' (Ext.alloc _ _)).ext' (Ext.alloc _ _)) hl2).mono ?_
       rintro e w15 ⟨rfl, hE⟩
       have HE15 := Lib.hid (HE14.out.trans (((Ext.alloc w14 _).trans (Ext.alloc _ _)).trans hE))
       clear hE hl2))
  go_ret
  exact ⟨rfl, HW5.out.trans HE15.out⟩

end Go.Proofs.YteokoaggkpjdeaaDoor
