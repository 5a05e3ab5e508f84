/- Walk of the examples of the chapter (awake). Walk of skolemref01.Vars (an array of 65,537 marks). Walk of skolemref02.Number. The walk of the law AsgPoints. -/
import Derived.Test.YteokoaggkpjdeaaDoorGgAsgPoints
import Derived.Test.YteokoaggkpjdeaaDoorGf
import Derived.Deep.CutRange
namespace Go.Proofs.YteokoaggkpjdeaaDoor
open Go.RowKit

set_option maxRecDepth 100000 in
set_option maxHeartbeats 20000000 in
theorem awake_any (w : World) (hG : HasSame w) : Calls Tryd.prog 12 #[] w fun e w' => e = .returned (.bool true) ∧ Ext w w' := by
  have HG := Lib.hid hG
  clear hG
  go_enter Tryd.func12, Tryd.ntmps12
  go_upto_region 3 with (go_at_call 34
                         refine (unitsC [[1, 2], [-2], [-1, 3]] [] _ _ _ units1 _ _ _ (all64_of _ (by decide)) (all64L_of _ (by decide)) (RI.none _) (lit3 w [1, 2] [-2] [-1, 3] (by decide) (by decide) (by decide)) (fun _ => by decide)).mono ?_
                         rintro e w1 ⟨A1, d1, rfl, hst, hE⟩
                         have HS1 := Lib.hid hst
                         have HE1 := Lib.hid (((((Ext.alloc w _).trans (Ext.alloc _ _)).trans (Ext.alloc _ _)).trans (Ext.alloc _ _)).trans hE)
                         clear hst hE)
  go_upto_region 4 with (go_at_call 34
                         refine (unitsC [[1], [-1]] [] _ _ _ units2 _ _ _ (all64_of _ (by decide)) (all64L_of _ (by decide)) (RI.none _) (lit2 w1 [1] [-1] (by decide) (by decide)) (fun _ => by decide)).mono ?_
                         rintro e w2 ⟨A2, d2, rfl, hst, hE⟩
                         have HS2 := Lib.hid hst
                         have HE2 := Lib.hid ((((Ext.alloc w1 _).trans (Ext.alloc _ _)).trans (Ext.alloc _ _)).trans hE)
                         clear hst hE)
  go_upto_region 5 with (go_at_call 34
                         refine (unitsC [[1, 2]] [-1, -2] _ _ _ units3 _ _ _ (all64_of _ (by decide)) (all64L_of _ (by decide)) (by
                           have := lit0 ((w2.alloc (rowO [1, 2])).alloc (.cells #[slV w2.heap.size 2] 22)) [-1, -2] (by decide)
                           rw [show ((w2.alloc (rowO [1, 2])).alloc (.cells #[slV w2.heap.size 2] 22)).heap.size = w2.heap.size + 1 + 1 by simp] at this
                           exact this) ((lit1 w2 [1, 2] (by decide)).ext' (Ext.alloc _ _)) (fun _ => by decide)).mono ?_
                         rintro e w3 ⟨A3, d3, rfl, hst, hE⟩
                         have HE3 := Lib.hid ((((Ext.alloc w2 _).trans (Ext.alloc _ _)).trans (Ext.alloc _ _)).trans hE)
                         clear hst hE)
  go_upto_region 6 with (go_at_call 19
                         have hpt := Point_any [1, 2, 3] 6 (by decide) (by decide) _ _ (all64_of _ (by decide)) (lit0 w3 [1, 2, 3] (by decide))
                         rw [point1] at hpt
                         refine hpt.mono ?_
                         rintro e w4 ⟨v4, rfl, hown, hE⟩
                         have HP4 := Lib.hid (hown.reads)
                         have HE4 := Lib.hid ((Ext.alloc w3 _).trans hE)
                         clear hown hE hpt)
  go_upto_region 7 with (go_at_call 19
                         have hpt := Point_any [1, 2, 3] 8 (by decide) (by decide) _ _ (all64_of _ (by decide)) (lit0 w4 [1, 2, 3] (by decide))
                         rw [point2] at hpt
                         refine hpt.mono ?_
                         rintro e w5 ⟨v5, rfl, hown, hE⟩
                         have HE5 := Lib.hid ((Ext.alloc w4 _).trans hE)
                         clear hown hE hpt)
  go_upto_region 8 with (go_at_call 21
                         have hnu := Number_any [1, 2] [-1, 2] _ _ _ (all64_of _ (by decide)) (all64_of _ (by decide)) ((lit0 w5 [1, 2] (by decide)).ext (Ext.alloc _ _)) (by
                           have := lit0 (w5.alloc (rowO [1, 2])) [-1, 2] (by decide)
                           rw [show (w5.alloc (rowO [1, 2])).heap.size = w5.heap.size + 1 by simp] at this
                           exact this)
                         rw [number1] at hnu
                         refine hnu.mono ?_
                         rintro e w6 ⟨rfl, rfl⟩
                         clear hnu)
  have E5 : Ext w w5 := (((HE1.out.trans HE2.out).trans HE3.out).trans HE4.out).trans HE5.out
  have HW5 := Lib.hid E5
  have HW45 := Lib.hid HE5.out
  have HW15 := Lib.hid (((HE2.out.trans HE3.out).trans HE4.out).trans HE5.out)
  clear E5 HE1 HE2 HE3 HE4 HE5
  obtain ⟨w6, hw6⟩ : ∃ w6 : World, w6 = (w5.alloc (rowO [1, 2])).alloc (rowO [-1, 2]) := ⟨_, rfl⟩
  have HE6 : Hid (Ext w5 w6) := Lib.hid (hw6 ▸ (Ext.alloc w5 _).trans (Ext.alloc _ _))
  rw [← hw6]
  clear hw6
  go_upto_region 9 with (go_at_call 38
                         refine (Steps_any [(-2, 1), (1, 0), (3, 2)] [(-2, 1), (1, 0), (3, 2)] _ _ _ ((HS1.out.ext (HW15.out.trans HE6.out)).ext (Ext.alloc _ _)) ((Blk.new w6 _ _).RSt (by decide))).mono ?_
                         rintro e w7 ⟨rfl, hE⟩
                         have HE7 := Lib.hid (HE6.out.trans ((Ext.alloc w6 _).trans hE))
                         clear hE)
  have cg : w7.cell? ⟨0, 0, Option.none⟩ = some (.func (.func 49) #[] #[]) := HG.out.ext (HW5.out.trans HE7.out)
  go_upto_region 10 with (first
    | (refine wpList_callv (.tmp 96) #[.tmp 97, .tmp 98] _ rfl (by rfl) #[] rfl fv_same #[v4, slV w7.heap.size 3] (by simp only [List.map_toArray, List.map_cons, List.map_nil, List.append_toArray, List.cons_append, List.nil_append]; rfl) ?_
       refine (Same_any [-1, 2, 3] [-1, 2, 3] _ _ _ ((HP4.out.ext (HW45.out.trans HE7.out)).ext (Ext.alloc _ _)) (lit0 w7 [-1, 2, 3] (by decide))).mono ?_
       rintro e w8 ⟨rfl, hE⟩
       refine ⟨_, rfl, ?_⟩
       simp only [Act.put, List.setIfInBounds_toArray, List.set_cons_zero, List.set_cons_succ]
       have HE8 := Lib.hid (HE7.out.trans ((Ext.alloc w7 _).trans hE))
       clear hE cg)
    | (go_at_call 25
       refine (clauseN _).mono ?_
       rintro e w9 ⟨rfl, hE⟩
       have HE9 := Lib.hid hE
       clear hE)
    | (go_at_call 27
       refine (cubeN _).mono ?_
       rintro e w10 ⟨rfl, hE⟩
       have HE10 := Lib.hid hE
       clear hE)
    | (go_at_call 17
       refine (cnfN _).mono ?_
       rintro e w11 ⟨rfl, hE⟩
       have HE11 := Lib.hid hE
       clear hE))
  obtain ⟨w12, hw12⟩ : ∃ w12 : World, w12 = w11 := ⟨_, rfl⟩
  have HE12 : Hid (Ext w5 w12) := Lib.hid (hw12 ▸ (((HE8.out.trans HE9.out).trans HE10.out).trans HE11.out))
  rw [← hw12]
  clear hw12 HE8 HE9 HE10 HE11
  go_wp2_with (first
    | (go_at_call 23
       have hcc := Value_any [-2] 2 _ _ (all64_of _ (by decide)) (by unfold I64; decide) (lit0 w12 [-2] (by decide))
       rw [value1] at hcc
       refine hcc.mono ?_
       rintro e w13 ⟨rfl, hE⟩
       have HE13 := Lib.hid (HE12.out.trans ((Ext.alloc w12 _).trans hE))
       clear hE hcc)
    | (go_at_call 14
       have e1 : (w13.alloc (rowO [1])).heap.size = w13.heap.size + 1 := by simp
       have hl3 := lit3 (w13.alloc (rowO [1])) [1, 2] [-1, 3] [-1] (by decide) (by decide) (by decide)
       rw [e1] at hl3
       have hcc := Under_any [1] [[1, 2], [-1, 3], [-1]] _ _ _ (all64_of _ (by decide)) (all64L_of _ (by decide)) (((((lit0 w13 [1] (by decide)).ext (Ext.alloc _ _)).ext (Ext.alloc _ _)).ext (Ext.alloc _ _)).ext (Ext.alloc _ _)) hl3 (fun _ => by decide)
       rw [under1] at hcc
       refine hcc.mono ?_
       rintro e w14 ⟨v14, rfl, hown, hE⟩
       have HU14 := Lib.hid hown.reads
       have HE14 := Lib.hid (HE13.out.trans ((((((Ext.alloc w13 _).trans (Ext.alloc _ _)).trans (Ext.alloc _ _)).trans (Ext.alloc _ _)).trans (Ext.alloc _ _)).trans hE))
       clear hE hcc hown hl3 e1)
    | (go_at_call 15
       have hl2 : RLL ((w14.alloc (rowO [3])).alloc (.cells #[slV w14.heap.size 1, .slice Option.none 0 0] 22)) (slV (w14.heap.size + 1) 2) [[3], []] :=
         .two (Blk.new' (by simp)) ((lit0 w14 [3] (by decide)).ext (Ext.alloc _ _)) (RI.none _)
       refine (SameAll_any [[3], []] [[3], []] _ _ _ ((HU14.out.ext' (Ext.alloc _ _)).ext' (Ext.alloc _ _)) hl2).mono ?_
       rintro e w15 ⟨rfl, hE⟩
       have HE15 := Lib.hid (HE14.out.trans (((Ext.alloc w14 _).trans (Ext.alloc _ _)).trans hE))
       clear hE hl2))
  go_ret
  exact ⟨rfl, HW5.out.trans HE15.out⟩

end Go.Proofs.YteokoaggkpjdeaaDoor
namespace Go.Proofs.YteokoaggkpjdeaaDoor
open Go.RowKit

def markP (f : List (List Int)) (i j v : Nat) : Bool := markB (f.take i) v || ((f.getD i []).take j).any (fun x => varOf x == (v : Int))
theorem markP_zero (f : List (List Int)) (v : Nat) : markP f 0 0 v = false := by simp [markP, markB]
theorem markP_step (f : List (List Int)) (i j v : Nat) (hi : i < f.length) (hj : j < f[i].length) : markP f i (j + 1) v = (markP f i j v || (varOf f[i][j] == (v : Int))) := by
  unfold markP
  rw [getD_of f i hi, List.take_succ_eq_append_getElem hj, List.any_append, Bool.or_assoc]
  simp
theorem markP_next (f : List (List Int)) (i v : Nat) (hi : i < f.length) : markP f i f[i].length v = markP f (i + 1) 0 v := by
  unfold markP markB
  rw [getD_of f i hi, List.take_length, List.take_succ_eq_append_getElem hi, List.any_append]
  simp
theorem markP_end (f : List (List Int)) (v : Nat) : markP f f.length 0 v = markB f v := by
  unfold markP
  rw [List.take_length]; simp

/-- The marks after i lists and j elements. -/
def VS (w wr : World) (f : List (List Int)) (i j : Nat) : Prop :=
  ∃ marks : List Bool, marks.length = 65537 ∧ Blk wr w.heap.size 93 (marks.map Value.bool) ∧ Ext w wr ∧ ∀ v, v < 65537 → marks[v]? = some (markP f i j v)

section
variable {w wr wr' : World} {f : List (List Int)} {i j v : Nat}
theorem VS.cell (h : VS w wr f i j) (hv : v < 65537) : wr.cell? ⟨w.heap.size, v, none⟩ = some (.bool (markP f i j v)) ∧ wr.frozen? ⟨w.heap.size, v, none⟩ = false := by
  obtain ⟨marks, h1, h2, h3, h4⟩ := h
  refine ⟨?_, h2.free v⟩
  rw [h2.cell, List.getElem?_map, h4 v hv]; rfl
theorem VS.ext (h : VS w wr f i j) : Ext w wr := h.choose_spec.2.2.1
theorem VS.step (h : VS w wr f i j) (hi : i < f.length) (hj : j < f[i].length) (hv : varOf f[i][j] = (v : Int)) : VS w (wr.setCell ⟨w.heap.size, v, none⟩ (.bool true)) f i (j + 1) := by
  obtain ⟨marks, h1, h2, h3, h4⟩ := h
  refine ⟨marks.set v true, by simp [h1], ?_, (Chg.set wr w.heap.size v _).toExt h3 (fun k hk => by omega), fun u hu => ?_⟩
  · rw [List.map_set]; exact h2.set v _
  · rw [markP_step f i j u hi hj, hv]
    by_cases e : v = u
    · subst e
      rw [List.getElem?_set_self (by omega)]; simp
    · rw [List.getElem?_set_ne e, h4 u hu]
      congr 1
      rw [show ((v : Int) == (u : Int)) = false by simp; omega, Bool.or_false]
theorem VS.next (hi : i < f.length) (h : VS w wr f i f[i].length) : VS w wr f (i + 1) 0 := by
  obtain ⟨marks, h1, h2, h3, h4⟩ := h
  exact ⟨marks, h1, h2, h3, fun u hu => by rw [h4 u hu, markP_next f i u hi]⟩
theorem VS.start (w : World) (f : List (List Int)) : VS w (w.alloc (.cells Tryd.zeroCells93 93)) f 0 0 := by
  refine ⟨List.replicate 65537 false, by rw [List.length_replicate], ?_, Ext.alloc w _, fun u hu => ?_⟩
  · rw [List.map_replicate, zarr_eq]; exact Blk.new w _ _
  · rw [List.getElem?_replicate, if_pos hu, markP_zero]
theorem VS.keep (h : VS w wr f i j) {S : Nat → Prop} (hc : Chg S wr wr') (hS : ∀ k, S k → w.heap.size < k) : VS w wr' f i j := by
  obtain ⟨marks, h1, h2, h3, h4⟩ := h
  exact ⟨marks, h1, hc.blk h2 (fun hs => by have := hS _ hs; omega), hc.toExt h3 (fun k hk => by have := hS k hk; omega), h4⟩
theorem VS.lt (h : VS w wr f i j) : w.heap.size + 1 ≤ wr.heap.size := by
  obtain ⟨marks, h1, h2, h3, h4⟩ := h
  exact h2.lt
end

theorem refVar_nat (x : Int) (hx : I64 x) (q : Nat) (hq : varOf x = (q : Int)) (w : World) : Calls Tryd.prog 59 #[.int .i64 x] w fun e w' => e = .returned (.int .i64 (q : Int)) ∧ ∃ n, w' = w.drewN n := by
  have := PAsgPoints.skolemref01_Var.calls x (varOf x) w (PAsgPoints.Var_f x hx)
  rw [hq] at this
  refine this.mono ?_
  rintro e w' ⟨rfl, ⟨⟨n, rfl⟩⟩⟩
  exact ⟨rfl, n, rfl⟩

def PostVars (w : World) (r : List Int) (e : Ending) (w' : World) : Prop := ∃ v', e = .returned v' ∧ OwnI w' w.heap.size v' r ∧ Ext w w'

set_option maxRecDepth 100000 in
set_option maxHeartbeats 4000000 in
theorem refVars_any (f : List (List Int)) (u : Value) (w : World) (h64 : All64L f) (kr : RLL w u f) : Calls Tryd.prog 58 #[u] w (PostVars w (VarsV f)) := by
  have hmx := kr.max
  obtain ⟨A, c, vs, rfl, h1, h2, h3, h4, h5⟩ := kr
  have H4 := Lib.hid h4
  have H5 := Lib.hid h5
  have H3 := Lib.hid h3
  have HMX := Lib.hid hmx
  clear h4 h5 h3 hmx
  have HV0 := Lib.hid (VS.start w f)
  go_enter Tryd.func58, Tryd.ntmps58
  go_wp2_with fail
  go_loopg [4] vs.length (fun gn i wr => ∃ k : Nat, k ≤ vs.length ∧ gn + k = vs.length ∧ i = .int .i64 k ∧ Hid (VS w wr f k 0))
  case atStart => exact ⟨0, Nat.zero_le _, by omega, rfl, HV0⟩
  case round =>
    obtain ⟨k, hk, hgk, rfl, HS⟩ := hrel
    by_cases hlt : k < vs.length
    · have hkf : k < f.length := by rw [← H4.out]; exact hlt
      obtain ⟨w1, rfl⟩ : ∃ w1 : World, w1 = wr := ⟨_, rfl⟩
      have HRK := Lib.hid (H5.out k hlt hkf)
      obtain ⟨E, ce, he, he1, he2, he3⟩ := H5.out k hlt hkf
      obtain ⟨L, hL⟩ : ∃ L, L = f[k].length := ⟨_, rfl⟩
      rw [← hL] at he he1 he2
      have HE3 := Lib.hid he3
      have HE := Lib.hid he
      have HL := Lib.hid hL
      have hk64 := h64 _ (List.getElem_mem hkf)
      have HROW := Lib.hid (fun (w' : World) (x : Ext w w') => (H3.out.ext x) k hlt)
      clear he3 he hL HV0
      go_wp2_with fail
      go_loopg [5] L (fun gn j wr => ∃ m : Nat, m ≤ L ∧ gn + m = L ∧ j = .int .i64 m ∧ Hid (VS w wr f k m))
      case atStart => exact ⟨0, Nat.zero_le _, by omega, rfl, HS⟩
      case round =>
        obtain ⟨m, hm, hgm, rfl, HS2⟩ := hrel
        obtain ⟨w2, rfl⟩ : ∃ w2 : World, w2 = wr := ⟨_, rfl⟩
        obtain ⟨ad, rfl, hrow⟩ := HROW.out _ HS2.out.ext
        rw [HE.out] at hrow
        by_cases hml : m < L
        · have hmf : m < f[k].length := by rw [← HL.out]; exact hml
          obtain ⟨bd, rfl, hy⟩ := (HE3.out.ext HS2.out.ext).int m hmf
          have hx := hk64 _ (List.getElem_mem hmf)
          have hvr := varOf_range f[k][m]
          obtain ⟨x, hxe⟩ : ∃ x, x = f[k][m] := ⟨_, rfl⟩
          rw [← hxe] at hy hx hvr
          obtain ⟨q, hq⟩ : ∃ q : Nat, varOf x = (q : Int) := ⟨(varOf x).toNat, by omega⟩
          have hq1 : q < 65537 := by omega
          obtain ⟨hcell, hfree⟩ := HS2.out.cell hq1
          have hst := fun n : Nat => (HS2.out.keep (S := fun _ => False) ((Ext.drewN w2 n).chg _) (fun _ h => h.elim)).step hkf hmf (v := q) (by rw [← hxe]; exact hq)
          have HST := Lib.hid hst
          have HVR := Lib.hid (refVar_nat x hx q hq)
          clear hst hxe hq hvr
          go_wp2_with (go_at_call 59; refine (HVR.out _).mono ?_; rintro e w3 ⟨rfl, nd, rfl⟩)
          go_roundg (L - (m + 1))
          case measure => omega
          case rel => exact ⟨m + 1, by omega, by omega, by go_num, HST.out nd⟩
        · obtain rfl : m = L := by omega
          have hnx := VS.next hkf (HL.out ▸ HS2.out)
          have HNX := Lib.hid hnx
          clear hnx
          go_wp2
          go_roundg (vs.length - (k + 1))
          case measure => omega
          case rel => exact ⟨k + 1, by omega, by omega, by go_num, HNX⟩
    · obtain rfl : k = vs.length := by omega
      have hsv : VS w wr f f.length 0 := H4.out ▸ HS.out
      obtain ⟨w1, rfl⟩ : ∃ w1 : World, w1 = wr := ⟨_, rfl⟩
      have HSV := Lib.hid hsv
      clear hsv HS hgk hk HV0
      go_wp2_with fail
      obtain ⟨M, hM⟩ : ∃ M : Nat, M = 65536 := ⟨_, rfl⟩
      have HM1 : Hid (M = 65536) := Lib.hid hM
      clear hM
      go_loopg [6, 7] M (fun gn o i wr => ∃ k : Nat, k ≤ M ∧ gn + k = M ∧ i = .int .i64 ((k : Int) + 1) ∧ Hid (VS w wr f f.length 0 ∧ OwnI wr (w.heap.size + 1) o (varsTo f (k + 1))))
      case atStart => exact ⟨0, by omega, by omega, rfl, HSV.out, by rw [varsTo_one]; exact OwnI.nil _ _⟩
      case round =>
        obtain ⟨k, hk, hgk, rfl, HS⟩ := hrel
        have hM1 := HM1.out
        by_cases hlt : k < M
        · obtain ⟨hcell, hfree⟩ := HS.out.1.cell (v := k + 1) (by omega)
          have hle : (k : Int) + 1 ≤ 65536 := by omega
          rw [markP_end] at hcell
          have hvl := varsTo_len f (k + 1)
          have hvs := varsTo_succ f (k + 1) (by omega)
          cases hmk : markB f (k + 1)
          · rw [hmk] at hcell
            rw [hmk, if_neg (by decide), List.append_nil] at hvs
            have HVS := Lib.hid hvs
            clear hvs hmk hvl hM1
            go_wp2_with fail
            go_roundg (M - (k + 1))
            case measure => omega
            case rel => exact ⟨k + 1, by omega, by omega, by go_num, HS.out.1, by rw [HVS.out]; exact HS.out.2⟩
          · rw [hmk] at hcell
            rw [hmk, if_pos rfl] at hvs
            have hvb : (varsTo f (k + 1)).length ≤ 10000000 := by omega
            have HVS := Lib.hid hvs
            clear hvs hmk hvl hM1
            obtain ⟨w2, rfl⟩ : ∃ w2 : World, w2 = wr := ⟨_, rfl⟩
            go_wp2_with (at_builtin
                         refine app_1 rfl (.tmp 39) (.tmp 41) rfl (base := w.heap.size + 1) (xs := varsTo f (k + 1)) (y := (k : Int) + 1) rfl rfl HS.out.2 hvb HS.out.1.lt ?_
                         intro v' w3 hown hg
                         have HOW := Lib.hid hown
                         have HSV2 := Lib.hid (HS.out.1.keep hg (fun i hi => (own_typed HS.out.2 hi.symm).1))
                         clear hown hg)
            go_roundg (M - (k + 1))
            case measure => omega
            case rel => exact ⟨k + 1, by omega, by omega, by go_num, HSV2.out, by rw [HVS.out]; exact HOW.out⟩
        · have hle : ¬ (k : Int) + 1 ≤ 65536 := by omega
          have hke : k + 1 = 65537 := by omega
          have HKE := Lib.hid hke
          clear hke hM1
          go_wp2
          go_ret
          have := HS.out.2
          rw [HKE.out] at this
          exact ⟨_, rfl, own_lower this (by omega), HS.out.1.ext⟩
end Go.Proofs.YteokoaggkpjdeaaDoor
namespace Go.Proofs.YteokoaggkpjdeaaDoor
open Go.RowKit

set_option maxRecDepth 100000 in
set_option maxHeartbeats 4000000 in
theorem refNumber_any (vs xs : List Int) (v u : Value) (w : World) (h64 : All64 vs) (k64 : All64 xs) (hr : RI w v vs) (kr : RI w u xs) :
    Calls Tryd.prog 22 #[v, u] w fun e w' => e = .returned (.tuple #[.int .u64 (NumberV vs xs).1, .int .i64 (NumberV vs xs).2]) ∧ Ext w w' := by
  unfold NumberV
  have HL := Lib.hid (refMany_any vs v w h64 hr)
  have KL := Lib.hid (fun (w' : World) (he : Ext w w') => refMay_any xs u w' k64 (kr.ext he))
  cases hm : manyB vs
  · rw [hm] at HL
    clear hm
    obtain ⟨A, c, rfl, h1, h2, h3⟩ := hr
    obtain ⟨B, d, rfl, k1, k2, k3⟩ := kr
    rw [if_neg (by simp)]
    clear h3 k3
    go_enter Tryd.func22, Tryd.ntmps22
    go_wp2_with (go_at_call 54; refine HL.out.mono ?_; rintro e w' ⟨rfl, hE⟩; have HE := Lib.hid hE; clear hE)
    go_ret2
    exact ⟨rfl, HE.out⟩
  · rw [hm] at HL
    cases km : mayB xs
    · rw [km] at KL
      clear hm km
      obtain ⟨A, c, rfl, h1, h2, h3⟩ := hr
      obtain ⟨B, d, rfl, k1, k2, k3⟩ := kr
      rw [if_neg (by simp)]
      clear h3 k3
      go_enter Tryd.func22, Tryd.ntmps22
      go_wp2_with (first
        | (go_at_call 54; refine HL.out.mono ?_; rintro e w' ⟨rfl, hE⟩; have HE := Lib.hid hE; clear hE)
        | (go_at_call 42; refine (KL.out _ HE.out).mono ?_; rintro e w2 ⟨rfl, hE⟩; have HE2 := Lib.hid (HE.out.trans hE); clear hE))
      go_ret2
      exact ⟨rfl, HE2.out⟩
    · rw [km] at KL
      rw [if_pos ⟨rfl, rfl⟩]
      have hml := many_len hm
      have hkl := may_len km
      have HVX := Lib.hid (VarsV_one ((mayB_iff xs).1 km))
      clear hm km
      cases he : eqfB (fun v x => v == varOf x) vs xs
      all_goals
        have HR := Lib.hid hr
        have KR := Lib.hid kr
        obtain ⟨A, c, rfl, h1, h2, h3⟩ := hr
        obtain ⟨B, d, rfl, k1, k2, k3⟩ := kr
        have K3 := Lib.hid k3
        clear h3 k3
        have hd : decide (vs = VarsV [xs]) = eqfB (fun v x => v == varOf x) vs xs := by rw [HVX.out, eqfB_map]
        rw [he] at hd
        have HD := Lib.hid hd
        have HEQ := Lib.hid he
        clear hd he
        first | rw [if_pos rfl] | rw [if_neg (by simp)]
        go_enter Tryd.func22, Tryd.ntmps22
        go_upto_region 3 with (first
          | (go_at_call 54; refine HL.out.mono ?_; rintro e w' ⟨rfl, hE⟩; have HE := Lib.hid hE; clear hE)
          | (go_at_call 42; refine (KL.out _ HE.out).mono ?_; rintro e w2 ⟨rfl, hE⟩; have HE2 := Lib.hid (HE.out.trans hE); clear hE))
      · go_wp2_with (first
          | (go_at_call 58
             refine (refVars_any [xs] _ _ (fun c hc => by rw [List.mem_singleton.1 hc]; exact k64) ((Blk.new w2 22 [.slice B xs.length d]).RLL (by simp) rfl (fun j hj hj' => by obtain rfl : j = 0 := (by simp at hj'; omega); exact KR.out.ext (HE2.out.trans (Ext.alloc _ _))))).mono ?_
             rintro e w3 ⟨v3, rfl, ho, hE⟩
             have HO := Lib.hid ho.reads
             have HE3 := Lib.hid (HE2.out.trans ((Ext.alloc w2 _).trans hE))
             clear ho hE)
          | (go_at_call 49
             have hs := Same_any vs (VarsV [xs]) _ _ _ (HR.out.ext HE3.out) HO.out
             rw [HD.out] at hs
             refine hs.mono ?_
             rintro e w4 ⟨rfl, hE⟩
             have HE4 := Lib.hid (HE3.out.trans hE)
             clear hE hs))
        go_ret2
        exact ⟨rfl, HE4.out⟩
      · have hle : xs.length ≤ 64 := by have := ((eqfB_iff _ _ _).1 HEQ.out).1; omega
        go_wp2_with (first
          | (go_at_call 58
             refine (refVars_any [xs] _ _ (fun c hc => by rw [List.mem_singleton.1 hc]; exact k64) ((Blk.new w2 22 [.slice B xs.length d]).RLL (by simp) rfl (fun j hj hj' => by obtain rfl : j = 0 := (by simp at hj'; omega); exact KR.out.ext (HE2.out.trans (Ext.alloc _ _))))).mono ?_
             rintro e w3 ⟨v3, rfl, ho, hE⟩
             have HO := Lib.hid ho.reads
             have HE3 := Lib.hid (HE2.out.trans ((Ext.alloc w2 _).trans hE))
             clear ho hE)
          | (go_at_call 49
             have hs := Same_any vs (VarsV [xs]) _ _ _ (HR.out.ext HE3.out) HO.out
             rw [HD.out] at hs
             refine hs.mono ?_
             rintro e w4 ⟨rfl, hE⟩
             have HE4 := Lib.hid (HE3.out.trans hE)
             have K4 := Lib.hid (K3.out.ext HE4.out)
             clear hE hs))
        go_loopg [6, 7] xs.length (fun gn s i wr => ∃ k : Nat, k ≤ xs.length ∧ gn + k = xs.length ∧ i = .int .i64 k ∧ w4 = wr ∧ s = .int .u64 (numL xs k))
        case atStart => exact ⟨0, Nat.zero_le _, by omega, rfl, rfl, rfl⟩
        case round =>
          obtain ⟨k, hk, hgk, rfl, rfl, rfl⟩ := hrel
          by_cases hlt : k < xs.length
          · obtain ⟨bd, rfl, hy⟩ := K4.out.int k hlt
            have hg : xs.getD k 0 = xs[k] := by simp [hlt]
            obtain ⟨y, hy'⟩ : ∃ y, y = xs[k] := ⟨_, rfl⟩
            obtain ⟨q, hq⟩ : ∃ q, q = numL xs k := ⟨_, rfl⟩
            rw [← hy'] at hy hg
            rw [← hq]
            have HY := Lib.hid hy'
            have HG := Lib.hid hg
            have HQ := Lib.hid hq
            clear hy' hg hq
            by_cases hpos : 0 < y
            · have hwr : IntKind.u64.wrap (2 ^ min k 64) = IntKind.u64.wrap (2 ^ k) := by rw [show min k 64 = k by omega]
              have HWR := Lib.hid hwr
              have HPOS := Lib.hid hpos
              clear hwr
              go_wp2
              go_roundg (xs.length - (k + 1))
              case measure => omega
              case rel =>
                refine ⟨k + 1, by omega, by omega, by go_num, rfl, ?_⟩
                unfold numL
                rw [HG.out, if_pos HPOS.out, ← HQ.out, HWR.out]
            · have HPOS := Lib.hid hpos
              go_wp2
              go_roundg (xs.length - (k + 1))
              case measure => omega
              case rel =>
                refine ⟨k + 1, by omega, by omega, by go_num, rfl, ?_⟩
                unfold numL
                rw [HG.out, if_neg (by have := HPOS.out; omega), ← HQ.out]
          · obtain rfl : k = xs.length := by omega
            go_wp2
            go_ret2
            exact ⟨rfl, HE4.out⟩
end Go.Proofs.YteokoaggkpjdeaaDoor
namespace Go.Proofs.YteokoaggkpjdeaaDoor
open Go.RowKit

theorem Same_same (r : List Int) (v u : Value) (w : World) (hr : RI w v r) (kr : RI w u r) : Calls Tryd.prog 49 #[v, u] w fun e w' => e = .returned (.bool true) ∧ Ext w w' := by
  have := Same_any r r v u w hr kr
  rw [decide_eq_true rfl] at this
  exact this

set_option maxRecDepth 100000 in
set_option maxHeartbeats 20000000 in
theorem points_law (vs xs : List Int) (n : Int) (v u : Value) (w : World) (h64 : All64 vs) (k64 : All64 xs) (hr : RI w v vs) (kr : RI w u xs) (hn0 : 0 ≤ n) (hn1 : n < 18446744073709551616) (hG : HasSame w) :
    Calls Tryd.prog 4 #[v, u, .int .u64 n] w fun e w' => e = .returned (.bool true) ∧ Ext w w' := by
  have HR := Lib.hid hr
  have KR := Lib.hid kr
  have HG := Lib.hid hG
  have HN1 := Lib.hid hn1
  obtain ⟨A, c, rfl, h1, h2, h3⟩ := hr
  obtain ⟨B, d, rfl, k1, k2, k3⟩ := kr
  clear hG h3 k3 hn1
  by_cases hv : vs.length ≤ 200
  · have hv' : ¬ (200 : Int) < vs.length := by omega
    by_cases hx : xs.length ≤ 200
    · have hx' : ¬ (200 : Int) < xs.length := by omega
      have hc1 : ∀ a : Int, (a == a) = true := fun a => by simp
      have HPT := Lib.hid (Point_any vs n hn0 HN1.out _ w h64 HR.out)
      have HNU := Lib.hid (fun (w' : World) (he : Ext w w') => Number_any vs xs _ _ w' h64 k64 (HR.out.ext he) (KR.out.ext he))
      have HRP := Lib.hid (fun (w' : World) (he : Ext w w') => refPoint_any vs n _ w' h64 (HR.out.ext he) hn0 (by have := HN1.out; omega))
      have HRN := Lib.hid (fun (w' : World) (he : Ext w w') => refNumber_any vs xs _ _ w' h64 k64 (HR.out.ext he) (KR.out.ext he))
      generalize PointV n vs = P at HPT HRP
      generalize NumberV vs xs = N at HNU HRN
      obtain ⟨P1, P2⟩ := P
      obtain ⟨N1, N2⟩ := N
      simp only at HPT HRP HNU HRN
      go_enter Tryd.func4, Tryd.ntmps4
      go_upto_region 7 with (first
        | (go_at_call 19
           refine HPT.out.mono ?_
           rintro e w1 ⟨v1, rfl, ho, hE⟩
           have HO1 := Lib.hid ho.reads
           have HE1 := Lib.hid hE
           clear ho hE)
        | (go_at_call 20
           refine (HRP.out _ HE1.out).mono ?_
           rintro e w2 ⟨v2, rfl, ho, hE⟩
           have HO2 := Lib.hid ho
           have HE2 := Lib.hid (HE1.out.trans hE)
           have HE12 := Lib.hid hE
           clear ho hE)
        | (go_at_call 21
           refine (HNU.out _ HE2.out).mono ?_
           rintro e w3 ⟨rfl, rfl⟩)
        | (go_at_call 22
           refine (HRN.out _ HE2.out).mono ?_
           rintro e w4 ⟨rfl, hE⟩
           have HE4 := Lib.hid (HE2.out.trans hE)
           have HE24 := Lib.hid hE
           clear hE))
      have cg : w4.cell? ⟨0, 0, Option.none⟩ = some (.func (.func 49) #[] #[]) := HG.out.ext HE4.out
      go_wp2_with (first
        | (refine wpList_callv (.tmp 48) #[.tmp 49, .tmp 50] _ rfl (by rfl) #[] rfl fv_same #[v1, v2] (by simp only [List.map_toArray, List.map_cons, List.map_nil, List.append_toArray, List.cons_append, List.nil_append]; rfl) ?_
           refine (Same_same P1 _ _ _ (HO1.out.ext (HE12.out.trans HE24.out)) (HO2.out.ext HE24.out)).mono ?_
           rintro e w5 ⟨rfl, hE⟩
           refine ⟨_, rfl, ?_⟩
           simp only [Act.put, List.setIfInBounds_toArray, List.set_cons_zero, List.set_cons_succ]
           have HE5 := Lib.hid (HE4.out.trans hE)
           clear hE cg)
        | (go_at_call 12; refine (awake_any _ (HG.out.ext HE5.out)).mono ?_; rintro e w6 ⟨rfl, hE⟩; have HE6 := Lib.hid (HE5.out.trans hE); clear hE))
      go_ret
      exact ⟨rfl, HE6.out⟩
    · have hx' : (200 : Int) < xs.length := by omega
      go_enter Tryd.func4, Tryd.ntmps4
      go_wp2_with (go_at_call 12; refine (awake_any _ HG.out).mono ?_; rintro e w6 ⟨rfl, hE⟩; have HE6 := Lib.hid hE; clear hE)
      go_ret
      exact ⟨rfl, HE6.out⟩
  · have hv' : (200 : Int) < vs.length := by omega
    go_enter Tryd.func4, Tryd.ntmps4
    go_wp2_with (go_at_call 12; refine (awake_any _ HG.out).mono ?_; rintro e w6 ⟨rfl, hE⟩; have HE6 := Lib.hid hE; clear hE)
    go_ret
    exact ⟨rfl, HE6.out⟩
end Go.Proofs.YteokoaggkpjdeaaDoor
