/- Walk of the examples of the chapter (awake). The walk of the law's function large. The walk of the law AsgValues. -/
import Derived.Test.YteokoaggkpjdeaaDoorGgAsgValues
import Derived.Test.YteokoaggkpjdeaaDoorGe
import Derived.Laws.AppendOwnNone
namespace Go.Proofs.YteokoaggkpjdeaaDoor
open Go.RowKit

set_option maxRecDepth 100000 in
set_option maxHeartbeats 20000000 in
theorem awake_any (w : World) (hG : HasSame w) : Calls Tryd.prog 12 #[] w fun e w' => e = .returned (.bool true) ∧ Ext w w' := by
  have HG := Lib.hid hG
  clear hG
  go_enter Tryd.func12, Tryd.ntmps12
  go_upto_region 3 with (go_at_call 34
                         refine (unitsC [[1, 2], [-2], [-1, 3]] [] _ _ _ units1 _ _ _ (all64_of _ (by decide)) (all64L_of _ (by decide)) (RI.none _) (lit3 w [1, 2] [-2] [-1, 3] (by decide) (by decide) (by decide)) (fun _ => by decide)).mono ?_
                         rintro e w1 ⟨A1, d1, rfl, hst, hE⟩
                         have HS1 := Lib.hid hst
                         have HE1 := Lib.hid (((((Ext.alloc w _).trans (Ext.alloc _ _)).trans (Ext.alloc _ _)).trans (Ext.alloc _ _)).trans hE)
                         clear hst hE)
  go_upto_region 4 with (go_at_call 34
                         refine (unitsC [[1], [-1]] [] _ _ _ units2 _ _ _ (all64_of _ (by decide)) (all64L_of _ (by decide)) (RI.none _) (lit2 w1 [1] [-1] (by decide) (by decide)) (fun _ => by decide)).mono ?_
                         rintro e w2 ⟨A2, d2, rfl, hst, hE⟩
                         have HS2 := Lib.hid hst
                         have HE2 := Lib.hid ((((Ext.alloc w1 _).trans (Ext.alloc _ _)).trans (Ext.alloc _ _)).trans hE)
                         clear hst hE)
  go_upto_region 5 with (go_at_call 34
                         refine (unitsC [[1, 2]] [-1, -2] _ _ _ units3 _ _ _ (all64_of _ (by decide)) (all64L_of _ (by decide)) (by
                           have := lit0 ((w2.alloc (rowO [1, 2])).alloc (.cells #[slV w2.heap.size 2] 22)) [-1, -2] (by decide)
                           rw [show ((w2.alloc (rowO [1, 2])).alloc (.cells #[slV w2.heap.size 2] 22)).heap.size = w2.heap.size + 1 + 1 by simp] at this
                           exact this) ((lit1 w2 [1, 2] (by decide)).ext' (Ext.alloc _ _)) (fun _ => by decide)).mono ?_
                         rintro e w3 ⟨A3, d3, rfl, hst, hE⟩
                         have HE3 := Lib.hid ((((Ext.alloc w2 _).trans (Ext.alloc _ _)).trans (Ext.alloc _ _)).trans hE)
                         clear hst hE)
  go_upto_region 6 with (go_at_call 19
                         have hpt := Point_any [1, 2, 3] 6 (by decide) (by decide) _ _ (all64_of _ (by decide)) (lit0 w3 [1, 2, 3] (by decide))
                         rw [point1] at hpt
                         refine hpt.mono ?_
                         rintro e w4 ⟨v4, rfl, hown, hE⟩
                         have HP4 := Lib.hid (hown.reads)
                         have HE4 := Lib.hid ((Ext.alloc w3 _).trans hE)
                         clear hown hE hpt)
  go_upto_region 7 with (go_at_call 19
                         have hpt := Point_any [1, 2, 3] 8 (by decide) (by decide) _ _ (all64_of _ (by decide)) (lit0 w4 [1, 2, 3] (by decide))
                         rw [point2] at hpt
                         refine hpt.mono ?_
                         rintro e w5 ⟨v5, rfl, hown, hE⟩
                         have HE5 := Lib.hid ((Ext.alloc w4 _).trans hE)
                         clear hown hE hpt)
  go_upto_region 8 with (go_at_call 21
                         have hnu := Number_any [1, 2] [-1, 2] _ _ _ (all64_of _ (by decide)) (all64_of _ (by decide)) ((lit0 w5 [1, 2] (by decide)).ext (Ext.alloc _ _)) (by
                           have := lit0 (w5.alloc (rowO [1, 2])) [-1, 2] (by decide)
                           rw [show (w5.alloc (rowO [1, 2])).heap.size = w5.heap.size + 1 by simp] at this
                           exact this)
                         rw [number1] at hnu
                         refine hnu.mono ?_
                         rintro e w6 ⟨rfl, rfl⟩
                         clear hnu)
  have E5 : Ext w w5 := (((HE1.out.trans HE2.out).trans HE3.out).trans HE4.out).trans HE5.out
  have HW5 := Lib.hid E5
  have HW45 := Lib.hid HE5.out
  have HW15 := Lib.hid (((HE2.out.trans HE3.out).trans HE4.out).trans HE5.out)
  clear E5 HE1 HE2 HE3 HE4 HE5
  obtain ⟨w6, hw6⟩ : ∃ w6 : World, w6 = (w5.alloc (rowO [1, 2])).alloc (rowO [-1, 2]) := ⟨_, rfl⟩
  have HE6 : Hid (Ext w5 w6) := Lib.hid (hw6 ▸ (Ext.alloc w5 _).trans (Ext.alloc _ _))
  rw [← hw6]
  clear hw6
  go_upto_region 9 with (go_at_call 38
                         refine (Steps_any [(-2, 1), (1, 0), (3, 2)] [(-2, 1), (1, 0), (3, 2)] _ _ _ ((HS1.out.ext (HW15.out.trans HE6.out)).ext (Ext.alloc _ _)) ((Blk.new w6 _ _).RSt (by decide))).mono ?_
                         rintro e w7 ⟨rfl, hE⟩
                         have HE7 := Lib.hid (HE6.out.trans ((Ext.alloc w6 _).trans hE))
                         clear hE)
  have cg : w7.cell? ⟨0, 0, Option.none⟩ = some (.func (.func 49) #[] #[]) := HG.out.ext (HW5.out.trans HE7.out)
  go_upto_region 10 with (first
    | (refine wpList_callv (.tmp 96) #[.tmp 97, .tmp 98] _ rfl (by rfl) #[] rfl fv_same #[v4, slV w7.heap.size 3] (by simp only [List.map_toArray, List.map_cons, List.map_nil, List.append_toArray, List.cons_append, List.nil_append]; rfl) ?_
       refine (Same_any [-1, 2, 3] [-1, 2, 3] _ _ _ ((HP4.out.ext (HW45.out.trans HE7.out)).ext (Ext.alloc _ _)) (lit0 w7 [-1, 2, 3] (by decide))).mono ?_
       rintro e w8 ⟨rfl, hE⟩
       refine ⟨_, rfl, ?_⟩
       simp only [Act.put, List.setIfInBounds_toArray, List.set_cons_zero, List.set_cons_succ]
       have HE8 := Lib.hid (HE7.out.trans ((Ext.alloc w7 _).trans hE))
       clear hE cg)
    | (go_at_call 25
       refine (clauseN _).mono ?_
       rintro e w9 ⟨rfl, hE⟩
       have HE9 := Lib.hid hE
       clear hE)
    | (go_at_call 27
       refine (cubeN _).mono ?_
       rintro e w10 ⟨rfl, hE⟩
       have HE10 := Lib.hid hE
       clear hE)
    | (go_at_call 17
       refine (cnfN _).mono ?_
       rintro e w11 ⟨rfl, hE⟩
       have HE11 := Lib.hid hE
       clear hE))
  obtain ⟨w12, hw12⟩ : ∃ w12 : World, w12 = w11 := ⟨_, rfl⟩
  have HE12 : Hid (Ext w5 w12) := Lib.hid (hw12 ▸ (((HE8.out.trans HE9.out).trans HE10.out).trans HE11.out))
  rw [← hw12]
  clear hw12 HE8 HE9 HE10 HE11
  go_wp2_with (first
    | (go_at_call 23
       have hcc := Value_any [-2] 2 _ _ (all64_of _ (by decide)) (by unfold I64; decide) (lit0 w12 [-2] (by decide))
       rw [value1] at hcc
       refine hcc.mono ?_
       rintro e w13 ⟨rfl, hE⟩
       have HE13 := Lib.hid (HE12.out.trans ((Ext.alloc w12 _).trans hE))
       clear hE hcc)
    | (go_at_call 14
       have e1 : (w13.alloc (rowO [1])).heap.size = w13.heap.size + 1 := by simp
       have hl3 := lit3 (w13.alloc (rowO [1])) [1, 2] [-1, 3] [-1] (by decide) (by decide) (by decide)
       rw [e1] at hl3
       have hcc := Under_any [1] [[1, 2], [-1, 3], [-1]] _ _ _ (all64_of _ (by decide)) (all64L_of _ (by decide)) (((((lit0 w13 [1] (by decide)).ext (Ext.alloc _ _)).ext (Ext.alloc _ _)).ext (Ext.alloc _ _)).ext (Ext.alloc _ _)) hl3 (fun _ => by decide)
       rw [under1] at hcc
       refine hcc.mono ?_
       rintro e w14 ⟨v14, rfl, hown, hE⟩
       have HU14 := Lib.hid hown.reads
       have HE14 := Lib.hid (HE13.out.trans ((((((Ext.alloc w13 _).trans (Ext.alloc _ _)).trans (Ext.alloc _ _)).trans (Ext.alloc _ _)).trans (Ext.alloc _ _)).trans hE))
       clear hE hcc hown hl3 e1)
    | (go_at_call 15
       have hl2 : RLL ((w14.alloc (rowO [3])).alloc (.cells #[slV w14.heap.size 1, .slice Option.none 0 0] 22)) (slV (w14.heap.size + 1) 2) [[3], []] :=
         .two (Blk.new' (by simp)) ((lit0 w14 [3] (by decide)).ext (Ext.alloc _ _)) (RI.none _)
       refine (SameAll_any [[3], []] [[3], []] _ _ _ ((HU14.out.ext' (Ext.alloc _ _)).ext' (Ext.alloc _ _)) hl2).mono ?_
       rintro e w15 ⟨rfl, hE⟩
       have HE15 := Lib.hid (HE14.out.trans (((Ext.alloc w14 _).trans (Ext.alloc _ _)).trans hE))
       clear hE hl2))
  go_ret
  exact ⟨rfl, HW5.out.trans HE15.out⟩

end Go.Proofs.YteokoaggkpjdeaaDoor
namespace Go.Proofs.YteokoaggkpjdeaaDoor
open Go.RowKit

def largeB (ls f : List (List Int)) : Bool := decide (200 < f.length) || decide (2000 < total (ls ++ f))

theorem total_le' {l : List (List Int)} {M : Nat} (h : ∀ c ∈ l, c.length ≤ M) : total l ≤ l.length * M := by
  unfold total lens
  rw [List.take_length]
  induction l with
  | nil => simp
  | cons c l ih =>
    have h1 := h c (by simp)
    have h2 := ih fun c hc => h c (by simp [hc])
    rw [List.map_cons, List.sum_cons, List.length_cons, Nat.add_mul]
    omega

theorem lens_succ' (f : List (List Int)) (k : Nat) (hk : k < f.length) : lens f (k + 1) = lens f k + f[k].length := by
  unfold lens
  rw [List.take_succ_eq_append_getElem hk, List.map_append, List.sum_append]
  simp

theorem wrap64_add (a b : Int) : wrap64 (wrap64 a + b) = wrap64 (a + b) := by unfold wrap64; omega
theorem wrap64_rng (a : Int) : -9223372036854775808 ≤ wrap64 a ∧ wrap64 a ≤ 9223372036854775807 := by unfold wrap64; omega

/-- Behind the append: the rows of both. -/
structure LG (w0 : World) (ls f : List (List Int)) (A : Option Addr) (n : Nat) (c : Nat) (VS : List Value) (w1 : World) : Prop where
  ext : Ext w0 w1
  row : Row w1 A VS
  len : VS.length = n
  len2 : VS.length = (ls ++ f).length
  el : ∀ j (h : j < VS.length) (h' : j < (ls ++ f).length), RI w1 VS[j] (ls ++ f)[j]
  max : VS.length ≤ 9223372036854775807

theorem LG.mk' {w0 w w1 : World} {ls f : List (List Int)} {g : Nat} {vs us : List Value} {v : Value} {n : Nat} (hE : Ext w0 w) (hg : w0.heap.size ≤ g) (hown : w1.ownsRow g 22 1 v n (vs ++ us)) (hn : n = (vs ++ us).length) (hgr : w.grownBy w1 (some g))
    (h1 : vs.length = ls.length) (h2 : us.length = f.length) (e1 : ∀ j (h : j < vs.length) (h' : j < ls.length), RI w0 vs[j] ls[j]) (e2 : ∀ j (h : j < us.length) (h' : j < f.length), RI w0 us[j] f[j]) :
    ∃ A c, v = .slice A n c ∧ LG w0 ls f A n c (vs ++ us) w1 := by
  subst hn
  obtain ⟨A, c, rfl, h3, h4, h5⟩ := own_row hown
  have hE1 : Ext w0 w1 := hE.grown hgr fun k hk => by injection hk with hk; omega
  refine ⟨A, c, rfl, hE1, h5, rfl, by simp [h1, h2], fun j h h' => ?_, h4⟩
  by_cases hj : j < vs.length
  · rw [List.getElem_append_left hj, List.getElem_append_left (by omega)]
    exact (e1 j hj (by omega)).ext hE1
  · have hj' : vs.length ≤ j := by omega
    rw [List.getElem_append_right hj', List.getElem_append_right (by omega)]
    have := e2 (j - vs.length) (by simp at h; omega) (by simp at h'; omega)
    simp only [h1] at this ⊢
    exact this.ext hE1

set_option maxHeartbeats 2000000 in
theorem large_any (ls f : List (List Int)) (vs : List Value) (g : Nat) (u : Value) (w0 w : World) (hE : Ext w0 w) (hg : w0.heap.size ≤ g) (hl : Blk w g 22 vs) (hvl : vs.length = ls.length) (hn : vs.length ≤ 100) (h0 : 0 < vs.length)
    (hel : ∀ j (h : j < vs.length) (h' : j < ls.length), RI w0 vs[j] ls[j]) (h1c : ∀ v ∈ vs, v.oneCell' = true) (kr : RLL w0 u f) (hnil : ∀ c, u = .slice none 0 c → c = 0) (ht : f.length ≤ 200 → total (ls ++ f) ≤ 9223372036854775807) (hfl : f.length ≤ 5864062014634) :
    Calls Tryd.prog 11 #[u, slV g vs.length] w fun e w' => e = .returned (.bool (largeB ls f)) ∧ Ext w0 w' := by
  have hgs : g ≤ w.heap.size := Nat.le_of_lt hl.lt
  have hown : w.ownsRow g 22 1 (slV g vs.length) vs.length vs := blk_own (Nat.le_refl _) hl (Nat.le_refl _) (by unfold maxLen; omega) rfl (by simp)
  have HOWN := Lib.hid hown
  obtain ⟨B, d, us, rfl, k1, k2, k3, k4, k5⟩ := kr
  have HEL := Lib.hid hel
  have K3 := Lib.hid k3
  have K4 := Lib.hid k4
  have K5 := Lib.hid k5
  have HVL := Lib.hid hvl
  have H1C := Lib.hid h1c
  have HE := Lib.hid hE
  have HT := Lib.hid ht
  have HL := Lib.hid hl
  have hul : us.length ≤ 5864062014634 := by omega
  have HONE : Hid (∀ v ∈ us, v.oneCell' = true) := Lib.hid (fun v hv => by
    obtain ⟨j, hj, rfl⟩ := List.mem_iff_getElem.1 hv
    obtain ⟨A, c, he, -⟩ := k5 j hj (by omega)
    rw [he]; rfl)
  obtain ⟨i0, hi, hz0, hz1, hz2⟩ := info_parts info_ints
  have HI := Lib.hid hi
  have HZ := Lib.hid hz0
  have HZ1 := Lib.hid hz1
  have HZ2 := Lib.hid hz2
  clear hi hz0 hz1 hz2 hown hel k3 k5 hvl h1c hE ht hl k4
  go_enter Tryd.func11, Tryd.ntmps11
  by_cases hu0 : us.length = 0
  · have hus : us = [] := List.length_eq_zero_iff.1 hu0
    subst hus
    have HNIL := Lib.hid hnil
    clear hnil hu0 hul
    go_upto_region 3 with ((with_reducible refine at_dst 10 rfl ?_)
                           refine wpList_append_fits_any _ rfl (.tmp 8) (.tmp 9) 23 rfl g 22 i0 1 Tryd.underlying23 HI.out HZ1.out g vs.length vs.length vs rfl HOWN.out B 0 d [] rfl rfl (fun hb => ⟨rfl, HNIL.out d (by rw [hb]; rfl)⟩) (fun ad _ j u hu => by cases hu) (by simp) (by omega) ?_
                           intro w1 hown hgr
                           obtain ⟨A1, c1, hv1, hlg⟩ := LG.mk' (ls := ls) (f := f) HE.out hg hown (by simp) hgr HVL.out K4.out HEL.out K5.out
                           have HLG := Lib.hid hlg
                           rw [hv1]
                           clear hown hgr hlg hv1)
    have hkl0 : (0 : Int) ≤ lens (ls ++ f) 0 := by omega
    go_loopg [5, 12] (vs.length) (fun gn s i wr => ∃ k : Nat, k ≤ vs.length ∧ gn + k = vs.length ∧ i = .int .i64 k ∧ s = .int .i64 (wrap64 (lens (ls ++ f) k)) ∧ w1 = wr)
    case atStart => exact ⟨0, Nat.zero_le _, by omega, rfl, by rw [show wrap64 ((lens (ls ++ f) 0 : Nat) : Int) = 0 from by rw [show lens (ls ++ f) 0 = 0 from rfl]; unfold wrap64; omega], rfl⟩
    case round =>
      obtain ⟨k, hk, hgk, rfl, rfl, rfl⟩ := hrel
      by_cases hlt : k < vs.length
      · have hkv : k < (vs ++ []).length := by have := HLG.out.len; omega
        have hkr : k < (ls ++ f).length := by have := HLG.out.len2; omega
        obtain ⟨ad, rfl, hvk⟩ := HLG.out.row k hkv
        obtain ⟨CA, cc, hve, -, hcm, -⟩ := HLG.out.el k hkv hkr
        rw [hve] at hvk
        have hls := lens_succ (ls ++ f) k hkr
        obtain ⟨L, hL⟩ : ∃ L, L = (ls ++ f)[k].length := ⟨_, rfl⟩
        rw [← hL] at hvk hcm hls
        obtain ⟨q, hq⟩ : ∃ q, q = wrap64 (lens (ls ++ f) k) := ⟨_, rfl⟩
        have hqr := wrap64_rng (lens (ls ++ f) k)
        rw [← hq] at hqr
        have hqw : wrap64 (q + (L : Int)) = wrap64 (lens (ls ++ f) (k + 1)) := by rw [hq, wrap64_add, hls]; rfl
        rw [← hq]
        have HQW := Lib.hid hqw
        clear hve hls hL hq hqw hkl0 hkv hkr
        go_wp2
        go_roundg (vs.length - (k + 1))
        case measure => omega
        case rel => exact ⟨k + 1, by omega, by omega, by go_num, by rw [HQW.out], rfl⟩
      · obtain rfl : k = vs.length := by omega
        obtain ⟨q, hq⟩ : ∃ q, q = wrap64 (lens (ls ++ f) (vs.length)) := ⟨_, rfl⟩
        have hq2 : f.length ≤ 200 → q = total (ls ++ f) := fun hf2 => by
          have hmx := HT.out hf2
          have h1 := HLG.out.len
          have h2 := HLG.out.len2
          have h3 : lens (ls ++ f) vs.length = total (ls ++ f) := by unfold total; rw [← h2, h1]; try rfl
          rw [hq, h3]; unfold wrap64; omega
        rw [← hq]
        have HQ := Lib.hid hq2
        have hqr := wrap64_rng (lens (ls ++ f) vs.length)
        rw [← hq] at hqr
        clear hq hq2 hkl0 hgk hk
        have hfe : f.length = 0 := by have := K4.out; simpa using this.symm
        have HFE := Lib.hid hfe
        clear hfe
        go_wp2
        go_ret
        exact ⟨ret_bool (by unfold largeB; have hq3 := HQ.out (by rw [HFE.out]; omega); rw [HFE.out, decide_eq_false (show ¬ 200 < 0 by omega), Bool.false_or, decide_eq_decide]; omega), HLG.out.ext⟩
  · obtain ⟨bd, rfl, -⟩ := K3.out 0 (by omega)
    have hu0' : 0 < us.length := by omega
    clear hu0 hnil
    go_upto_region 3 with ((with_reducible refine at_dst 10 rfl ?_)
                           refine wpList_append_lies _ rfl (.tmp 8) (.tmp 9) 23 rfl g 22 i0 (.slice none 0 0) 1 24 Tryd.underlying23 HI.out HZ.out HZ1.out HZ2.out rfl (by decide) (slV g vs.length) vs.length vs rfl HOWN.out bd us.length d us rfl (by omega) ?c2 HONE.out hu0' (by unfold maxLen; omega) (by omega) hgs _ rfl ?_
                           case c2 =>
                             intro j u hu
                             obtain ⟨hj, rfl⟩ := List.getElem?_eq_some_iff.1 hu
                             obtain ⟨ad', had, hc⟩ := (K3.out.ext HE.out) j hj
                             cases had
                             exact hc
                           intro g1 cap w1 hown hgr hat hlt
                           obtain ⟨N, hN⟩ : ∃ N, N = vs.length + us.length := ⟨_, rfl⟩
                           rw [← hN] at hown ⊢
                           have hgr' : w.grownBy w1 (some g) := hgr
                           obtain ⟨A1, c1, hv1, hlg⟩ := LG.mk' (ls := ls) (f := f) HE.out hg hown (by simp [hN]) hgr' HVL.out K4.out HEL.out K5.out
                           have HLG := Lib.hid hlg
                           rw [hv1]
                           have HN := Lib.hid hN
                           have hNb : N ≤ 6000000000000 := by omega
                           clear hown hgr hlg hv1 hat hlt hgr' hN)
    have hkl0 : (0 : Int) ≤ lens (ls ++ f) 0 := by omega
    go_loopg [5, 12] (N) (fun gn s i wr => ∃ k : Nat, k ≤ N ∧ gn + k = N ∧ i = .int .i64 k ∧ s = .int .i64 (wrap64 (lens (ls ++ f) k)) ∧ w1 = wr)
    case atStart => exact ⟨0, Nat.zero_le _, by omega, rfl, by rw [show wrap64 ((lens (ls ++ f) 0 : Nat) : Int) = 0 from by rw [show lens (ls ++ f) 0 = 0 from rfl]; unfold wrap64; omega], rfl⟩
    case round =>
      obtain ⟨k, hk, hgk, rfl, rfl, rfl⟩ := hrel
      by_cases hlt : k < N
      · have hkv : k < (vs ++ us).length := by have := HLG.out.len; omega
        have hkr : k < (ls ++ f).length := by have := HLG.out.len2; omega
        obtain ⟨ad, rfl, hvk⟩ := HLG.out.row k hkv
        obtain ⟨CA, cc, hve, -, hcm, -⟩ := HLG.out.el k hkv hkr
        rw [hve] at hvk
        have hls := lens_succ (ls ++ f) k hkr
        obtain ⟨L, hL⟩ : ∃ L, L = (ls ++ f)[k].length := ⟨_, rfl⟩
        rw [← hL] at hvk hcm hls
        obtain ⟨q, hq⟩ : ∃ q, q = wrap64 (lens (ls ++ f) k) := ⟨_, rfl⟩
        have hqr := wrap64_rng (lens (ls ++ f) k)
        rw [← hq] at hqr
        have hqw : wrap64 (q + (L : Int)) = wrap64 (lens (ls ++ f) (k + 1)) := by rw [hq, wrap64_add, hls]; rfl
        rw [← hq]
        have HQW := Lib.hid hqw
        clear hve hls hL hq hqw hkl0 hkv hkr
        go_wp2
        go_roundg (N - (k + 1))
        case measure => omega
        case rel => exact ⟨k + 1, by omega, by omega, by go_num, by rw [HQW.out], rfl⟩
      · have hNk : N = k := by omega
        subst hNk
        obtain ⟨q, hq⟩ : ∃ q, q = wrap64 (lens (ls ++ f) (N)) := ⟨_, rfl⟩
        have hq2 : f.length ≤ 200 → q = total (ls ++ f) := fun hf2 => by
          have hmx := HT.out hf2
          have h1 := HLG.out.len
          have h2 := HLG.out.len2
          have h3 : lens (ls ++ f) N = total (ls ++ f) := by unfold total; rw [← h2, h1]; try rfl
          rw [hq, h3]; unfold wrap64; omega
        rw [← hq]
        have HQ := Lib.hid hq2
        have hqr := wrap64_rng (lens (ls ++ f) N)
        rw [← hq] at hqr
        clear hq hq2 hkl0 hgk hk
        have hfe : f.length = us.length := by have := K4.out; simpa using this.symm
        have HFE := Lib.hid hfe
        clear hfe
        by_cases hbig : 200 < us.length
        · have HB := Lib.hid hbig
          have hbi : (200 : Int) < (us.length : Int) := by omega
          have hbd : decide ((200 : Int) < (us.length : Int)) = true := decide_eq_true hbi
          clear hbig
          go_wp2
          go_ret
          exact ⟨ret_bool (by unfold largeB; rw [decide_eq_true (by rw [HFE.out]; exact HB.out)]; rfl), HLG.out.ext⟩
        · have HB := Lib.hid hbig
          have hbi : ¬ (200 : Int) < (us.length : Int) := by omega
          have hbd : decide ((200 : Int) < (us.length : Int)) = false := decide_eq_false hbi
          clear hbig
          go_wp2
          go_ret
          exact ⟨ret_bool (by unfold largeB; have hq3 := HQ.out (by rw [HFE.out]; have := HB.out; omega); rw [HFE.out, decide_eq_false (show ¬ 200 < us.length by have := HB.out; omega), Bool.false_or, decide_eq_decide]; omega), HLG.out.ext⟩

end Go.Proofs.YteokoaggkpjdeaaDoor
namespace Go.Proofs.YteokoaggkpjdeaaDoor
open Go.RowKit

set_option maxRecDepth 100000 in
set_option maxHeartbeats 20000000 in
theorem values_law (xs cs : List Int) (n : Int) (v u : Value) (w : World) (h64 : All64 xs) (k64 : All64 cs) (hr : RI w v xs) (kr : RI w u cs) (hn : I64 n) (hb : xs.length ≤ 17592186043904) (kb : cs.length ≤ 17592186043904) (hG : HasSame w) :
    Calls Tryd.prog 5 #[v, u, .int .i64 n] w fun e w' => e = .returned (.bool true) ∧ Ext w w' := by
  have hlg := large_any [xs, cs] [] [v, u] w.heap.size (.slice none 0 0) w (w.alloc (.cells #[v, u] 22)) (Ext.alloc w _) (Nat.le_refl _) (Blk.new w _ [v, u]) rfl (by simp) (by simp)
    (fun j h h' => by
      match j, h, h' with
      | 0, _, _ => exact hr
      | 1, _, _ => exact kr
      | j + 2, _, h' => exact absurd h' (by simp))
    (fun q hq => by
      obtain ⟨A, c, rfl, -⟩ := hr
      obtain ⟨B, d, rfl, -⟩ := kr
      rcases List.mem_cons.1 hq with rfl | hq
      · rfl
      · rw [List.mem_singleton.1 hq]; rfl) (RLL.none w) (fun c hc => by injection hc with _ _ h; exact h.symm) (fun _ => by simp [total, lens]; omega) (by simp)
  have HLG := Lib.hid hlg
  have HR := Lib.hid hr
  have KR := Lib.hid kr
  have HG := Lib.hid hG
  have HN := Lib.hid hn
  obtain ⟨A, c, rfl, h1, h2, h3⟩ := hr
  obtain ⟨B, d, rfl, k1, k2, k3⟩ := kr
  clear hlg hG h3 k3 hn
  cases hlb : largeB [xs, cs] []
  · rw [hlb] at HLG
    clear hlb
    have hc1 : ∀ a : Int, (a == a) = true := fun a => by simp
    have HV := Lib.hid (fun (w' : World) (he : Ext w w') => Value_any xs n _ w' h64 HN.out (HR.out.ext he))
    have HRV := Lib.hid (fun (w' : World) (he : Ext w w') => refValue_any xs n _ w' h64 HN.out (HR.out.ext he))
    have HC := Lib.hid (fun (w' : World) (he : Ext w w') => Clause_any xs cs _ _ w' h64 k64 (HR.out.ext he) (KR.out.ext he))
    have HRC := Lib.hid (fun (w' : World) (he : Ext w w') => refClause_any xs cs _ _ w' h64 k64 (HR.out.ext he) (KR.out.ext he))
    have HB := Lib.hid (fun (w' : World) (he : Ext w w') => Cube_any xs cs _ _ w' h64 k64 (HR.out.ext he) (KR.out.ext he))
    have HRB := Lib.hid (fun (w' : World) (he : Ext w w') => refCube_any xs cs _ _ w' h64 k64 (HR.out.ext he) (KR.out.ext he))
    have HA := Lib.hid (fun (w' : World) (he : Ext w w') => Agree_any xs cs _ _ w' h64 k64 (HR.out.ext he) (KR.out.ext he))
    have HRA := Lib.hid (fun (w' : World) (he : Ext w w') => refAgree_any xs cs _ _ w' h64 k64 (HR.out.ext he) (KR.out.ext he))
    generalize ValueV xs n = V at HV HRV
    generalize ClauseV xs cs = CV at HC HRC
    generalize CubeV xs cs = BV at HB HRB
    generalize agreeB xs cs = AV at HA HRA
    have c1 : (V == V) = true := by simp
    have c2 : (CV == CV) = true := by simp
    have c3 : (BV == BV) = true := by simp
    have c4 : (AV == AV) = true := by simp
    go_enter Tryd.func5, Tryd.ntmps5
    go_wp2_with (first
      | (go_at_call 11; refine HLG.out.mono ?_; rintro e w1 ⟨rfl, hE⟩; have HE1 := Lib.hid hE; clear hE)
      | (go_at_call 23; refine (HV.out _ HE1.out).mono ?_; rintro e w2 ⟨rfl, hE⟩; have HE2 := Lib.hid (HE1.out.trans hE); clear hE)
      | (go_at_call 24; refine (HRV.out _ HE2.out).mono ?_; rintro e w3 ⟨rfl, hE⟩; have HE3 := Lib.hid (HE2.out.trans hE); clear hE)
      | (go_at_call 25; refine (HC.out _ HE3.out).mono ?_; rintro e w4 ⟨rfl, hE⟩; have HE4 := Lib.hid (HE3.out.trans hE); clear hE)
      | (go_at_call 26; refine (HRC.out _ HE4.out).mono ?_; rintro e w5 ⟨rfl, hE⟩; have HE5 := Lib.hid (HE4.out.trans hE); clear hE)
      | (go_at_call 27; refine (HB.out _ HE5.out).mono ?_; rintro e w6 ⟨rfl, hE⟩; have HE6 := Lib.hid (HE5.out.trans hE); clear hE)
      | (go_at_call 28; refine (HRB.out _ HE6.out).mono ?_; rintro e w7 ⟨rfl, hE⟩; have HE7 := Lib.hid (HE6.out.trans hE); clear hE)
      | (go_at_call 29; refine (HA.out _ HE7.out).mono ?_; rintro e w8 ⟨rfl, hE⟩; have HE8 := Lib.hid (HE7.out.trans hE); clear hE)
      | (go_at_call 30; refine (HRA.out _ HE8.out).mono ?_; rintro e w9 ⟨rfl, hE⟩; have HE9 := Lib.hid (HE8.out.trans hE); clear hE)
      | (go_at_call 12; refine (awake_any _ (HG.out.ext HE9.out)).mono ?_; rintro e w10 ⟨rfl, hE⟩; have HE10 := Lib.hid (HE9.out.trans hE); clear hE))
    go_ret
    exact ⟨rfl, HE10.out⟩
  · rw [hlb] at HLG
    clear hlb
    go_enter Tryd.func5, Tryd.ntmps5
    go_wp2_with (first
      | (go_at_call 11; refine HLG.out.mono ?_; rintro e w1 ⟨rfl, hE⟩; have HE1 := Lib.hid hE; clear hE)
      | (go_at_call 12; refine (awake_any _ (HG.out.ext HE1.out)).mono ?_; rintro e w2 ⟨rfl, hE⟩; have HE2 := Lib.hid (HE1.out.trans hE); clear hE))
    go_ret
    exact ⟨rfl, HE2.out⟩
end Go.Proofs.YteokoaggkpjdeaaDoor
