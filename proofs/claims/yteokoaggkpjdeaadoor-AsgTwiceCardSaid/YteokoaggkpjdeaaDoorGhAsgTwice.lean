/- Walk of the examples of the chapter (awake). The walk of the law's function large. Plain law: the clauses under a, and these under b, are those under both. The walk of the law AsgTwice. -/
import Derived.Test.YteokoaggkpjdeaaDoorGgAsgTwice
import Derived.Test.YteokoaggkpjdeaaDoorGe
import Derived.Laws.AppendOwnNone
import Derived.Test.YteokoaggkpjdeaaDoorGa
namespace Go.Proofs.YteokoaggkpjdeaaDoor
open Go.RowKit

set_option maxRecDepth 100000 in
set_option maxHeartbeats 20000000 in
theorem awake_any (w : World) (hG : HasSame w) : Calls Tryd.prog 12 #[] w fun e w' => e = .returned (.bool true) ∧ Ext w w' := by
  have HG := Lib.hid hG
  clear hG
  go_enter Tryd.func12, Tryd.ntmps12
  go_upto_region 3 with (go_at_call 34
                         refine (unitsC [[1, 2], [-2], [-1, 3]] [] _ _ _ units1 _ _ _ (all64_of _ (by decide)) (all64L_of _ (by decide)) (RI.none _) (lit3 w [1, 2] [-2] [-1, 3] (by decide) (by decide) (by decide)) (fun _ => by decide)).mono ?_
                         rintro e w1 ⟨A1, d1, rfl, hst, hE⟩
                         have HS1 := Lib.hid hst
                         have HE1 := Lib.hid (((((Ext.alloc w _).trans (Ext.alloc _ _)).trans (Ext.alloc _ _)).trans (Ext.alloc _ _)).trans hE)
                         clear hst hE)
  go_upto_region 4 with (go_at_call 34
                         refine (unitsC [[1], [-1]] [] _ _ _ units2 _ _ _ (all64_of _ (by decide)) (all64L_of _ (by decide)) (RI.none _) (lit2 w1 [1] [-1] (by decide) (by decide)) (fun _ => by decide)).mono ?_
                         rintro e w2 ⟨A2, d2, rfl, hst, hE⟩
                         have HS2 := Lib.hid hst
                         have HE2 := Lib.hid ((((Ext.alloc w1 _).trans (Ext.alloc _ _)).trans (Ext.alloc _ _)).trans hE)
                         clear hst hE)
  go_upto_region 5 with (go_at_call 34
                         refine (unitsC [[1, 2]] [-1, -2] _ _ _ units3 _ _ _ (all64_of _ (by decide)) (all64L_of _ (by decide)) (by
                           have := lit0 ((w2.alloc (rowO [1, 2])).alloc (.cells #[slV w2.heap.size 2] 22)) [-1, -2] (by decide)
                           rw [show ((w2.alloc (rowO [1, 2])).alloc (.cells #[slV w2.heap.size 2] 22)).heap.size = w2.heap.size + 1 + 1 by simp] at this
                           exact this) ((lit1 w2 [1, 2] (by decide)).ext' (Ext.alloc _ _)) (fun _ => by decide)).mono ?_
                         rintro e w3 ⟨A3, d3, rfl, hst, hE⟩
                         have HE3 := Lib.hid ((((Ext.alloc w2 _).trans (Ext.alloc _ _)).trans (Ext.alloc _ _)).trans hE)
                         clear hst hE)
  go_upto_region 6 with (go_at_call 19
                         have hpt := Point_any [1, 2, 3] 6 (by decide) (by decide) _ _ (all64_of _ (by decide)) (lit0 w3 [1, 2, 3] (by decide))
                         rw [point1] at hpt
                         refine hpt.mono ?_
                         rintro e w4 ⟨v4, rfl, hown, hE⟩
                         have HP4 := Lib.hid (hown.reads)
                         have HE4 := Lib.hid ((Ext.alloc w3 _).trans hE)
                         clear hown hE hpt)
  go_upto_region 7 with (go_at_call 19
                         have hpt := Point_any [1, 2, 3] 8 (by decide) (by decide) _ _ (all64_of _ (by decide)) (lit0 w4 [1, 2, 3] (by decide))
                         rw [point2] at hpt
                         refine hpt.mono ?_
                         rintro e w5 ⟨v5, rfl, hown, hE⟩
                         have HE5 := Lib.hid ((Ext.alloc w4 _).trans hE)
                         clear hown hE hpt)
  go_upto_region 8 with (go_at_call 21
                         have hnu := Number_any [1, 2] [-1, 2] _ _ _ (all64_of _ (by decide)) (all64_of _ (by decide)) ((lit0 w5 [1, 2] (by decide)).ext (Ext.alloc _ _)) (by
                           have := lit0 (w5.alloc (rowO [1, 2])) [-1, 2] (by decide)
                           rw [show (w5.alloc (rowO [1, 2])).heap.size = w5.heap.size + 1 by simp] at this
                           exact this)
                         rw [number1] at hnu
                         refine hnu.mono ?_
                         rintro e w6 ⟨rfl, rfl⟩
                         clear hnu)
  have E5 : Ext w w5 := (((HE1.out.trans HE2.out).trans HE3.out).trans HE4.out).trans HE5.out
  have HW5 := Lib.hid E5
  have HW45 := Lib.hid HE5.out
  have HW15 := Lib.hid (((HE2.out.trans HE3.out).trans HE4.out).trans HE5.out)
  clear E5 HE1 HE2 HE3 HE4 HE5
  obtain ⟨w6, hw6⟩ : ∃ w6 : World, w6 = (w5.alloc (rowO [1, 2])).alloc (rowO [-1, 2]) := ⟨_, rfl⟩
  have HE6 : Hid (Ext w5 w6) := Lib.hid (hw6 ▸ (Ext.alloc w5 _).trans (Ext.alloc _ _))
  rw [← hw6]
  clear hw6
  go_upto_region 9 with (go_at_call 38
                         refine (Steps_any [(-2, 1), (1, 0), (3, 2)] [(-2, 1), (1, 0), (3, 2)] _ _ _ ((HS1.out.ext (HW15.out.trans HE6.out)).ext (Ext.alloc _ _)) ((Blk.new w6 _ _).RSt (by decide))).mono ?_
                         rintro e w7 ⟨rfl, hE⟩
                         have HE7 := Lib.hid (HE6.out.trans ((Ext.alloc w6 _).trans hE))
                         clear hE)
  have cg : w7.cell? ⟨0, 0, Option.none⟩ = some (.func (.func 49) #[] #[]) := HG.out.ext (HW5.out.trans HE7.out)
  go_upto_region 10 with (first
    | (refine wpList_callv (.tmp 96) #[.tmp 97, .tmp 98] _ rfl (by rfl) #[] rfl fv_same #[v4, slV w7.heap.size 3] (by simp only [List.map_toArray, List.map_cons, List.map_nil, List.append_toArray, List.cons_append, List.nil_append]; rfl) ?_
       refine (Same_any [-1, 2, 3] [-1, 2, 3] _ _ _ ((HP4.out.ext (HW45.out.trans HE7.out)).ext (Ext.alloc _ _)) (lit0 w7 [-1, 2, 3] (by decide))).mono ?_
       rintro e w8 ⟨rfl, hE⟩
       refine ⟨_, rfl, ?_⟩
       simp only [Act.put, List.setIfInBounds_toArray, List.set_cons_zero, List.set_cons_succ]
       have HE8 := Lib.hid (HE7.out.trans ((Ext.alloc w7 _).trans hE))
       clear hE cg)
    | (go_at_call 25
       refine (clauseN _).mono ?_
       rintro e w9 ⟨rfl, hE⟩
       have HE9 := Lib.hid hE
       clear hE)
    | (go_at_call 27
       refine (cubeN _).mono ?_
       rintro e w10 ⟨rfl, hE⟩
       have HE10 := Lib.hid hE
       clear hE)
    | (go_at_call 17
       refine (cnfN _).mono ?_
       rintro e w11 ⟨rfl, hE⟩
       have HE11 := Lib.hid hE
       clear hE))
  obtain ⟨w12, hw12⟩ : ∃ w12 : World, w12 = w11 := ⟨_, rfl⟩
  have HE12 : Hid (Ext w5 w12) := Lib.hid (hw12 ▸ (((HE8.out.trans HE9.out).trans HE10.out).trans HE11.out))
  rw [← hw12]
  clear hw12 HE8 HE9 HE10 HE11
  go_wp2_with (first
    | (go_at_call 23
       have hcc := Value_any [-2] 2 _ _ (all64_of _ (by decide)) (by unfold I64; decide) (lit0 w12 [-2] (by decide))
       rw [value1] at hcc
       refine hcc.mono ?_
       rintro e w13 ⟨rfl, hE⟩
       have HE13 := Lib.hid (HE12.out.trans ((Ext.alloc w12 _).trans hE))
       clear hE hcc)
    | (go_at_call 14
       have e1 : (w13.alloc (rowO [1])).heap.size = w13.heap.size + 1 := by simp
       have hl3 := lit3 (w13.alloc (rowO [1])) [1, 2] [-1, 3] [-1] (by decide) (by decide) (by decide)
       rw [e1] at hl3
       have hcc := Under_any [1] [[1, 2], [-1, 3], [-1]] _ _ _ (all64_of _ (by decide)) (all64L_of _ (by decide)) (((((lit0 w13 [1] (by decide)).ext (Ext.alloc _ _)).ext (Ext.alloc _ _)).ext (Ext.alloc _ _)).ext (Ext.alloc _ _)) hl3 (fun _ => by decide)
       rw [under1] at hcc
       refine hcc.mono ?_
       rintro e w14 ⟨v14, rfl, hown, hE⟩
       have HU14 := Lib.hid hown.reads
       have HE14 := Lib.hid (HE13.out.trans ((((((Ext.alloc w13 _).trans (Ext.alloc _ _)).trans (Ext.alloc _ _)).trans (Ext.alloc _ _)).trans (Ext.alloc _ _)).trans hE))
       clear hE hcc hown hl3 e1)
    | (go_at_call 15
       have hl2 : RLL ((w14.alloc (rowO [3])).alloc (.cells #[slV w14.heap.size 1, .slice Option.none 0 0] 22)) (slV (w14.heap.size + 1) 2) [[3], []] :=
         .two (Blk.new' (by simp)) ((lit0 w14 [3] (by decide)).ext (Ext.alloc _ _)) (RI.none _)
       refine (SameAll_any [[3], []] [[3], []] _ _ _ ((HU14.out.ext' (Ext.alloc _ _)).ext' (Ext.alloc _ _)) hl2).mono ?_
       rintro e w15 ⟨rfl, hE⟩
       have HE15 := Lib.hid (HE14.out.trans (((Ext.alloc w14 _).trans (Ext.alloc _ _)).trans hE))
       clear hE hl2))
  go_ret
  exact ⟨rfl, HW5.out.trans HE15.out⟩

end Go.Proofs.YteokoaggkpjdeaaDoor
namespace Go.Proofs.YteokoaggkpjdeaaDoor
open Go.RowKit

def largeB (ls f : List (List Int)) : Bool := decide (200 < f.length) || decide (2000 < total (ls ++ f))

theorem total_le' {l : List (List Int)} {M : Nat} (h : ∀ c ∈ l, c.length ≤ M) : total l ≤ l.length * M := by
  unfold total lens
  rw [List.take_length]
  induction l with
  | nil => simp
  | cons c l ih =>
    have h1 := h c (by simp)
    have h2 := ih fun c hc => h c (by simp [hc])
    rw [List.map_cons, List.sum_cons, List.length_cons, Nat.add_mul]
    omega

theorem lens_succ' (f : List (List Int)) (k : Nat) (hk : k < f.length) : lens f (k + 1) = lens f k + f[k].length := by
  unfold lens
  rw [List.take_succ_eq_append_getElem hk, List.map_append, List.sum_append]
  simp

theorem wrap64_add (a b : Int) : wrap64 (wrap64 a + b) = wrap64 (a + b) := by unfold wrap64; omega
theorem wrap64_rng (a : Int) : -9223372036854775808 ≤ wrap64 a ∧ wrap64 a ≤ 9223372036854775807 := by unfold wrap64; omega

/-- Behind the append: the rows of both. -/
structure LG (w0 : World) (ls f : List (List Int)) (A : Option Addr) (n : Nat) (c : Nat) (VS : List Value) (w1 : World) : Prop where
  ext : Ext w0 w1
  row : Row w1 A VS
  len : VS.length = n
  len2 : VS.length = (ls ++ f).length
  el : ∀ j (h : j < VS.length) (h' : j < (ls ++ f).length), RI w1 VS[j] (ls ++ f)[j]
  max : VS.length ≤ 9223372036854775807

theorem LG.mk' {w0 w w1 : World} {ls f : List (List Int)} {g : Nat} {vs us : List Value} {v : Value} {n : Nat} (hE : Ext w0 w) (hg : w0.heap.size ≤ g) (hown : w1.ownsRow g 22 1 v n (vs ++ us)) (hn : n = (vs ++ us).length) (hgr : w.grownBy w1 (some g))
    (h1 : vs.length = ls.length) (h2 : us.length = f.length) (e1 : ∀ j (h : j < vs.length) (h' : j < ls.length), RI w0 vs[j] ls[j]) (e2 : ∀ j (h : j < us.length) (h' : j < f.length), RI w0 us[j] f[j]) :
    ∃ A c, v = .slice A n c ∧ LG w0 ls f A n c (vs ++ us) w1 := by
  subst hn
  obtain ⟨A, c, rfl, h3, h4, h5⟩ := own_row hown
  have hE1 : Ext w0 w1 := hE.grown hgr fun k hk => by injection hk with hk; omega
  refine ⟨A, c, rfl, hE1, h5, rfl, by simp [h1, h2], fun j h h' => ?_, h4⟩
  by_cases hj : j < vs.length
  · rw [List.getElem_append_left hj, List.getElem_append_left (by omega)]
    exact (e1 j hj (by omega)).ext hE1
  · have hj' : vs.length ≤ j := by omega
    rw [List.getElem_append_right hj', List.getElem_append_right (by omega)]
    have := e2 (j - vs.length) (by simp at h; omega) (by simp at h'; omega)
    simp only [h1] at this ⊢
    exact this.ext hE1

set_option maxHeartbeats 2000000 in
theorem large_any (ls f : List (List Int)) (vs : List Value) (g : Nat) (u : Value) (w0 w : World) (hE : Ext w0 w) (hg : w0.heap.size ≤ g) (hl : Blk w g 22 vs) (hvl : vs.length = ls.length) (hn : vs.length ≤ 100) (h0 : 0 < vs.length)
    (hel : ∀ j (h : j < vs.length) (h' : j < ls.length), RI w0 vs[j] ls[j]) (h1c : ∀ v ∈ vs, v.oneCell' = true) (kr : RLL w0 u f) (hnil : ∀ c, u = .slice none 0 c → c = 0) (ht : f.length ≤ 200 → total (ls ++ f) ≤ 9223372036854775807) (hfl : f.length ≤ 5864062014634) :
    Calls Tryd.prog 11 #[u, slV g vs.length] w fun e w' => e = .returned (.bool (largeB ls f)) ∧ Ext w0 w' := by
  have hgs : g ≤ w.heap.size := Nat.le_of_lt hl.lt
  have hown : w.ownsRow g 22 1 (slV g vs.length) vs.length vs := blk_own (Nat.le_refl _) hl (Nat.le_refl _) (by unfold maxLen; omega) rfl (by simp)
  have HOWN := Lib.hid hown
  obtain ⟨B, d, us, rfl, k1, k2, k3, k4, k5⟩ := kr
  have HEL := Lib.hid hel
  have K3 := Lib.hid k3
  have K4 := Lib.hid k4
  have K5 := Lib.hid k5
  have HVL := Lib.hid hvl
  have H1C := Lib.hid h1c
  have HE := Lib.hid hE
  have HT := Lib.hid ht
  have HL := Lib.hid hl
  have hul : us.length ≤ 5864062014634 := by omega
  have HONE : Hid (∀ v ∈ us, v.oneCell' = true) := Lib.hid (fun v hv => by
    obtain ⟨j, hj, rfl⟩ := List.mem_iff_getElem.1 hv
    obtain ⟨A, c, he, -⟩ := k5 j hj (by omega)
    rw [he]; rfl)
  obtain ⟨i0, hi, hz0, hz1, hz2⟩ := info_parts info_ints
  have HI := Lib.hid hi
  have HZ := Lib.hid hz0
  have HZ1 := Lib.hid hz1
  have HZ2 := Lib.hid hz2
  clear hi hz0 hz1 hz2 hown hel k3 k5 hvl h1c hE ht hl k4
  go_enter Tryd.func11, Tryd.ntmps11
  by_cases hu0 : us.length = 0
  · have hus : us = [] := List.length_eq_zero_iff.1 hu0
    subst hus
    have HNIL := Lib.hid hnil
    clear hnil hu0 hul
    go_upto_region 3 with ((with_reducible refine at_dst 10 rfl ?_)
                           refine wpList_append_fits_any _ rfl (.tmp 8) (.tmp 9) 23 rfl g 22 i0 1 Tryd.underlying23 HI.out HZ1.out g vs.length vs.length vs rfl HOWN.out B 0 d [] rfl rfl (fun hb => ⟨rfl, HNIL.out d (by rw [hb]; rfl)⟩) (fun ad _ j u hu => by cases hu) (by simp) (by omega) ?_
                           intro w1 hown hgr
                           obtain ⟨A1, c1, hv1, hlg⟩ := LG.mk' (ls := ls) (f := f) HE.out hg hown (by simp) hgr HVL.out K4.out HEL.out K5.out
                           have HLG := Lib.hid hlg
                           rw [hv1]
                           clear hown hgr hlg hv1)
    have hkl0 : (0 : Int) ≤ lens (ls ++ f) 0 := by omega
    go_loopg [5, 12] (vs.length) (fun gn s i wr => ∃ k : Nat, k ≤ vs.length ∧ gn + k = vs.length ∧ i = .int .i64 k ∧ s = .int .i64 (wrap64 (lens (ls ++ f) k)) ∧ w1 = wr)
    case atStart => exact ⟨0, Nat.zero_le _, by omega, rfl, by rw [show wrap64 ((lens (ls ++ f) 0 : Nat) : Int) = 0 from by rw [show lens (ls ++ f) 0 = 0 from rfl]; unfold wrap64; omega], rfl⟩
    case round =>
      obtain ⟨k, hk, hgk, rfl, rfl, rfl⟩ := hrel
      by_cases hlt : k < vs.length
      · have hkv : k < (vs ++ []).length := by have := HLG.out.len; omega
        have hkr : k < (ls ++ f).length := by have := HLG.out.len2; omega
        obtain ⟨ad, rfl, hvk⟩ := HLG.out.row k hkv
        obtain ⟨CA, cc, hve, -, hcm, -⟩ := HLG.out.el k hkv hkr
        rw [hve] at hvk
        have hls := lens_succ (ls ++ f) k hkr
        obtain ⟨L, hL⟩ : ∃ L, L = (ls ++ f)[k].length := ⟨_, rfl⟩
        rw [← hL] at hvk hcm hls
        obtain ⟨q, hq⟩ : ∃ q, q = wrap64 (lens (ls ++ f) k) := ⟨_, rfl⟩
        have hqr := wrap64_rng (lens (ls ++ f) k)
        rw [← hq] at hqr
        have hqw : wrap64 (q + (L : Int)) = wrap64 (lens (ls ++ f) (k + 1)) := by rw [hq, wrap64_add, hls]; rfl
        rw [← hq]
        have HQW := Lib.hid hqw
        clear hve hls hL hq hqw hkl0 hkv hkr
        go_wp2
        go_roundg (vs.length - (k + 1))
        case measure => omega
        case rel => exact ⟨k + 1, by omega, by omega, by go_num, by rw [HQW.out], rfl⟩
      · obtain rfl : k = vs.length := by omega
        obtain ⟨q, hq⟩ : ∃ q, q = wrap64 (lens (ls ++ f) (vs.length)) := ⟨_, rfl⟩
        have hq2 : f.length ≤ 200 → q = total (ls ++ f) := fun hf2 => by
          have hmx := HT.out hf2
          have h1 := HLG.out.len
          have h2 := HLG.out.len2
          have h3 : lens (ls ++ f) vs.length = total (ls ++ f) := by unfold total; rw [← h2, h1]; try rfl
          rw [hq, h3]; unfold wrap64; omega
        rw [← hq]
        have HQ := Lib.hid hq2
        have hqr := wrap64_rng (lens (ls ++ f) vs.length)
        rw [← hq] at hqr
        clear hq hq2 hkl0 hgk hk
        have hfe : f.length = 0 := by have := K4.out; simpa using this.symm
        have HFE := Lib.hid hfe
        clear hfe
        go_wp2
        go_ret
        exact ⟨ret_bool (by unfold largeB; have hq3 := HQ.out (by rw [HFE.out]; omega); rw [HFE.out, decide_eq_false (show ¬ 200 < 0 by omega), Bool.false_or, decide_eq_decide]; omega), HLG.out.ext⟩
  · obtain ⟨bd, rfl, -⟩ := K3.out 0 (by omega)
    have hu0' : 0 < us.length := by omega
    clear hu0 hnil
    go_upto_region 3 with ((with_reducible refine at_dst 10 rfl ?_)
                           refine wpList_append_lies _ rfl (.tmp 8) (.tmp 9) 23 rfl g 22 i0 (.slice none 0 0) 1 24 Tryd.underlying23 HI.out HZ.out HZ1.out HZ2.out rfl (by decide) (slV g vs.length) vs.length vs rfl HOWN.out bd us.length d us rfl (by omega) ?c2 HONE.out hu0' (by unfold maxLen; omega) (by omega) hgs _ rfl ?_
                           case c2 =>
                             intro j u hu
                             obtain ⟨hj, rfl⟩ := List.getElem?_eq_some_iff.1 hu
                             obtain ⟨ad', had, hc⟩ := (K3.out.ext HE.out) j hj
                             cases had
                             exact hc
                           intro g1 cap w1 hown hgr hat hlt
                           obtain ⟨N, hN⟩ : ∃ N, N = vs.length + us.length := ⟨_, rfl⟩
                           rw [← hN] at hown ⊢
                           have hgr' : w.grownBy w1 (some g) := hgr
                           obtain ⟨A1, c1, hv1, hlg⟩ := LG.mk' (ls := ls) (f := f) HE.out hg hown (by simp [hN]) hgr' HVL.out K4.out HEL.out K5.out
                           have HLG := Lib.hid hlg
                           rw [hv1]
                           have HN := Lib.hid hN
                           have hNb : N ≤ 6000000000000 := by omega
                           clear hown hgr hlg hv1 hat hlt hgr' hN)
    have hkl0 : (0 : Int) ≤ lens (ls ++ f) 0 := by omega
    go_loopg [5, 12] (N) (fun gn s i wr => ∃ k : Nat, k ≤ N ∧ gn + k = N ∧ i = .int .i64 k ∧ s = .int .i64 (wrap64 (lens (ls ++ f) k)) ∧ w1 = wr)
    case atStart => exact ⟨0, Nat.zero_le _, by omega, rfl, by rw [show wrap64 ((lens (ls ++ f) 0 : Nat) : Int) = 0 from by rw [show lens (ls ++ f) 0 = 0 from rfl]; unfold wrap64; omega], rfl⟩
    case round =>
      obtain ⟨k, hk, hgk, rfl, rfl, rfl⟩ := hrel
      by_cases hlt : k < N
      · have hkv : k < (vs ++ us).length := by have := HLG.out.len; omega
        have hkr : k < (ls ++ f).length := by have := HLG.out.len2; omega
        obtain ⟨ad, rfl, hvk⟩ := HLG.out.row k hkv
        obtain ⟨CA, cc, hve, -, hcm, -⟩ := HLG.out.el k hkv hkr
        rw [hve] at hvk
        have hls := lens_succ (ls ++ f) k hkr
        obtain ⟨L, hL⟩ : ∃ L, L = (ls ++ f)[k].length := ⟨_, rfl⟩
        rw [← hL] at hvk hcm hls
        obtain ⟨q, hq⟩ : ∃ q, q = wrap64 (lens (ls ++ f) k) := ⟨_, rfl⟩
        have hqr := wrap64_rng (lens (ls ++ f) k)
        rw [← hq] at hqr
        have hqw : wrap64 (q + (L : Int)) = wrap64 (lens (ls ++ f) (k + 1)) := by rw [hq, wrap64_add, hls]; rfl
        rw [← hq]
        have HQW := Lib.hid hqw
        clear hve hls hL hq hqw hkl0 hkv hkr
        go_wp2
        go_roundg (N - (k + 1))
        case measure => omega
        case rel => exact ⟨k + 1, by omega, by omega, by go_num, by rw [HQW.out], rfl⟩
      · have hNk : N = k := by omega
        subst hNk
        obtain ⟨q, hq⟩ : ∃ q, q = wrap64 (lens (ls ++ f) (N)) := ⟨_, rfl⟩
        have hq2 : f.length ≤ 200 → q = total (ls ++ f) := fun hf2 => by
          have hmx := HT.out hf2
          have h1 := HLG.out.len
          have h2 := HLG.out.len2
          have h3 : lens (ls ++ f) N = total (ls ++ f) := by unfold total; rw [← h2, h1]; try rfl
          rw [hq, h3]; unfold wrap64; omega
        rw [← hq]
        have HQ := Lib.hid hq2
        have hqr := wrap64_rng (lens (ls ++ f) N)
        rw [← hq] at hqr
        clear hq hq2 hkl0 hgk hk
        have hfe : f.length = us.length := by have := K4.out; simpa using this.symm
        have HFE := Lib.hid hfe
        clear hfe
        by_cases hbig : 200 < us.length
        · have HB := Lib.hid hbig
          have hbi : (200 : Int) < (us.length : Int) := by omega
          have hbd : decide ((200 : Int) < (us.length : Int)) = true := decide_eq_true hbi
          clear hbig
          go_wp2
          go_ret
          exact ⟨ret_bool (by unfold largeB; rw [decide_eq_true (by rw [HFE.out]; exact HB.out)]; rfl), HLG.out.ext⟩
        · have HB := Lib.hid hbig
          have hbi : ¬ (200 : Int) < (us.length : Int) := by omega
          have hbd : decide ((200 : Int) < (us.length : Int)) = false := decide_eq_false hbi
          clear hbig
          go_wp2
          go_ret
          exact ⟨ret_bool (by unfold largeB; have hq3 := HQ.out (by rw [HFE.out]; have := HB.out; omega); rw [HFE.out, decide_eq_false (show ¬ 200 < us.length by have := HB.out; omega), Bool.false_or, decide_eq_decide]; omega), HLG.out.ext⟩

end Go.Proofs.YteokoaggkpjdeaaDoor
namespace Go.Proofs.YteokoaggkpjdeaaDoor

theorem lookI_one {xs : List Int} {x : Int} (hv : varOf x ≠ 0) : lookI xs x = 1 ↔ x ∈ xs := by
  unfold lookI
  rw [if_neg hv]
  constructor
  · intro h
    by_cases h1 : x ∈ xs
    · exact h1
    · rw [if_neg h1] at h
      split at h <;> simp at h
  · intro h; rw [if_pos h]
theorem lookI_two {xs : List Int} {x : Int} (hv : varOf x ≠ 0) : lookI xs x = 2 ↔ x ∉ xs ∧ -x ∈ xs := by
  unfold lookI
  rw [if_neg hv]
  by_cases h1 : x ∈ xs
  · rw [if_pos h1]; simp [h1]
  · rw [if_neg h1]
    by_cases h2 : -x ∈ xs
    · rw [if_pos h2]; simp [h1, h2]
    · rw [if_neg h2]; simp [h2]
theorem lookI_zero {xs : List Int} {x : Int} (hv : varOf x ≠ 0) : lookI xs x = 0 ↔ x ∉ xs ∧ -x ∉ xs := by
  unfold lookI
  rw [if_neg hv]
  by_cases h1 : x ∈ xs
  · rw [if_pos h1]; simp [h1]
  · rw [if_neg h1]
    by_cases h2 : -x ∈ xs
    · rw [if_pos h2]; simp [h2]
    · rw [if_neg h2]; simp [h1, h2]

theorem ex_getD {α : Type} (l : List α) (d : α) (q : α → Prop) : (∃ j, j < l.length ∧ q (l.getD j d)) ↔ ∃ x ∈ l, q x := by
  constructor
  · rintro ⟨j, hj, hq⟩
    exact ⟨l[j], List.getElem_mem hj, by simpa [hj] using hq⟩
  · rintro ⟨x, hx, hq⟩
    obtain ⟨j, hj, rfl⟩ := List.getElem_of_mem hx
    exact ⟨j, hj, by simpa [hj] using hq⟩

/-- A search over a list. -/
theorem searchG_list {α : Type} (g : α → Int) (l : List α) (d : α) (a b : Int) : searchG (fun k => g (l.getD k d)) l.length a b = if ∃ x ∈ l, g x = a then a else if ∃ x ∈ l, g x = 0 then 0 else b := by
  unfold searchG
  simp only [ex_getD l d (fun x => g x = a), ex_getD l d (fun x => g x = 0)]

open Classical in
theorem clauseV_eq (xs c : List Int) : clauseV xs c = if ∃ x ∈ c, lookI xs x = 1 then 1 else if ∃ x ∈ c, lookI xs x = 0 then 0 else 2 := by
  unfold clauseV
  have := searchG_list (lookI xs) c 0 1 2
  rw [this]
theorem clauseV_one {xs c : List Int} : clauseV xs c = 1 ↔ ∃ x ∈ c, lookI xs x = 1 := by
  rw [clauseV_eq]
  by_cases h : ∃ x ∈ c, lookI xs x = 1
  · rw [if_pos h]; simp [h]
  · rw [if_neg h]
    constructor
    · intro e; split at e <;> simp at e
    · intro e; exact absurd e h
theorem clauseV_zero {xs c : List Int} : clauseV xs c = 0 ↔ (¬ ∃ x ∈ c, lookI xs x = 1) ∧ ∃ x ∈ c, lookI xs x = 0 := by
  rw [clauseV_eq]
  by_cases h : ∃ x ∈ c, lookI xs x = 1
  · rw [if_pos h]; simp only [h, not_true, false_and, iff_false]; decide
  · rw [if_neg h]
    by_cases h2 : ∃ x ∈ c, lookI xs x = 0
    · rw [if_pos h2]; simp only [h, h2, not_false_eq_true, and_self]
    · rw [if_neg h2]; simp only [h2, and_false, iff_false]; decide
theorem clauseV_two {xs c : List Int} : clauseV xs c = 2 ↔ (¬ ∃ x ∈ c, lookI xs x = 1) ∧ ¬ ∃ x ∈ c, lookI xs x = 0 := by
  rw [clauseV_eq]
  by_cases h : ∃ x ∈ c, lookI xs x = 1
  · rw [if_pos h]; simp only [h, not_true, false_and, iff_false]; decide
  · rw [if_neg h]
    by_cases h2 : ∃ x ∈ c, lookI xs x = 0
    · rw [if_pos h2]; simp only [h2, not_true, and_false, iff_false]; decide
    · rw [if_neg h2]; simp only [h, h2, not_false_eq_true, and_self]
theorem cnfV_eq (xs : List Int) (f : List (List Int)) : cnfV xs f = if ∃ c ∈ f, clauseV xs c = 2 then 2 else if ∃ c ∈ f, clauseV xs c = 0 then 0 else 1 := by
  unfold cnfV
  exact searchG_list (clauseV xs) f [] 2 1

theorem asc_lit {c : List Int} (h : Asc c) {x : Int} (hx : x ∈ c) : varOf x ≠ 0 := by have := h.2 x hx; omega

/-- A list that is both, without a clash. -/
structure Both (a b c : List Int) : Prop where
  mem : ∀ x, x ∈ c ↔ x ∈ a ∨ x ∈ b
  no : ∀ x, x ∈ a → -x ∈ b → False

theorem lit_ne {x : Int} (h : varOf x ≠ 0) : x ≠ 0 := (varOf_eq h).2
theorem Asc.clash {a : List Int} (h : Asc a) {x : Int} (hx : x ∈ a) (hn : -x ∈ a) : False := by
  have := h.inj hx hn (varOf_neg x).symm
  have := lit_ne (asc_lit h hx)
  omega

section
variable {a b c cl : List Int}
theorem Both.one (h : Both a b c) (hcl : Asc cl) (hn : clauseV a cl ≠ 1) : clauseV c cl = 1 ↔ clauseV b (cl.filter fun x => !(lookI a x == 2)) = 1 := by
  rw [clauseV_one, clauseV_one]
  constructor
  · rintro ⟨x, hx, h1⟩
    have hv := asc_lit hcl hx
    rw [lookI_one hv, h.mem] at h1
    rcases h1 with h1 | h1
    · exact absurd (clauseV_one.2 ⟨x, hx, (lookI_one hv).2 h1⟩) hn
    · refine ⟨x, List.mem_filter.2 ⟨hx, ?_⟩, (lookI_one hv).2 h1⟩
      have : lookI a x ≠ 2 := fun e => by
        have := ((lookI_two hv).1 e).2
        exact h.no (-x) this (by rw [Int.neg_neg]; exact h1)
      simpa using this
  · rintro ⟨x, hx, h1⟩
    obtain ⟨hx, _⟩ := List.mem_filter.1 hx
    have hv := asc_lit hcl hx
    exact ⟨x, hx, (lookI_one hv).2 ((h.mem x).2 (.inr ((lookI_one hv).1 h1)))⟩
theorem Both.zero (h : Both a b c) (hcl : Asc cl) (hn : clauseV a cl ≠ 1) : (∃ x ∈ cl, lookI c x = 0) ↔ ∃ x ∈ cl.filter fun x => !(lookI a x == 2), lookI b x = 0 := by
  constructor
  · rintro ⟨x, hx, h1⟩
    have hv := asc_lit hcl hx
    rw [lookI_zero hv, h.mem, h.mem] at h1
    refine ⟨x, List.mem_filter.2 ⟨hx, ?_⟩, (lookI_zero hv).2 ⟨fun e => h1.1 (.inr e), fun e => h1.2 (.inr e)⟩⟩
    have : lookI a x ≠ 2 := fun e => h1.2 (.inl ((lookI_two hv).1 e).2)
    simpa using this
  · rintro ⟨x, hx, h1⟩
    obtain ⟨hx, h2⟩ := List.mem_filter.1 hx
    have hv := asc_lit hcl hx
    have h3 : lookI a x ≠ 2 := by simpa using h2
    have h4 : x ∉ a := fun e => hn (clauseV_one.2 ⟨x, hx, (lookI_one hv).2 e⟩)
    have h5 : -x ∉ a := fun e => h3 ((lookI_two hv).2 ⟨h4, e⟩)
    obtain ⟨h6, h7⟩ := (lookI_zero hv).1 h1
    refine ⟨x, hx, (lookI_zero hv).2 ⟨fun e => ?_, fun e => ?_⟩⟩
    · exact ((h.mem x).1 e).elim h4 h6
    · exact ((h.mem _).1 e).elim h5 h7
theorem Both.clause (h : Both a b c) (hcl : Asc cl) (hn : clauseV a cl ≠ 1) : clauseV c cl = clauseV b (cl.filter fun x => !(lookI a x == 2)) := by
  have h1 := h.one hcl hn
  have h0 := h.zero hcl hn
  rw [clauseV_one, clauseV_one] at h1
  rw [clauseV_eq, clauseV_eq]
  simp only [h1, h0]
theorem Both.first (h : Both a b c) (hcl : Asc cl) (hn : clauseV a cl = 1) : clauseV c cl = 1 := by
  obtain ⟨x, hx, h1⟩ := clauseV_one.1 hn
  have hv := asc_lit hcl hx
  exact clauseV_one.2 ⟨x, hx, (lookI_one hv).2 ((h.mem x).2 (.inl ((lookI_one hv).1 h1)))⟩
theorem Both.rest (h : Both a b c) (hcl : Asc cl) (hn : clauseV c cl ≠ 1) : (cl.filter fun x => !(lookI c x == 2)) = (cl.filter fun x => !(lookI a x == 2)).filter fun x => !(lookI b x == 2) := by
  rw [List.filter_filter]
  refine List.filter_congr fun x hx => ?_
  have hv := asc_lit hcl hx
  have hxc : x ∉ c := fun e => hn (clauseV_one.2 ⟨x, hx, (lookI_one hv).2 e⟩)
  have hxa : x ∉ a := fun e => hxc ((h.mem x).2 (.inl e))
  have hxb : x ∉ b := fun e => hxc ((h.mem x).2 (.inr e))
  have e1 : lookI c x = 2 ↔ lookI b x = 2 ∨ lookI a x = 2 := by
    rw [lookI_two hv, lookI_two hv, lookI_two hv]
    have hm := h.mem (-x)
    constructor
    · rintro ⟨_, h1⟩
      rcases hm.1 h1 with h2 | h2
      · exact .inr ⟨hxa, h2⟩
      · exact .inl ⟨hxb, h2⟩
    · rintro (⟨_, h1⟩ | ⟨_, h1⟩)
      · exact ⟨hxc, hm.2 (.inr h1)⟩
      · exact ⟨hxc, hm.2 (.inl h1)⟩
  have e2 : (lookI c x == 2) = (lookI b x == 2 || lookI a x == 2) := by
    rw [Bool.eq_iff_iff, Bool.or_eq_true, beq_iff_eq, beq_iff_eq, beq_iff_eq]
    exact e1
  rw [e2, Bool.not_or]
end

theorem Both.under {a b c : List Int} (h : Both a b c) : ∀ {f : List (List Int)}, (∀ cl ∈ f, Asc cl) → underL b (underL a f) = underL c f
  | [], _ => rfl
  | cl :: f, hf => by
    have hcl := hf cl (by simp)
    have ih := Both.under h (f := f) fun c hc => hf c (by simp [hc])
    have step : ∀ (xs : List Int), underL xs (cl :: f) = if clauseV xs cl = 1 then underL xs f else (cl.filter fun x => !(lookI xs x == 2)) :: underL xs f := fun xs => by
      unfold underL
      by_cases hc : clauseV xs cl = 1
      · rw [if_pos hc, List.filter_cons, if_neg (by simp [hc])]
      · rw [if_neg hc, List.filter_cons, if_pos (by simp [hc])]; rfl
    rw [step a, step c]
    by_cases h1 : clauseV a cl = 1
    · rw [if_pos h1, if_pos (h.first hcl h1), ih]
    · rw [if_neg h1]
      have step2 : underL b ((cl.filter fun x => !(lookI a x == 2)) :: underL a f) = if clauseV b (cl.filter fun x => !(lookI a x == 2)) = 1 then underL b (underL a f) else ((cl.filter fun x => !(lookI a x == 2)).filter fun x => !(lookI b x == 2)) :: underL b (underL a f) := by
        generalize (cl.filter fun x => !(lookI a x == 2)) = d
        generalize underL a f = g
        unfold underL
        by_cases hc : clauseV b d = 1
        · rw [if_pos hc, List.filter_cons, if_neg (by simp [hc])]
        · rw [if_neg hc, List.filter_cons, if_pos (by simp [hc])]; rfl
      rw [step2, ih, ← h.clause hcl h1]
      by_cases h2 : clauseV c cl = 1
      · rw [if_pos h2, if_pos h2]
      · rw [if_neg h2, if_neg h2, h.rest hcl h2]

theorem mem_underL {a : List Int} {f : List (List Int)} {d : List Int} : d ∈ underL a f ↔ ∃ cl ∈ f, clauseV a cl ≠ 1 ∧ d = cl.filter fun x => !(lookI a x == 2) := by
  unfold underL
  rw [List.mem_map]
  constructor
  · rintro ⟨cl, hc, rfl⟩
    obtain ⟨h1, h2⟩ := List.mem_filter.1 hc
    exact ⟨cl, h1, by simpa using h2, rfl⟩
  · rintro ⟨cl, h1, h2, rfl⟩
    exact ⟨cl, List.mem_filter.2 ⟨h1, by simpa using h2⟩, rfl⟩

theorem Both.cnf {a b c : List Int} (h : Both a b c) {f : List (List Int)} (hf : ∀ cl ∈ f, Asc cl) : cnfV c f = cnfV b (underL a f) := by
  have key : ∀ r, r ≠ 1 → ((∃ cl ∈ f, clauseV c cl = r) ↔ ∃ d ∈ underL a f, clauseV b d = r) := fun r hr => by
    constructor
    · rintro ⟨cl, hc, e⟩
      have h1 : clauseV a cl ≠ 1 := fun e1 => hr (by rw [← e, h.first (hf cl hc) e1])
      exact ⟨_, mem_underL.2 ⟨cl, hc, h1, rfl⟩, by rw [← h.clause (hf cl hc) h1]; exact e⟩
    · rintro ⟨d, hd, e⟩
      obtain ⟨cl, hc, h1, rfl⟩ := mem_underL.1 hd
      exact ⟨cl, hc, by rw [h.clause (hf cl hc) h1]; exact e⟩
  rw [cnfV_eq, cnfV_eq]
  simp only [key 2 (by decide), key 0 (by decide)]

theorem joinV_both {a b c : List Int} (ha : Asc a) (hb : Asc b) (h : joinV a b = some c) : Both a b c ∧ Asc c := by
  obtain ⟨h1, h2, h3⟩ := (merge_spec (fun x y => x == y) (fun x => by simp) a b ha hb).2 c h
  have hno : ∀ x, x ∈ a → -x ∈ b → False := fun x hx hx' => by
    have := h1 x hx hx'
    have h4 : x = -x := by simpa using this
    have := varOf_eq (n := x) (by have := ha.2 x hx; omega)
    omega
  refine ⟨⟨fun z => ?_, hno⟩, h3⟩
  rw [h2]
  unfold Mrg
  constructor
  · rintro (h | h)
    · exact .inl h.1
    · exact .inr h.1
  · rintro (h | h)
    · exact .inl ⟨h, fun h' => hno z h h'⟩
    · exact .inr ⟨h, fun h' => hno (-z) h' (by rw [Int.neg_neg]; exact h)⟩
theorem JoinV_ok {a b : List Int} (h : (JoinV a b).2 = 0) : mayB a = true ∧ mayB b = true ∧ joinV a b = some (JoinV a b).1 := by
  unfold JoinV at *
  by_cases hm : mayB a = true ∧ mayB b = true
  · rw [if_pos hm] at h ⊢
    refine ⟨hm.1, hm.2, ?_⟩
    cases hj : joinV a b with
    | none => rw [hj] at h; simp at h
    | some c => rfl
  · rw [if_neg hm] at h; simp at h

theorem lens_mono {g : List Int → Bool} {q : List Int → List Int} (hq : ∀ c, (q c).length ≤ c.length) : ∀ (f : List (List Int)) (k : Nat), lens ((f.filter g).map q) k ≤ total f := by
  intro f k
  refine Nat.le_trans (lens_le _ k) ?_
  unfold total lens
  rw [List.take_length, List.take_length]
  induction f with
  | nil => simp
  | cons c f ih =>
    rw [List.filter_cons]
    split
    · simp only [List.map_cons, List.sum_cons]
      have := hq c
      omega
    · simp only [List.map_cons, List.sum_cons]
      omega

theorem mayCnf_under {a : List Int} {f : List (List Int)} (hf : mayCnfB f = true) : mayCnfB (underL a f) = true := by
  have htot : total f ≤ 200000 := by
    unfold mayCnfB at hf
    rw [Bool.and_eq_true, List.all_eq_true] at hf
    rcases Nat.eq_zero_or_pos f.length with h0 | h0
    · unfold total lens
      have : f = [] := List.length_eq_zero_iff.1 h0
      subst this; simp
    · have := hf.2 (f.length - 1) (by simpa using by omega)
      rw [Bool.and_eq_true, decide_eq_true_eq] at this
      have h1 := this.1
      rw [show f.length - 1 + 1 = f.length by omega] at h1
      exact h1
  have hlen := mayCnfB_len hf
  have hul : (underL a f).length ≤ f.length := by
    unfold underL
    rw [List.length_map]
    exact List.length_filter_le _ _
  have hasc : ∀ c ∈ underL a f, mayB c = true := fun c hc => by
    obtain ⟨cl, h1, _, rfl⟩ := mem_underL.1 hc
    obtain ⟨j, hj, rfl⟩ := List.getElem_of_mem h1
    have := (mayB_iff _).1 (mayCnfB_get hf j hj)
    rw [mayB_iff]
    exact ⟨this.1.filter _, fun x hx => this.2 x (List.mem_filter.1 hx).1⟩
  unfold mayCnfB
  rw [Bool.and_eq_true, List.all_eq_true, decide_eq_true_eq]
  refine ⟨by omega, fun k hk => ?_⟩
  have hk' : k < (underL a f).length := by simpa using hk
  rw [Bool.and_eq_true, decide_eq_true_eq]
  refine ⟨?_, by rw [getD_of _ k hk']; exact hasc _ (List.getElem_mem hk')⟩
  have : lens (underL a f) (k + 1) ≤ total f := lens_mono (q := fun c => c.filter fun x => !(lookI a x == 2)) (fun c => List.length_filter_le _ _) f (k + 1)
  omega

theorem asc_all {f : List (List Int)} (hf : mayCnfB f = true) : ∀ c ∈ f, Asc c := fun c hc => by
  obtain ⟨j, hj, rfl⟩ := List.getElem_of_mem hc
  exact (mayB_iff _).1 (mayCnfB_get hf j hj)

/-- The law. -/
theorem twice_under {a b : List Int} {f : List (List Int)} (hf : mayCnfB f = true) (h : (JoinV a b).2 = 0) :
    UnderV b (UnderV a f) = UnderV (JoinV a b).1 f ∧ CnfV (JoinV a b).1 f = CnfV b (UnderV a f) := by
  obtain ⟨ha, hb, hj⟩ := JoinV_ok h
  obtain ⟨hB, hc⟩ := joinV_both ((mayB_iff a).1 ha) ((mayB_iff b).1 hb) hj
  have hcm := (mayB_iff _).2 hc
  have hu := mayCnf_under (a := a) hf
  have e1 : UnderV a f = underL a f := if_pos ⟨ha, hf⟩
  have e2 : UnderV (JoinV a b).1 f = underL (JoinV a b).1 f := if_pos ⟨hcm, hf⟩
  have e3 : CnfV (JoinV a b).1 f = cnfV (JoinV a b).1 f := if_pos ⟨hcm, hf⟩
  have e4 : UnderV b (underL a f) = underL b (underL a f) := if_pos ⟨hb, hu⟩
  have e5 : CnfV b (underL a f) = cnfV b (underL a f) := if_pos ⟨hb, hu⟩
  rw [e1, e2, e3, e4, e5]
  exact ⟨hB.under (asc_all hf), hB.cnf (asc_all hf)⟩

end Go.Proofs.YteokoaggkpjdeaaDoor
namespace Go.Proofs.YteokoaggkpjdeaaDoor
open Go.RowKit

theorem SameAll_same (r : List (List Int)) (v u : Value) (w : World) (hr : RLL w v r) (kr : RLL w u r) : Calls Tryd.prog 15 #[v, u] w fun e w' => e = .returned (.bool true) ∧ Ext w w' := by
  have := SameAll_any r r v u w hr kr
  rw [decide_eq_true rfl] at this
  exact this

theorem filter64 {xs : List Int} (h : All64 xs) (p : Int → Bool) : All64 (xs.filter p) := fun x hx => h x (List.mem_filter.1 hx).1
theorem UnderV_64 {a : List Int} {f : List (List Int)} (h : All64L f) : All64L (UnderV a f) := by
  unfold UnderV
  split
  · intro c hc
    obtain ⟨cl, h1, _, rfl⟩ := mem_underL.1 hc
    exact filter64 (h cl h1) _
  · intro c hc; cases hc
theorem UnderV_total {a : List Int} {f : List (List Int)} : total (UnderV a f) ≤ total f := by
  unfold UnderV
  split
  · exact lens_mono (q := fun c => c.filter fun x => !(lookI a x == 2)) (fun c => List.length_filter_le _ _) f _
  · simp [total, lens]
theorem JoinV_64 {a b : List Int} (ha : All64 a) (hb : All64 b) : All64 (JoinV a b).1 := by
  by_cases h : (JoinV a b).2 = 0
  · obtain ⟨h1, h2, h3⟩ := JoinV_ok h
    obtain ⟨hB, _⟩ := joinV_both ((mayB_iff a).1 h1) ((mayB_iff b).1 h2) h3
    intro x hx
    exact ((hB.mem x).1 hx).elim (ha x) (hb x)
  · intro x hx
    have : (JoinV a b).1 = [] := by
      unfold JoinV at h ⊢
      split
      · rename_i hm
        rw [if_pos hm] at h
        cases hj : joinV a b with
        | none => rfl
        | some c => rw [hj] at h; simp at h
      · rfl
    rw [this] at hx
    cases hx

set_option maxRecDepth 100000 in
set_option maxHeartbeats 20000000 in
theorem twice_law (f : List (List Int)) (xs cs : List Int) (q v u : Value) (w : World) (f64 : All64L f) (h64 : All64 xs) (k64 : All64 cs) (fr : RLL w q f) (hr : RI w v xs) (kr : RI w u cs) (hnil : ∀ c, q = .slice none 0 c → c = 0)
    (hfl : f.length ≤ 5864062014634) (hfb : ∀ c ∈ f, c.length ≤ 17592186043904) (hb : xs.length ≤ 17592186043904) (kb : cs.length ≤ 17592186043904) (hG : HasSame w) :
    Calls Tryd.prog 6 #[q, v, u] w fun e w' => e = .returned (.bool true) ∧ Ext w w' := by
  have ht : f.length ≤ 200 → total ([xs, cs] ++ f) ≤ 9223372036854775807 := fun h200 => by
    have h3 := total_le' (l := [xs, cs] ++ f) (M := 17592186043904) (fun c hc => by
      rcases List.mem_append.1 hc with h | h
      · rcases List.mem_cons.1 h with rfl | h
        · exact hb
        · rw [List.mem_singleton.1 h]; exact kb
      · exact hfb c h)
    have h4 : ([xs, cs] ++ f).length ≤ 202 := by simp; omega
    have h5 : ([xs, cs] ++ f).length * 17592186043904 ≤ 202 * 17592186043904 := Nat.mul_le_mul_right _ h4
    omega
  have hlg := large_any [xs, cs] f [v, u] w.heap.size q w (w.alloc (.cells #[v, u] 22)) (Ext.alloc w _) (Nat.le_refl _) (Blk.new w _ [v, u]) rfl (by simp) (by simp)
    (fun j h h' => by
      match j, h, h' with
      | 0, _, _ => exact hr
      | 1, _, _ => exact kr
      | j + 2, _, h' => exact absurd h' (by simp))
    (fun q hq => by
      obtain ⟨A, c, rfl, -⟩ := hr
      obtain ⟨B, d, rfl, -⟩ := kr
      rcases List.mem_cons.1 hq with rfl | hq
      · rfl
      · rw [List.mem_singleton.1 hq]; rfl) fr hnil ht hfl
  have HLG := Lib.hid hlg
  have HR := Lib.hid hr
  have KR := Lib.hid kr
  have FR := Lib.hid fr
  have HG := Lib.hid hG
  have F64 := Lib.hid f64
  obtain ⟨A, c, rfl, h1, h2, h3⟩ := hr
  obtain ⟨B, d, rfl, k1, k2, k3⟩ := kr
  obtain ⟨F, fc, fs, rfl, f1, f2, f3, f4, f5⟩ := fr
  clear hlg hG h3 k3 f1 f2 f3 f4 f5 ht hfl hfb hnil f64
  cases hlb : largeB [xs, cs] f
  · rw [hlb] at HLG
    have htf : total f ≤ 2000 := by
      unfold largeB at hlb
      rw [Bool.or_eq_false_iff, decide_eq_false_iff_not, decide_eq_false_iff_not] at hlb
      have h2 : total ([xs, cs] ++ f) = xs.length + (cs.length + total f) := by unfold total lens; simp
      omega
    have HTF := Lib.hid htf
    clear hlb htf
    have HMC := Lib.hid (fun (w' : World) (he : Ext w w') => refMayCnf_any f _ w' F64.out (FR.out.ext' he) (by have := HTF.out; omega))
    cases hm : mayCnfB f
    · rw [hm] at HMC
      clear hm
      go_enter Tryd.func6, Tryd.ntmps6
      go_wp2_with (first
        | (go_at_call 11; refine HLG.out.mono ?_; rintro e w1 ⟨rfl, hE⟩; have HE1 := Lib.hid hE; clear hE)
        | (go_at_call 31; refine (HMC.out _ HE1.out).mono ?_; rintro e w2 ⟨rfl, hE⟩; have HE2 := Lib.hid (HE1.out.trans hE); clear hE)
        | (go_at_call 12; refine (awake_any _ (HG.out.ext HE2.out)).mono ?_; rintro e w3 ⟨rfl, hE⟩; have HE3 := Lib.hid (HE2.out.trans hE); clear hE))
      go_ret
      exact ⟨rfl, HE3.out⟩
    · rw [hm] at HMC
      have HM := Lib.hid hm
      clear hm
      have HJ := Lib.hid (fun (w' : World) (he : Ext w w') => Join_any xs cs _ _ w' h64 k64 (HR.out.ext he) (KR.out.ext he))
      have HA := Lib.hid (fun (w' : World) (he : Ext w w') => Agree_any xs cs _ _ w' h64 k64 (HR.out.ext he) (KR.out.ext he))
      have HJE : Hid (agreeB xs cs = ((JoinV xs cs).2 == 0)) := Lib.hid rfl
      by_cases he : (JoinV xs cs).2 = 0
      · obtain ⟨hu1, hu2⟩ := twice_under HM.out he
        have hag : agreeB xs cs = true := by rw [HJE.out, he]; rfl
        rw [hag] at HA
        have J64 := Lib.hid (JoinV_64 h64 k64)
        unfold PostJoin at HJ
        rw [he] at HJ
        have HU1 := Lib.hid hu1
        have HU2 := Lib.hid hu2
        have hcc : (CnfV (JoinV xs cs).1 f == CnfV (JoinV xs cs).1 f) = true := by simp
        clear hu1 hu2 hag he HJE
        have HUA := Lib.hid (fun (w' : World) (he : Ext w w') => Under_any xs f _ _ w' h64 F64.out (HR.out.ext he) (FR.out.ext' he) (fun _ => by have := HTF.out; omega))
        generalize JoinV xs cs = JJ at HJ HU1 HU2 hcc J64
        obtain ⟨J1, J2⟩ := JJ
        simp only at HJ HU1 HU2 hcc J64
        go_enter Tryd.func6, Tryd.ntmps6
        go_wp2_with (first
          | (go_at_call 11; refine HLG.out.mono ?_; rintro e w1 ⟨rfl, hE⟩; have HE1 := Lib.hid hE; clear hE)
          | (go_at_call 31; refine (HMC.out _ HE1.out).mono ?_; rintro e w2 ⟨rfl, hE⟩; have HE2 := Lib.hid (HE1.out.trans hE); clear hE)
          | (go_at_call 32; refine (HJ.out _ HE2.out).mono ?_; rintro e w3 ⟨jv, rfl, ho, hE⟩; have HO := Lib.hid ho.reads; have HE3 := Lib.hid (HE2.out.trans hE); clear ho hE)
          | (go_at_call 14; fail))
        refine (HUA.out _ HE3.out).mono ?_
        rintro e w4 ⟨v4, rfl, ho, hE⟩
        have HU4 := Lib.hid ho.reads
        have HE34 := Lib.hid hE
        have HE4 := Lib.hid (HE3.out.trans hE)
        clear ho hE
        go_wp2_with fail
        refine (Under_any cs (UnderV xs f) _ _ _ k64 (UnderV_64 F64.out) (KR.out.ext HE4.out) HU4.out (fun _ => by have := HTF.out; have := UnderV_total (a := xs) (f := f); omega)).mono ?_
        rintro e w5 ⟨v5, rfl, ho, hE⟩
        have HU5 := Lib.hid (HU1.out ▸ ho.reads)
        have HE45 := Lib.hid hE
        have HE5 := Lib.hid (HE4.out.trans hE)
        clear ho hE
        go_wp2_with fail
        refine (Under_any J1 f _ _ _ J64.out F64.out (HO.out.ext (HE34.out.trans HE45.out)) (FR.out.ext' HE5.out) (fun _ => by have := HTF.out; omega)).mono ?_
        rintro e w6 ⟨v6, rfl, ho, hE⟩
        have HU6 := Lib.hid ho.reads
        have HE56 := Lib.hid hE
        have HE6 := Lib.hid (HE5.out.trans hE)
        clear ho hE
        go_wp2_with fail
        refine (SameAll_same _ _ _ _ (HU5.out.ext' HE56.out) HU6.out).mono ?_
        rintro e w7 ⟨rfl, hE⟩
        have HE7 := Lib.hid (HE6.out.trans hE)
        have HE37 := Lib.hid (HE34.out.trans (HE45.out.trans (HE56.out.trans hE)))
        clear hE HU4 HU5 HU6
        go_wp2_with fail
        refine (Cnf_any J1 f _ _ _ J64.out F64.out (HO.out.ext HE37.out) (FR.out.ext' HE7.out) (fun _ => by have := HTF.out; omega)).mono ?_
        rintro e w8 ⟨rfl, hE⟩
        have HE8 := Lib.hid (HE7.out.trans hE)
        clear hE
        go_wp2_with fail
        refine (HUA.out _ HE8.out).mono ?_
        rintro e w9 ⟨v9, rfl, ho, hE⟩
        have HU9 := Lib.hid ho.reads
        have HE9 := Lib.hid (HE8.out.trans hE)
        clear ho hE
        go_wp2_with fail
        have hcn := Cnf_any cs (UnderV xs f) _ v9 w9 k64 (UnderV_64 F64.out) (KR.out.ext HE9.out) HU9.out (fun _ => by have := HTF.out; have := UnderV_total (a := xs) (f := f); omega)
        rw [← HU2.out] at hcn
        refine hcn.mono ?_
        rintro e w10 ⟨rfl, hE⟩
        have HE10 := Lib.hid (HE9.out.trans hE)
        clear hE hcn
        go_wp2_with (first
          | (go_at_call 29; refine (HA.out _ HE10.out).mono ?_; rintro e w11 ⟨rfl, hE⟩; have HE11 := Lib.hid (HE10.out.trans hE); clear hE)
          | (go_at_call 12; refine (awake_any _ (HG.out.ext HE11.out)).mono ?_; rintro e w12 ⟨rfl, hE⟩; have HE12 := Lib.hid (HE11.out.trans hE); clear hE))
        go_ret
        exact ⟨rfl, HE12.out⟩
      · have hne : ((JoinV xs cs).2 != 0) = true := by simpa using he
        have hag : agreeB xs cs = false := by rw [HJE.out]; simpa using he
        rw [hag] at HA
        unfold PostJoin at HJ
        clear hag he HJE
        generalize JoinV xs cs = JJ at HJ hne
        obtain ⟨J1, J2⟩ := JJ
        simp only at HJ hne
        go_enter Tryd.func6, Tryd.ntmps6
        go_wp2_with (first
          | (go_at_call 11; refine HLG.out.mono ?_; rintro e w1 ⟨rfl, hE⟩; have HE1 := Lib.hid hE; clear hE)
          | (go_at_call 31; refine (HMC.out _ HE1.out).mono ?_; rintro e w2 ⟨rfl, hE⟩; have HE2 := Lib.hid (HE1.out.trans hE); clear hE)
          | (go_at_call 32; refine (HJ.out _ HE2.out).mono ?_; rintro e w3 ⟨jv, rfl, ho, hE⟩; have HE3 := Lib.hid (HE2.out.trans hE); clear ho hE)
          | (go_at_call 29; refine (HA.out _ HE3.out).mono ?_; rintro e w4 ⟨rfl, hE⟩; have HE4 := Lib.hid (HE3.out.trans hE); clear hE)
          | (go_at_call 12; refine (awake_any _ (HG.out.ext HE4.out)).mono ?_; rintro e w5 ⟨rfl, hE⟩; have HE5 := Lib.hid (HE4.out.trans hE); clear hE))
        go_ret
        exact ⟨rfl, HE5.out⟩
  · rw [hlb] at HLG
    clear hlb
    go_enter Tryd.func6, Tryd.ntmps6
    go_wp2_with (first
      | (go_at_call 11; refine HLG.out.mono ?_; rintro e w1 ⟨rfl, hE⟩; have HE1 := Lib.hid hE; clear hE)
      | (go_at_call 12; refine (awake_any _ (HG.out.ext HE1.out)).mono ?_; rintro e w2 ⟨rfl, hE⟩; have HE2 := Lib.hid (HE1.out.trans hE); clear hE))
    go_ret
    exact ⟨rfl, HE2.out⟩
end Go.Proofs.YteokoaggkpjdeaaDoor
