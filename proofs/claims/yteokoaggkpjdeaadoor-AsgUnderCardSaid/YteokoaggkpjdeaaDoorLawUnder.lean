/- The walk of the law AsgUnder. -/
import Derived.Test.YteokoaggkpjdeaaDoorRefC
namespace Go.Proofs.YteokoaggkpjdeaaDoor
open Go.RowKit

/-- Own rows of integers, whatever is in them. -/
theorem own_set_any {w : World} {B g k : Nat} {v : Value} {xs : List Int} (x : Int) (h : OwnI w B v xs) : ∃ ys, OwnI (w.setCell ⟨g, k, none⟩ (.int .i64 x)) B v ys ∧ ys.length = xs.length := by
  unfold OwnI at *
  by_cases hg : v.ownBlock = some g
  · refine ⟨xs.set k x, ?_, by simp⟩
    rcases Nat.eq_zero_or_pos xs.length with h0 | h0
    · have : xs = [] := List.length_eq_zero_iff.1 h0
      subst this
      obtain ⟨h1, ⟨rfl, -⟩ | ⟨g', c, cur, rfl, h3, h4, h5, h6, h7, h8⟩⟩ := h
      · simp [Value.ownBlock] at hg
      · have hgg : g' = g := by simpa [Value.ownBlock] using hg
        subst hgg
        have hb : Blk w g' 3 cur.toList := by unfold Blk; simpa using h4
        have := blk_own (vs := []) h3 (hb.set k (.int .i64 x)) (by simp) h6 (by simpa using h7) (by simp)
        simpa using this
    · have h' : w.ownsRow B 3 1 v (xs.map (Value.int .i64)).length (xs.map (Value.int .i64)) := by rw [List.length_map]; exact h
      obtain ⟨g', c, cur, rfl, h3, h4, h5, h6, h7, h8⟩ := own_blk h' (by simpa using h0)
      have hgg : g' = g := by simpa [Value.ownBlock] using hg
      subst hgg
      have := blk_own (vs := (xs.set k x).map (Value.int .i64)) h3 (h4.set k (.int .i64 x)) (by simpa using h5) h6 (by simpa using h7) (by
        simp only [List.length_map, List.length_set]
        rw [List.length_map] at h8
        rw [List.take_set, h8, List.map_set])
      simpa using this
  · exact ⟨xs, (Chg.set w g k _).own h (fun i hi e => hg (e ▸ hi)), rfl⟩

/-- The copies that are made: the first k are there. -/
def MadeLL (w0 w : World) (v : Value) (n : Nat) (f : List (List Int)) (k : Nat) : Prop :=
  ∃ vs, w.ownsRow w0.heap.size 22 1 v n vs ∧ vs.length = n ∧ ∀ j (h : j < vs.length) (h' : j < f.length), j < k → OwnI w w0.heap.size vs[j] f[j]

theorem MadeLL.set {w0 w w1 : World} {v cl : Value} {n k : Nat} {f : List (List Int)} (h : MadeLL w0 w v n f k) (hn : n = f.length) (hk : k < f.length) (hE : Ext w w1) (hc : OwnI w1 w.heap.size cl f[k]) (h0 : w0.heap.size ≤ w.heap.size) :
    ∃ g c, v = .slice (some ⟨g, 0, none⟩) n c ∧ (∃ u, w1.cell? ⟨g, k, none⟩ = some u) ∧ w1.frozen? ⟨g, k, none⟩ = false ∧ w0.heap.size ≤ g ∧ MadeLL w0 (w1.setCell ⟨g, k, none⟩ cl) v n f (k + 1) := by
  subst hn
  obtain ⟨vs, ho, hl, he⟩ := h
  have ho1 := own_ext ho hE
  rw [← hl] at ho1
  obtain ⟨g, c, cur, rfl, h3, h4, h5, h6, h7, h8⟩ := own_blk ho1 (by omega)
  have hch := Chg.set w1 g k cl
  have hne : ∀ {B : Nat} {v' : Value} {xs : List Int}, OwnI w1 B v' xs → OwnI (w1.setCell ⟨g, k, none⟩ cl) B v' xs := fun {B v' xs} hx => hch.own hx (fun i hi e => by
    subst e
    obtain ⟨-, -, cur2, hq⟩ := own_typed hx hi
    unfold Blk at h4
    rw [h4] at hq
    injection hq with hq
    injection hq with _ hq
    exact absurd hq (by decide))
  refine ⟨g, c, by rw [hl], ⟨cur[k]'(by omega), by rw [h4.cell, List.getElem?_eq_getElem]⟩, h4.free k, h3, vs.set k cl, ?_, by simp [hl], fun j hj hj' hjk => ?_⟩
  · have := blk_own (vs := vs.set k cl) h3 (h4.set k cl) (by simpa using h5) h6 (by simpa using h7) (by rw [List.length_set, List.take_set, h8])
    simp only [List.length_set] at this
    rw [hl] at this ⊢
    exact this
  · rw [List.length_set] at hj
    by_cases e : k = j
    · subst e
      simp only [List.getElem_set_self]
      exact hne (own_lower hc h0)
    · rw [List.getElem_set_ne e]
      exact hne (own_ext (he j hj hj' (by omega)) hE)

theorem MadeLL.done {w0 w : World} {v : Value} {n : Nat} {f : List (List Int)} (h : MadeLL w0 w v n f f.length) (hn : n = f.length) : OwnLL w w0.heap.size v f := by
  subst hn
  obtain ⟨vs, ho, hl, he⟩ := h
  exact ⟨vs, by rw [hl]; exact ho, hl, fun j hj hj' => he j hj hj' hj'⟩

/-- The lists that are written over. -/
def Wiped (w1 w : World) (v : Value) (vs : List Value) (r : List (List Int)) : Prop :=
  w.ownsRow w1.heap.size 22 1 v vs.length vs ∧ (∀ j (h : j < vs.length) (h' : j < r.length), ∃ ys, OwnI w w1.heap.size vs[j] ys ∧ ys.length = r[j].length) ∧ Ext w1 w

theorem Wiped.set {w1 w : World} {v : Value} {vs : List Value} {r : List (List Int)} (h : Wiped w1 w v vs r) {j : Nat} (hj : j < vs.length) (hj' : j < r.length) {k : Nat} (hk : k < r[j].length) :
    ∃ g c u, vs[j] = .slice (some ⟨g, 0, none⟩) r[j].length c ∧ w.cell? ⟨g, k, none⟩ = some u ∧ w.frozen? ⟨g, k, none⟩ = false ∧ Wiped w1 (w.setCell ⟨g, k, none⟩ (.int .i64 0)) v vs r := by
  obtain ⟨h1, h2, h3⟩ := h
  obtain ⟨ys, hy, hyl⟩ := h2 j hj hj'
  obtain ⟨g, c, hv, hB, hcell, hfree, -⟩ := own_at (Value.int .i64) hy k (by omega)
  refine ⟨g, c, _, by rw [hv, hyl], hcell, hfree, ?_, fun i hi hi' => ?_, (Chg.set w g k _).toExt h3 (fun i hi => hi ▸ hB)⟩
  · refine (Chg.set w g k _).own h1 (fun i hi e => ?_)
    subst e
    obtain ⟨-, -, cur, hq⟩ := own_typed h1 hi
    obtain ⟨-, -, cur2, hq2⟩ := own_typed hy (show vs[j].ownBlock = some i by rw [hv]; rfl)
    rw [hq] at hq2
    injection hq2 with hq2
    injection hq2 with _ hq2
    exact absurd hq2 (by decide)
  · obtain ⟨zs, hz, hzl⟩ := h2 i hi hi'
    obtain ⟨ys', hy', hyl'⟩ := own_set_any (g := g) (k := k) 0 hz
    exact ⟨ys', hy', by omega⟩

theorem SameAll_same (r : List (List Int)) (v u : Value) (w : World) (hr : RLL w v r) (kr : RLL w u r) : Calls Tryd.prog 15 #[v, u] w fun e w' => e = .returned (.bool true) ∧ Ext w w' := by
  have := SameAll_any r r v u w hr kr
  rw [decide_eq_true rfl] at this
  exact this

theorem Wiped.start {w1 w : World} {v : Value} {r : List (List Int)} (h : OwnLL w w1.heap.size v r) (hE : Ext w1 w) : ∃ A c vs, v = .slice A vs.length c ∧ vs.length = r.length ∧ Wiped w1 w v vs r := by
  obtain ⟨vs, h1, h2, h3⟩ := h
  obtain ⟨A, c, h4, -⟩ := own_row h1
  exact ⟨A, c, vs, h4, h2, h1, fun j hj hj' => ⟨_, h3 j hj hj', rfl⟩, hE⟩
theorem Wiped.ext {w1 w w' : World} {v : Value} {vs : List Value} {r : List (List Int)} (h : Wiped w1 w v vs r) (k : Ext w w') : Wiped w1 w' v vs r :=
  ⟨own_ext h.1 k, fun j hj hj' => by obtain ⟨ys, h1, h2⟩ := h.2.1 j hj hj'; exact ⟨ys, own_ext h1 k, h2⟩, h.2.2.trans k⟩
theorem Wiped.row {w1 w : World} {A : Option Addr} {c : Nat} {vs : List Value} {r : List (List Int)} (h : Wiped w1 w (.slice A vs.length c) vs r) (hl : vs.length = r.length) (k : Nat) (hk : k < vs.length) :
    ∃ ad EA ec, A = some ad ∧ vs[k] = .slice EA (r[k]'(by omega)).length ec ∧ w.cell? (ad.add k) = some (.slice EA (r[k]'(by omega)).length ec) ∧ (r[k]'(by omega)).length ≤ 9223372036854775807 := by
  obtain ⟨A', c', he, -, -, hrow⟩ := own_row h.1
  injection he with e1 _ _
  subst e1
  obtain ⟨ad, hA, hc⟩ := hrow k hk
  obtain ⟨ys, hy, hyl⟩ := h.2.1 k hk (by omega)
  obtain ⟨EA, ec, hv, -, hm, -⟩ := hy.reads
  rw [hyl] at hv hm
  exact ⟨ad, EA, ec, hA, hv, by rw [hc, hv], hm⟩

set_option maxRecDepth 100000 in
set_option maxHeartbeats 20000000 in
theorem under_law (xs : List Int) (f : List (List Int)) (v u : Value) (w : World) (h64 : All64 xs) (k64 : All64L f) (hr : RI w v xs) (kr : RLL w u f) (hnil : ∀ c, u = .slice none 0 c → c = 0)
    (ht : f.length ≤ 200 → total ([xs] ++ f) ≤ 9223372036854775807) (hfl : f.length ≤ 5864062014634) (hG : HasSame w) :
    Calls Tryd.prog 3 #[v, u] w fun e w' => e = .returned (.bool true) ∧ Ext w w' := by
  have hlg := large_any [xs] f [v] w.heap.size u w (w.alloc (.cells #[v] 22)) (Ext.alloc w _) (Nat.le_refl _) (Blk.new w _ [v]) rfl (by simp) (by simp)
    (fun j h h' => by
      obtain rfl : j = 0 := by simp at h; omega
      exact hr)
    (fun q hq => by
      rw [List.mem_singleton.1 hq]
      obtain ⟨A, c, rfl, -⟩ := hr
      rfl) kr hnil ht hfl
  have HLG := Lib.hid hlg
  have HR := Lib.hid hr
  have KR := Lib.hid kr
  have HG := Lib.hid hG
  have HT := Lib.hid ht
  obtain ⟨A, c, rfl, h1, h2, h3⟩ := hr
  obtain ⟨B, d, us, rfl, k1, k2, k3, k4, k5⟩ := kr
  have K3 := Lib.hid k3
  have K4 := Lib.hid k4
  have K5 := Lib.hid k5
  clear hlg hG ht h3 k3 k4 k5 hnil
  cases hb : largeB [xs] f
  · rw [hb] at HLG
    have HB := Lib.hid hb
    clear hb
    go_enter Tryd.func3, Tryd.ntmps3
    go_upto_region 3 with (go_at_call 11; refine HLG.out.mono ?_; rintro e w1 ⟨rfl, hE⟩; have HE1 := Lib.hid hE; clear hE)
    have hsm : f.length ≤ 200 ∧ total ([xs] ++ f) ≤ 2000 := by
      have := HB.out
      unfold largeB at this
      rw [Bool.or_eq_false_iff, decide_eq_false_iff_not, decide_eq_false_iff_not] at this
      omega
    have hul : us.length ≤ 200 := by have := K4.out; omega
    have htf : total f ≤ 2000 := by
      have h1 := hsm.2
      have h2 : total ([xs] ++ f) = xs.length + total f := by unfold total lens; simp
      omega
    have HTF := Lib.hid htf
    have HFL : Hid (∀ j (hj : j < f.length), f[j].length ≤ 2000) := Lib.hid (fun j hj => by
      have h1 := lens_succ f j hj
      have h2 := lens_le f (j + 1)
      have := HTF.out
      omega)
    obtain ⟨i0, hi, hz0, hz1, hz2⟩ := info_parts info_ints
    have HI := Lib.hid hi
    have HZ := Lib.hid hz0
    have HZ1 := Lib.hid hz1
    have HZ2 := Lib.hid hz2
    clear hi hz0 hz1 hz2 hsm htf hfl
    go_upto_region 4 with ((with_reducible refine at_dst 20 rfl ?_)
                           have hsz := HE1.out.size
                           refine wpList_make_full _ rfl (.tmp 19) (.tmp 19) 23 rfl w.heap.size 22 i0 (.slice none 0 0) 1 Tryd.underlying23 HI.out HZ.out HZ1.out .i64 .i64 _ _ us.length rfl rfl rfl rfl (by rw [HZ2.out]; omega) (by unfold maxLen; omega) hsz ?_
                           intro w2 hown hg
                           have HE2 : Hid (Ext w w2) := Lib.hid (HE1.out.grown hg (fun k hk => by cases hk))
                           have HMD : Hid (MadeLL w w2 (.slice (some ⟨w1.heap.size, 0, none⟩) us.length us.length) us.length f 0) := Lib.hid ⟨_, hown, by simp [madeCells], fun j _ _ h => absurd h (Nat.not_lt_zero j)⟩
                           clear hown hg hsz)
    generalize w1.heap.size = gb at HMD ⊢
    go_wp2_with fail
    go_loopg [23] us.length (fun gn i wr => ∃ k : Nat, k ≤ us.length ∧ gn + k = us.length ∧ i = .int .i64 k ∧ Hid (Ext w wr ∧ MadeLL w wr (.slice (some ⟨gb, 0, none⟩) us.length us.length) us.length f k))
    case atStart => exact ⟨0, Nat.zero_le _, by omega, rfl, HE2.out, HMD.out⟩
    case round =>
      obtain ⟨k, hk, hgk, rfl, HS⟩ := hrel
      by_cases hlt : k < us.length
      · have hkf : k < f.length := by have := K4.out; omega
        obtain ⟨ad, rfl, hvk⟩ := (K3.out.ext HS.out.1) k hlt
        have HCL := Lib.hid (cloneI_any us[k] f[k] wr ((K5.out k hlt hkf).ext HS.out.1) (by have := HFL.out k hkf; omega))
        go_wp2_with (go_at_call 13
                     refine HCL.out.mono ?_
                     rintro e w3 ⟨cl, rfl, hcl, hE⟩
                     obtain ⟨g, c', hv, ⟨u0, hcell⟩, hfree, hB, hmd⟩ := HS.out.2.set K4.out hkf hE hcl HS.out.1.size
                     injection hv with e1 e2 e3
                     injection e1 with e1
                     injection e1 with e1
                     subst e1 e3
                     obtain ⟨CA, cc, hce, -⟩ := hcl.reads
                     rw [hce] at hmd ⊢
                     have HMD2 := Lib.hid hmd
                     have HE3 : Hid (Ext w (w3.setCell ⟨gb, k, none⟩ (.slice CA f[k].length cc))) := Lib.hid ((Chg.set w3 gb k _).toExt (HS.out.1.trans hE) (fun i hi => hi ▸ hB))
                     clear hcl hE hmd e2 hce hB)
        go_roundg (us.length - (k + 1))
        case measure => omega
        case rel => exact ⟨k + 1, by omega, by omega, by go_num, HE3.out, HMD2.out⟩
      · have hke : k = f.length := by have := K4.out; omega
        obtain ⟨hEr, hmr⟩ := HS.out
        rw [hke] at hmr
        have hown := hmr.done K4.out
        obtain ⟨w3, rfl⟩ : ∃ w3 : World, w3 = wr := ⟨_, rfl⟩
        have HE3 := Lib.hid hEr
        have HOL := Lib.hid hown
        have HUN := Lib.hid (Under_any xs f _ _ w3 h64 k64 (HR.out.ext hEr) hown.reads (fun _ => by have := HTF.out; omega))
        clear hke hmr hEr hown HS HMD hgk hk
        go_upto_region 10 with (go_at_call 14
                                refine HUN.out.mono ?_
                                rintro e w4 ⟨v8, rfl, hu8, hE⟩
                                have HU8 := Lib.hid hu8
                                have HE4 := Lib.hid hE
                                clear hu8 hE)
        obtain ⟨A8, c8, vs8, hv8, hl8, hw8⟩ := Wiped.start HU8.out HE4.out
        subst hv8
        have HL8 := Lib.hid hl8
        have HWI := Lib.hid hw8
        clear hw8 hl8
        have hcc : (CnfV xs f == CnfV xs f) = true := by simp
        go_upto_region 11 with (first
          | (go_at_call 16
             refine (refUnder_any xs f _ _ _ h64 k64 (HR.out.ext (HE3.out.trans HE4.out)) (KR.out.ext' (HE3.out.trans HE4.out)) (by have := HTF.out; omega)).mono ?_
             rintro e w5 ⟨v9, rfl, hu9, hE⟩
             have HU9 := Lib.hid hu9
             have HE5 := Lib.hid hE
             clear hu9 hE)
          | (go_at_call 15
             refine (SameAll_same _ _ _ _ (HU8.out.reads.ext' HE5.out) HU9.out).mono ?_
             rintro e w6 ⟨rfl, hE⟩
             have HE6 := Lib.hid (HE4.out.trans (HE5.out.trans hE))
             have HE46 := Lib.hid (HE5.out.trans hE)
             clear hE)
          | (go_at_call 17
             refine (Cnf_any xs f _ _ _ h64 k64 (HR.out.ext (HE3.out.trans HE6.out)) (HOL.out.reads.ext' HE6.out) (fun _ => by have := HTF.out; omega)).mono ?_
             rintro e w7 ⟨rfl, hE⟩
             have HE7 := Lib.hid (HE6.out.trans hE)
             have HE47 := Lib.hid (HE46.out.trans hE)
             clear hE)
          | (go_at_call 18
             refine (refCnf_any xs f _ _ _ h64 k64 (HR.out.ext (HE3.out.trans HE7.out)) (KR.out.ext' (HE3.out.trans HE7.out)) (by have := HTF.out; omega)).mono ?_
             rintro e w8 ⟨rfl, hE⟩
             have HE8 := Lib.hid (HE7.out.trans hE)
             have HE48 := Lib.hid (HE47.out.trans hE)
             clear hE))
        have HW := Lib.hid (HWI.out.ext HE48.out)
        have hm8 : vs8.length ≤ 9223372036854775807 := by obtain ⟨_, _, _, _, h, _⟩ := own_row HW.out.1; exact h
        clear HWI HUN HU8 HU9 HE4 HE5 HE6 HE7 HE8 HE46 HE47 HE48 hcc
        go_wp2_with fail
        go_loopg [53] vs8.length (fun gn i wr => ∃ k : Nat, k ≤ vs8.length ∧ gn + k = vs8.length ∧ i = .int .i64 k ∧ Hid (Wiped w3 wr (.slice A8 vs8.length c8) vs8 (UnderV xs f)))
        case atStart => exact ⟨0, Nat.zero_le _, by omega, rfl, HW⟩
        case round =>
          obtain ⟨k, hk, hgk, rfl, HS⟩ := hrel
          by_cases hlt : k < vs8.length
          · obtain ⟨ad, EA, ec, rfl, hve, hcell, hmx⟩ := HS.out.row HL8.out k hlt
            have hkr : k < (UnderV xs f).length := by have := HL8.out; omega
            obtain ⟨L, hL⟩ : ∃ L, L = (UnderV xs f)[k].length := ⟨_, rfl⟩
            rw [← hL] at hcell hve hmx
            have HVE := Lib.hid hve
            have HLL := Lib.hid hL
            obtain ⟨w9, rfl⟩ : ∃ w9 : World, w9 = wr := ⟨_, rfl⟩
            clear hve hL HW
            go_wp2_with fail
            go_loopg [59] L (fun gn i wr => ∃ m : Nat, m ≤ L ∧ gn + m = L ∧ i = .int .i64 m ∧ Hid (Wiped w3 wr (.slice (some ad) vs8.length c8) vs8 (UnderV xs f)))
            case atStart => exact ⟨0, Nat.zero_le _, by omega, rfl, HS⟩
            case round =>
              obtain ⟨m, hm, hgm, rfl, HS2⟩ := hrel
              by_cases hml : m < L
              · obtain ⟨g, cg, u0, hv0, hcell0, hfree0, hwp⟩ := HS2.out.set hlt hkr (k := m) (by rw [← HLL.out]; exact hml)
                have hv1 := HVE.out.symm.trans hv0
                injection hv1 with e1 e2 e3
                subst e1 e3
                have HWP := Lib.hid hwp
                clear e2 hv0 hwp
                go_wp2
                go_roundg (L - (m + 1))
                case measure => omega
                case rel => exact ⟨m + 1, by omega, by omega, by go_num, HWP⟩
              · go_wp2
                go_roundg (vs8.length - (k + 1))
                case measure => omega
                case rel => exact ⟨k + 1, by omega, by omega, by go_num, HS2⟩
          · clear hgk hk
            go_wp2_with (first
              | (go_at_call 15
                 refine (SameAll_same f _ _ _ (HOL.out.reads.ext' HS.out.2.2) (KR.out.ext' (HE3.out.trans HS.out.2.2))).mono ?_
                 rintro e w10 ⟨rfl, hE⟩
                 have HE10 := Lib.hid ((HE3.out.trans HS.out.2.2).trans hE)
                 clear hE)
              | (go_at_call 12; refine (awake_any _ (HG.out.ext HE10.out)).mono ?_; rintro e w11 ⟨rfl, hE⟩; have HE11 := Lib.hid hE; clear hE))
            go_ret
            exact ⟨rfl, HE10.out.trans HE11.out⟩
  · rw [hb] at HLG
    clear hb
    go_enter Tryd.func3, Tryd.ntmps3
    go_wp2_with (first
      | (go_at_call 11; refine HLG.out.mono ?_; rintro e w1 ⟨rfl, hE⟩; have HE1 := Lib.hid hE; clear hE)
      | (go_at_call 12; refine (awake_any _ (HG.out.ext HE1.out)).mono ?_; rintro e w2 ⟨rfl, hE⟩; have HE2 := Lib.hid hE; clear hE))
    go_ret
    exact ⟨rfl, HE1.out.trans HE2.out⟩

end Go.Proofs.YteokoaggkpjdeaaDoor
