/- The walk of the law's function large. -/
import Derived.Test.YteokoaggkpjdeaaDoorAwake
import Derived.Laws.AppendOwnNone
namespace Go.Proofs.YteokoaggkpjdeaaDoor
open Go.RowKit

def largeB (ls f : List (List Int)) : Bool := decide (200 < f.length) || decide (2000 < total (ls ++ f))

theorem lens_succ' (f : List (List Int)) (k : Nat) (hk : k < f.length) : lens f (k + 1) = lens f k + f[k].length := by
  unfold lens
  rw [List.take_succ_eq_append_getElem hk, List.map_append, List.sum_append]
  simp

theorem wrap64_add (a b : Int) : wrap64 (wrap64 a + b) = wrap64 (a + b) := by unfold wrap64; omega
theorem wrap64_rng (a : Int) : -9223372036854775808 ≤ wrap64 a ∧ wrap64 a ≤ 9223372036854775807 := by unfold wrap64; omega

/-- Behind the append: the rows of both. -/
structure LG (w0 : World) (ls f : List (List Int)) (A : Option Addr) (n : Nat) (c : Nat) (VS : List Value) (w1 : World) : Prop where
  ext : Ext w0 w1
  row : Row w1 A VS
  len : VS.length = n
  len2 : VS.length = (ls ++ f).length
  el : ∀ j (h : j < VS.length) (h' : j < (ls ++ f).length), RI w1 VS[j] (ls ++ f)[j]
  max : VS.length ≤ 9223372036854775807

theorem LG.mk' {w0 w w1 : World} {ls f : List (List Int)} {g : Nat} {vs us : List Value} {v : Value} {n : Nat} (hE : Ext w0 w) (hg : w0.heap.size ≤ g) (hown : w1.ownsRow g 22 1 v n (vs ++ us)) (hn : n = (vs ++ us).length) (hgr : w.grownBy w1 (some g))
    (h1 : vs.length = ls.length) (h2 : us.length = f.length) (e1 : ∀ j (h : j < vs.length) (h' : j < ls.length), RI w0 vs[j] ls[j]) (e2 : ∀ j (h : j < us.length) (h' : j < f.length), RI w0 us[j] f[j]) :
    ∃ A c, v = .slice A n c ∧ LG w0 ls f A n c (vs ++ us) w1 := by
  subst hn
  obtain ⟨A, c, rfl, h3, h4, h5⟩ := own_row hown
  have hE1 : Ext w0 w1 := hE.grown hgr fun k hk => by injection hk with hk; omega
  refine ⟨A, c, rfl, hE1, h5, rfl, by simp [h1, h2], fun j h h' => ?_, h4⟩
  by_cases hj : j < vs.length
  · rw [List.getElem_append_left hj, List.getElem_append_left (by omega)]
    exact (e1 j hj (by omega)).ext hE1
  · have hj' : vs.length ≤ j := by omega
    rw [List.getElem_append_right hj', List.getElem_append_right (by omega)]
    have := e2 (j - vs.length) (by simp at h; omega) (by simp at h'; omega)
    simp only [h1] at this ⊢
    exact this.ext hE1

set_option maxHeartbeats 2000000 in
theorem large_any (ls f : List (List Int)) (vs : List Value) (g : Nat) (u : Value) (w0 w : World) (hE : Ext w0 w) (hg : w0.heap.size ≤ g) (hl : Blk w g 22 vs) (hvl : vs.length = ls.length) (hn : vs.length ≤ 100) (h0 : 0 < vs.length)
    (hel : ∀ j (h : j < vs.length) (h' : j < ls.length), RI w0 vs[j] ls[j]) (h1c : ∀ v ∈ vs, v.oneCell' = true) (kr : RLL w0 u f) (hnil : ∀ c, u = .slice none 0 c → c = 0) (ht : f.length ≤ 200 → total (ls ++ f) ≤ 9223372036854775807) (hfl : f.length ≤ 5864062014634) :
    Calls Tryd.prog 11 #[u, slV g vs.length] w fun e w' => e = .returned (.bool (largeB ls f)) ∧ Ext w0 w' := by
  have hgs : g ≤ w.heap.size := Nat.le_of_lt hl.lt
  have hown : w.ownsRow g 22 1 (slV g vs.length) vs.length vs := blk_own (Nat.le_refl _) hl (Nat.le_refl _) (by unfold maxLen; omega) rfl (by simp)
  have HOWN := Lib.hid hown
  obtain ⟨B, d, us, rfl, k1, k2, k3, k4, k5⟩ := kr
  have HEL := Lib.hid hel
  have K3 := Lib.hid k3
  have K4 := Lib.hid k4
  have K5 := Lib.hid k5
  have HVL := Lib.hid hvl
  have H1C := Lib.hid h1c
  have HE := Lib.hid hE
  have HT := Lib.hid ht
  have HL := Lib.hid hl
  have hul : us.length ≤ 5864062014634 := by omega
  have HONE : Hid (∀ v ∈ us, v.oneCell' = true) := Lib.hid (fun v hv => by
    obtain ⟨j, hj, rfl⟩ := List.mem_iff_getElem.1 hv
    obtain ⟨A, c, he, -⟩ := k5 j hj (by omega)
    rw [he]; rfl)
  obtain ⟨i0, hi, hz0, hz1, hz2⟩ := info_parts info_ints
  have HI := Lib.hid hi
  have HZ := Lib.hid hz0
  have HZ1 := Lib.hid hz1
  have HZ2 := Lib.hid hz2
  clear hi hz0 hz1 hz2 hown hel k3 k5 hvl h1c hE ht hl k4
  go_enter Tryd.func11, Tryd.ntmps11
  by_cases hu0 : us.length = 0
  · have hus : us = [] := List.length_eq_zero_iff.1 hu0
    subst hus
    have HNIL := Lib.hid hnil
    clear hnil hu0 hul
    go_upto_region 3 with ((with_reducible refine at_dst 10 rfl ?_)
                           refine wpList_append_fits_any _ rfl (.tmp 8) (.tmp 9) 23 rfl g 22 i0 1 Tryd.underlying23 HI.out HZ1.out g vs.length vs.length vs rfl HOWN.out B 0 d [] rfl rfl (fun hb => ⟨rfl, HNIL.out d (by rw [hb]; rfl)⟩) (fun ad _ j u hu => by cases hu) (by simp) (by omega) ?_
                           intro w1 hown hgr
                           obtain ⟨A1, c1, hv1, hlg⟩ := LG.mk' (ls := ls) (f := f) HE.out hg hown (by simp) hgr HVL.out K4.out HEL.out K5.out
                           have HLG := Lib.hid hlg
                           rw [hv1]
                           clear hown hgr hlg hv1)
    have hkl0 : (0 : Int) ≤ lens (ls ++ f) 0 := by omega
    go_loopg [5, 12] (vs.length) (fun gn s i wr => ∃ k : Nat, k ≤ vs.length ∧ gn + k = vs.length ∧ i = .int .i64 k ∧ s = .int .i64 (wrap64 (lens (ls ++ f) k)) ∧ w1 = wr)
    case atStart => exact ⟨0, Nat.zero_le _, by omega, rfl, by rw [show wrap64 ((lens (ls ++ f) 0 : Nat) : Int) = 0 from by rw [show lens (ls ++ f) 0 = 0 from rfl]; unfold wrap64; omega], rfl⟩
    case round =>
      obtain ⟨k, hk, hgk, rfl, rfl, rfl⟩ := hrel
      by_cases hlt : k < vs.length
      · have hkv : k < (vs ++ []).length := by have := HLG.out.len; omega
        have hkr : k < (ls ++ f).length := by have := HLG.out.len2; omega
        obtain ⟨ad, rfl, hvk⟩ := HLG.out.row k hkv
        obtain ⟨CA, cc, hve, -, hcm, -⟩ := HLG.out.el k hkv hkr
        rw [hve] at hvk
        have hls := lens_succ (ls ++ f) k hkr
        obtain ⟨L, hL⟩ : ∃ L, L = (ls ++ f)[k].length := ⟨_, rfl⟩
        rw [← hL] at hvk hcm hls
        obtain ⟨q, hq⟩ : ∃ q, q = wrap64 (lens (ls ++ f) k) := ⟨_, rfl⟩
        have hqr := wrap64_rng (lens (ls ++ f) k)
        rw [← hq] at hqr
        have hqw : wrap64 (q + (L : Int)) = wrap64 (lens (ls ++ f) (k + 1)) := by rw [hq, wrap64_add, hls]; rfl
        rw [← hq]
        have HQW := Lib.hid hqw
        clear hve hls hL hq hqw hkl0 hkv hkr
        go_wp2
        go_roundg (vs.length - (k + 1))
        case measure => omega
        case rel => exact ⟨k + 1, by omega, by omega, by go_num, by rw [HQW.out], rfl⟩
      · obtain rfl : k = vs.length := by omega
        obtain ⟨q, hq⟩ : ∃ q, q = wrap64 (lens (ls ++ f) (vs.length)) := ⟨_, rfl⟩
        have hq2 : f.length ≤ 200 → q = total (ls ++ f) := fun hf2 => by
          have hmx := HT.out hf2
          have h1 := HLG.out.len
          have h2 := HLG.out.len2
          have h3 : lens (ls ++ f) vs.length = total (ls ++ f) := by unfold total; rw [← h2, h1]; try rfl
          rw [hq, h3]; unfold wrap64; omega
        rw [← hq]
        have HQ := Lib.hid hq2
        have hqr := wrap64_rng (lens (ls ++ f) vs.length)
        rw [← hq] at hqr
        clear hq hq2 hkl0 hgk hk
        have hfe : f.length = 0 := by have := K4.out; simpa using this.symm
        have HFE := Lib.hid hfe
        clear hfe
        go_wp2
        go_ret
        exact ⟨ret_bool (by unfold largeB; have hq3 := HQ.out (by rw [HFE.out]; omega); rw [HFE.out, decide_eq_false (show ¬ 200 < 0 by omega), Bool.false_or, decide_eq_decide]; omega), HLG.out.ext⟩
  · obtain ⟨bd, rfl, -⟩ := K3.out 0 (by omega)
    have hu0' : 0 < us.length := by omega
    clear hu0 hnil
    go_upto_region 3 with ((with_reducible refine at_dst 10 rfl ?_)
                           refine wpList_append_lies _ rfl (.tmp 8) (.tmp 9) 23 rfl g 22 i0 (.slice none 0 0) 1 24 Tryd.underlying23 HI.out HZ.out HZ1.out HZ2.out rfl (by decide) (slV g vs.length) vs.length vs rfl HOWN.out bd us.length d us rfl (by omega) ?c2 HONE.out hu0' (by unfold maxLen; omega) (by omega) hgs _ rfl ?_
                           case c2 =>
                             intro j u hu
                             obtain ⟨hj, rfl⟩ := List.getElem?_eq_some_iff.1 hu
                             obtain ⟨ad', had, hc⟩ := (K3.out.ext HE.out) j hj
                             cases had
                             exact hc
                           intro g1 cap w1 hown hgr hat hlt
                           obtain ⟨N, hN⟩ : ∃ N, N = vs.length + us.length := ⟨_, rfl⟩
                           rw [← hN] at hown ⊢
                           have hgr' : w.grownBy w1 (some g) := hgr
                           obtain ⟨A1, c1, hv1, hlg⟩ := LG.mk' (ls := ls) (f := f) HE.out hg hown (by simp [hN]) hgr' HVL.out K4.out HEL.out K5.out
                           have HLG := Lib.hid hlg
                           rw [hv1]
                           have HN := Lib.hid hN
                           have hNb : N ≤ 6000000000000 := by omega
                           clear hown hgr hlg hv1 hat hlt hgr' hN)
    have hkl0 : (0 : Int) ≤ lens (ls ++ f) 0 := by omega
    go_loopg [5, 12] (N) (fun gn s i wr => ∃ k : Nat, k ≤ N ∧ gn + k = N ∧ i = .int .i64 k ∧ s = .int .i64 (wrap64 (lens (ls ++ f) k)) ∧ w1 = wr)
    case atStart => exact ⟨0, Nat.zero_le _, by omega, rfl, by rw [show wrap64 ((lens (ls ++ f) 0 : Nat) : Int) = 0 from by rw [show lens (ls ++ f) 0 = 0 from rfl]; unfold wrap64; omega], rfl⟩
    case round =>
      obtain ⟨k, hk, hgk, rfl, rfl, rfl⟩ := hrel
      by_cases hlt : k < N
      · have hkv : k < (vs ++ us).length := by have := HLG.out.len; omega
        have hkr : k < (ls ++ f).length := by have := HLG.out.len2; omega
        obtain ⟨ad, rfl, hvk⟩ := HLG.out.row k hkv
        obtain ⟨CA, cc, hve, -, hcm, -⟩ := HLG.out.el k hkv hkr
        rw [hve] at hvk
        have hls := lens_succ (ls ++ f) k hkr
        obtain ⟨L, hL⟩ : ∃ L, L = (ls ++ f)[k].length := ⟨_, rfl⟩
        rw [← hL] at hvk hcm hls
        obtain ⟨q, hq⟩ : ∃ q, q = wrap64 (lens (ls ++ f) k) := ⟨_, rfl⟩
        have hqr := wrap64_rng (lens (ls ++ f) k)
        rw [← hq] at hqr
        have hqw : wrap64 (q + (L : Int)) = wrap64 (lens (ls ++ f) (k + 1)) := by rw [hq, wrap64_add, hls]; rfl
        rw [← hq]
        have HQW := Lib.hid hqw
        clear hve hls hL hq hqw hkl0 hkv hkr
        go_wp2
        go_roundg (N - (k + 1))
        case measure => omega
        case rel => exact ⟨k + 1, by omega, by omega, by go_num, by rw [HQW.out], rfl⟩
      · have hNk : N = k := by omega
        subst hNk
        obtain ⟨q, hq⟩ : ∃ q, q = wrap64 (lens (ls ++ f) (N)) := ⟨_, rfl⟩
        have hq2 : f.length ≤ 200 → q = total (ls ++ f) := fun hf2 => by
          have hmx := HT.out hf2
          have h1 := HLG.out.len
          have h2 := HLG.out.len2
          have h3 : lens (ls ++ f) N = total (ls ++ f) := by unfold total; rw [← h2, h1]; try rfl
          rw [hq, h3]; unfold wrap64; omega
        rw [← hq]
        have HQ := Lib.hid hq2
        have hqr := wrap64_rng (lens (ls ++ f) N)
        rw [← hq] at hqr
        clear hq hq2 hkl0 hgk hk
        have hfe : f.length = us.length := by have := K4.out; simpa using this.symm
        have HFE := Lib.hid hfe
        clear hfe
        by_cases hbig : 200 < us.length
        · have HB := Lib.hid hbig
          have hbi : (200 : Int) < (us.length : Int) := by omega
          have hbd : decide ((200 : Int) < (us.length : Int)) = true := decide_eq_true hbi
          clear hbig
          go_wp2
          go_ret
          exact ⟨ret_bool (by unfold largeB; rw [decide_eq_true (by rw [HFE.out]; exact HB.out)]; rfl), HLG.out.ext⟩
        · have HB := Lib.hid hbig
          have hbi : ¬ (200 : Int) < (us.length : Int) := by omega
          have hbd : decide ((200 : Int) < (us.length : Int)) = false := decide_eq_false hbi
          clear hbig
          go_wp2
          go_ret
          exact ⟨ret_bool (by unfold largeB; have hq3 := HQ.out (by rw [HFE.out]; have := HB.out; omega); rw [HFE.out, decide_eq_false (show ¬ 200 < us.length by have := HB.out; omega), Bool.false_or, decide_eq_decide]; omega), HLG.out.ext⟩

end Go.Proofs.YteokoaggkpjdeaaDoor
