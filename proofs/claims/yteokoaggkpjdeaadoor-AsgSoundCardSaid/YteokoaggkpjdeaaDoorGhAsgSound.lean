/- The walk of the law's function large. Plain law: the clauses under a, and these under b, are those under both. Plain law of unit propagation: the normal list beside the assignment of the program. Plain facts on a sorted list from which equal neighbours are struck. Sorting and compacting rows of the call's own; walk of lits.Vars. Walks of lits.order and lits.by: the order of literals as a comparison for the library's sort. Walk of lits.Norm: the library's sort by the order of literals, and the striking of equal neighbours. Walk of asg.Close. Plain law of unit propagation: whatever order the clauses have, what follows is the same. Walk of lits.Sub: whether a normal list is within another. Plain law: points and numbers are inverse. Plain law of unit propagation: each step's clause is unit when it is made, and what follows lies in each model. Walk of slices.Reverse over slices of integers, in a row of the call's own. Lists of lists as pairs of a header and what it reads as; the append of such rows. The walk of the law AsgSound. -/
import Derived.Test.YteokoaggkpjdeaaDoorGe
import Derived.Laws.AppendOwnNone
import Derived.Test.YteokoaggkpjdeaaDoorGa
import Derived.Test.YteokoaggkpjdeaaDoorGd
import Derived.Lib.SlicesCompact
import Derived.Sort.Statements
import Derived.Test.YteokoaggkpjdeaaDoorShelf
import Derived.Test.YteokoaggkpjdeaaDoorGf
import Derived.Sort.OwnSortedInts
import Derived.Lib.RowBridge
import Derived.Test.YteokoaggkpjdeaaDoorShelfF
import Derived.Shelf.SlSortCmp.NoneTotal
import Derived.Test.YteokoaggkpjdeaaDoorGb
import Derived.Deep.LoopGhost
import Derived.Deep.Cut
import Derived.BigQuiet
import Derived.Test.YteokoaggkpjdeaaDoorGc
import Derived.Test.YteokoaggkpjdeaaDoorGgAsgSound
import Derived.Deep.CutRange
import Derived.Deep.RegionHeld3
namespace Go.Proofs.YteokoaggkpjdeaaDoor
open Go.RowKit

def largeB (ls f : List (List Int)) : Bool := decide (200 < f.length) || decide (2000 < total (ls ++ f))

theorem total_le' {l : List (List Int)} {M : Nat} (h : ∀ c ∈ l, c.length ≤ M) : total l ≤ l.length * M := by
  unfold total lens
  rw [List.take_length]
  induction l with
  | nil => simp
  | cons c l ih =>
    have h1 := h c (by simp)
    have h2 := ih fun c hc => h c (by simp [hc])
    rw [List.map_cons, List.sum_cons, List.length_cons, Nat.add_mul]
    omega

theorem lens_succ' (f : List (List Int)) (k : Nat) (hk : k < f.length) : lens f (k + 1) = lens f k + f[k].length := by
  unfold lens
  rw [List.take_succ_eq_append_getElem hk, List.map_append, List.sum_append]
  simp

theorem wrap64_add (a b : Int) : wrap64 (wrap64 a + b) = wrap64 (a + b) := by unfold wrap64; omega
theorem wrap64_rng (a : Int) : -9223372036854775808 ≤ wrap64 a ∧ wrap64 a ≤ 9223372036854775807 := by unfold wrap64; omega

/-- Behind the append: the rows of both. -/
structure LG (w0 : World) (ls f : List (List Int)) (A : Option Addr) (n : Nat) (c : Nat) (VS : List Value) (w1 : World) : Prop where
  ext : Ext w0 w1
  row : Row w1 A VS
  len : VS.length = n
  len2 : VS.length = (ls ++ f).length
  el : ∀ j (h : j < VS.length) (h' : j < (ls ++ f).length), RI w1 VS[j] (ls ++ f)[j]
  max : VS.length ≤ 9223372036854775807

theorem LG.mk' {w0 w w1 : World} {ls f : List (List Int)} {g : Nat} {vs us : List Value} {v : Value} {n : Nat} (hE : Ext w0 w) (hg : w0.heap.size ≤ g) (hown : w1.ownsRow g 22 1 v n (vs ++ us)) (hn : n = (vs ++ us).length) (hgr : w.grownBy w1 (some g))
    (h1 : vs.length = ls.length) (h2 : us.length = f.length) (e1 : ∀ j (h : j < vs.length) (h' : j < ls.length), RI w0 vs[j] ls[j]) (e2 : ∀ j (h : j < us.length) (h' : j < f.length), RI w0 us[j] f[j]) :
    ∃ A c, v = .slice A n c ∧ LG w0 ls f A n c (vs ++ us) w1 := by
  subst hn
  obtain ⟨A, c, rfl, h3, h4, h5⟩ := own_row hown
  have hE1 : Ext w0 w1 := hE.grown hgr fun k hk => by injection hk with hk; omega
  refine ⟨A, c, rfl, hE1, h5, rfl, by simp [h1, h2], fun j h h' => ?_, h4⟩
  by_cases hj : j < vs.length
  · rw [List.getElem_append_left hj, List.getElem_append_left (by omega)]
    exact (e1 j hj (by omega)).ext hE1
  · have hj' : vs.length ≤ j := by omega
    rw [List.getElem_append_right hj', List.getElem_append_right (by omega)]
    have := e2 (j - vs.length) (by simp at h; omega) (by simp at h'; omega)
    simp only [h1] at this ⊢
    exact this.ext hE1

set_option maxHeartbeats 2000000 in
theorem large_any (ls f : List (List Int)) (vs : List Value) (g : Nat) (u : Value) (w0 w : World) (hE : Ext w0 w) (hg : w0.heap.size ≤ g) (hl : Blk w g 22 vs) (hvl : vs.length = ls.length) (hn : vs.length ≤ 100) (h0 : 0 < vs.length)
    (hel : ∀ j (h : j < vs.length) (h' : j < ls.length), RI w0 vs[j] ls[j]) (h1c : ∀ v ∈ vs, v.oneCell' = true) (kr : RLL w0 u f) (hnil : ∀ c, u = .slice none 0 c → c = 0) (ht : f.length ≤ 200 → total (ls ++ f) ≤ 9223372036854775807) (hfl : f.length ≤ 5864062014634) :
    Calls Tryd.prog 11 #[u, slV g vs.length] w fun e w' => e = .returned (.bool (largeB ls f)) ∧ Ext w0 w' := by
  have hgs : g ≤ w.heap.size := Nat.le_of_lt hl.lt
  have hown : w.ownsRow g 22 1 (slV g vs.length) vs.length vs := blk_own (Nat.le_refl _) hl (Nat.le_refl _) (by unfold maxLen; omega) rfl (by simp)
  have HOWN := Lib.hid hown
  obtain ⟨B, d, us, rfl, k1, k2, k3, k4, k5⟩ := kr
  have HEL := Lib.hid hel
  have K3 := Lib.hid k3
  have K4 := Lib.hid k4
  have K5 := Lib.hid k5
  have HVL := Lib.hid hvl
  have H1C := Lib.hid h1c
  have HE := Lib.hid hE
  have HT := Lib.hid ht
  have HL := Lib.hid hl
  have hul : us.length ≤ 5864062014634 := by omega
  have HONE : Hid (∀ v ∈ us, v.oneCell' = true) := Lib.hid (fun v hv => by
    obtain ⟨j, hj, rfl⟩ := List.mem_iff_getElem.1 hv
    obtain ⟨A, c, he, -⟩ := k5 j hj (by omega)
    rw [he]; rfl)
  obtain ⟨i0, hi, hz0, hz1, hz2⟩ := info_parts info_ints
  have HI := Lib.hid hi
  have HZ := Lib.hid hz0
  have HZ1 := Lib.hid hz1
  have HZ2 := Lib.hid hz2
  clear hi hz0 hz1 hz2 hown hel k3 k5 hvl h1c hE ht hl k4
  go_enter Tryd.func11, Tryd.ntmps11
  by_cases hu0 : us.length = 0
  · have hus : us = [] := List.length_eq_zero_iff.1 hu0
    subst hus
    have HNIL := Lib.hid hnil
    clear hnil hu0 hul
    go_upto_region 3 with ((with_reducible refine at_dst 10 rfl ?_)
                           refine wpList_append_fits_any _ rfl (.tmp 8) (.tmp 9) 23 rfl g 22 i0 1 Tryd.underlying23 HI.out HZ1.out g vs.length vs.length vs rfl HOWN.out B 0 d [] rfl rfl (fun hb => ⟨rfl, HNIL.out d (by rw [hb]; rfl)⟩) (fun ad _ j u hu => by cases hu) (by simp) (by omega) ?_
                           intro w1 hown hgr
                           obtain ⟨A1, c1, hv1, hlg⟩ := LG.mk' (ls := ls) (f := f) HE.out hg hown (by simp) hgr HVL.out K4.out HEL.out K5.out
                           have HLG := Lib.hid hlg
                           rw [hv1]
                           clear hown hgr hlg hv1)
    have hkl0 : (0 : Int) ≤ lens (ls ++ f) 0 := by omega
    go_loopg [5, 12] (vs.length) (fun gn s i wr => ∃ k : Nat, k ≤ vs.length ∧ gn + k = vs.length ∧ i = .int .i64 k ∧ s = .int .i64 (wrap64 (lens (ls ++ f) k)) ∧ w1 = wr)
    case atStart => exact ⟨0, Nat.zero_le _, by omega, rfl, by rw [show wrap64 ((lens (ls ++ f) 0 : Nat) : Int) = 0 from by rw [show lens (ls ++ f) 0 = 0 from rfl]; unfold wrap64; omega], rfl⟩
    case round =>
      obtain ⟨k, hk, hgk, rfl, rfl, rfl⟩ := hrel
      by_cases hlt : k < vs.length
      · have hkv : k < (vs ++ []).length := by have := HLG.out.len; omega
        have hkr : k < (ls ++ f).length := by have := HLG.out.len2; omega
        obtain ⟨ad, rfl, hvk⟩ := HLG.out.row k hkv
        obtain ⟨CA, cc, hve, -, hcm, -⟩ := HLG.out.el k hkv hkr
        rw [hve] at hvk
        have hls := lens_succ (ls ++ f) k hkr
        obtain ⟨L, hL⟩ : ∃ L, L = (ls ++ f)[k].length := ⟨_, rfl⟩
        rw [← hL] at hvk hcm hls
        obtain ⟨q, hq⟩ : ∃ q, q = wrap64 (lens (ls ++ f) k) := ⟨_, rfl⟩
        have hqr := wrap64_rng (lens (ls ++ f) k)
        rw [← hq] at hqr
        have hqw : wrap64 (q + (L : Int)) = wrap64 (lens (ls ++ f) (k + 1)) := by rw [hq, wrap64_add, hls]; rfl
        rw [← hq]
        have HQW := Lib.hid hqw
        clear hve hls hL hq hqw hkl0 hkv hkr
        go_wp2
        go_roundg (vs.length - (k + 1))
        case measure => omega
        case rel => exact ⟨k + 1, by omega, by omega, by go_num, by rw [HQW.out], rfl⟩
      · obtain rfl : k = vs.length := by omega
        obtain ⟨q, hq⟩ : ∃ q, q = wrap64 (lens (ls ++ f) (vs.length)) := ⟨_, rfl⟩
        have hq2 : f.length ≤ 200 → q = total (ls ++ f) := fun hf2 => by
          have hmx := HT.out hf2
          have h1 := HLG.out.len
          have h2 := HLG.out.len2
          have h3 : lens (ls ++ f) vs.length = total (ls ++ f) := by unfold total; rw [← h2, h1]; try rfl
          rw [hq, h3]; unfold wrap64; omega
        rw [← hq]
        have HQ := Lib.hid hq2
        have hqr := wrap64_rng (lens (ls ++ f) vs.length)
        rw [← hq] at hqr
        clear hq hq2 hkl0 hgk hk
        have hfe : f.length = 0 := by have := K4.out; simpa using this.symm
        have HFE := Lib.hid hfe
        clear hfe
        go_wp2
        go_ret
        exact ⟨ret_bool (by unfold largeB; have hq3 := HQ.out (by rw [HFE.out]; omega); rw [HFE.out, decide_eq_false (show ¬ 200 < 0 by omega), Bool.false_or, decide_eq_decide]; omega), HLG.out.ext⟩
  · obtain ⟨bd, rfl, -⟩ := K3.out 0 (by omega)
    have hu0' : 0 < us.length := by omega
    clear hu0 hnil
    go_upto_region 3 with ((with_reducible refine at_dst 10 rfl ?_)
                           refine wpList_append_lies _ rfl (.tmp 8) (.tmp 9) 23 rfl g 22 i0 (.slice none 0 0) 1 24 Tryd.underlying23 HI.out HZ.out HZ1.out HZ2.out rfl (by decide) (slV g vs.length) vs.length vs rfl HOWN.out bd us.length d us rfl (by omega) ?c2 HONE.out hu0' (by unfold maxLen; omega) (by omega) hgs _ rfl ?_
                           case c2 =>
                             intro j u hu
                             obtain ⟨hj, rfl⟩ := List.getElem?_eq_some_iff.1 hu
                             obtain ⟨ad', had, hc⟩ := (K3.out.ext HE.out) j hj
                             cases had
                             exact hc
                           intro g1 cap w1 hown hgr hat hlt
                           obtain ⟨N, hN⟩ : ∃ N, N = vs.length + us.length := ⟨_, rfl⟩
                           rw [← hN] at hown ⊢
                           have hgr' : w.grownBy w1 (some g) := hgr
                           obtain ⟨A1, c1, hv1, hlg⟩ := LG.mk' (ls := ls) (f := f) HE.out hg hown (by simp [hN]) hgr' HVL.out K4.out HEL.out K5.out
                           have HLG := Lib.hid hlg
                           rw [hv1]
                           have HN := Lib.hid hN
                           have hNb : N ≤ 6000000000000 := by omega
                           clear hown hgr hlg hv1 hat hlt hgr' hN)
    have hkl0 : (0 : Int) ≤ lens (ls ++ f) 0 := by omega
    go_loopg [5, 12] (N) (fun gn s i wr => ∃ k : Nat, k ≤ N ∧ gn + k = N ∧ i = .int .i64 k ∧ s = .int .i64 (wrap64 (lens (ls ++ f) k)) ∧ w1 = wr)
    case atStart => exact ⟨0, Nat.zero_le _, by omega, rfl, by rw [show wrap64 ((lens (ls ++ f) 0 : Nat) : Int) = 0 from by rw [show lens (ls ++ f) 0 = 0 from rfl]; unfold wrap64; omega], rfl⟩
    case round =>
      obtain ⟨k, hk, hgk, rfl, rfl, rfl⟩ := hrel
      by_cases hlt : k < N
      · have hkv : k < (vs ++ us).length := by have := HLG.out.len; omega
        have hkr : k < (ls ++ f).length := by have := HLG.out.len2; omega
        obtain ⟨ad, rfl, hvk⟩ := HLG.out.row k hkv
        obtain ⟨CA, cc, hve, -, hcm, -⟩ := HLG.out.el k hkv hkr
        rw [hve] at hvk
        have hls := lens_succ (ls ++ f) k hkr
        obtain ⟨L, hL⟩ : ∃ L, L = (ls ++ f)[k].length := ⟨_, rfl⟩
        rw [← hL] at hvk hcm hls
        obtain ⟨q, hq⟩ : ∃ q, q = wrap64 (lens (ls ++ f) k) := ⟨_, rfl⟩
        have hqr := wrap64_rng (lens (ls ++ f) k)
        rw [← hq] at hqr
        have hqw : wrap64 (q + (L : Int)) = wrap64 (lens (ls ++ f) (k + 1)) := by rw [hq, wrap64_add, hls]; rfl
        rw [← hq]
        have HQW := Lib.hid hqw
        clear hve hls hL hq hqw hkl0 hkv hkr
        go_wp2
        go_roundg (N - (k + 1))
        case measure => omega
        case rel => exact ⟨k + 1, by omega, by omega, by go_num, by rw [HQW.out], rfl⟩
      · have hNk : N = k := by omega
        subst hNk
        obtain ⟨q, hq⟩ : ∃ q, q = wrap64 (lens (ls ++ f) (N)) := ⟨_, rfl⟩
        have hq2 : f.length ≤ 200 → q = total (ls ++ f) := fun hf2 => by
          have hmx := HT.out hf2
          have h1 := HLG.out.len
          have h2 := HLG.out.len2
          have h3 : lens (ls ++ f) N = total (ls ++ f) := by unfold total; rw [← h2, h1]; try rfl
          rw [hq, h3]; unfold wrap64; omega
        rw [← hq]
        have HQ := Lib.hid hq2
        have hqr := wrap64_rng (lens (ls ++ f) N)
        rw [← hq] at hqr
        clear hq hq2 hkl0 hgk hk
        have hfe : f.length = us.length := by have := K4.out; simpa using this.symm
        have HFE := Lib.hid hfe
        clear hfe
        by_cases hbig : 200 < us.length
        · have HB := Lib.hid hbig
          have hbi : (200 : Int) < (us.length : Int) := by omega
          have hbd : decide ((200 : Int) < (us.length : Int)) = true := decide_eq_true hbi
          clear hbig
          go_wp2
          go_ret
          exact ⟨ret_bool (by unfold largeB; rw [decide_eq_true (by rw [HFE.out]; exact HB.out)]; rfl), HLG.out.ext⟩
        · have HB := Lib.hid hbig
          have hbi : ¬ (200 : Int) < (us.length : Int) := by omega
          have hbd : decide ((200 : Int) < (us.length : Int)) = false := decide_eq_false hbi
          clear hbig
          go_wp2
          go_ret
          exact ⟨ret_bool (by unfold largeB; have hq3 := HQ.out (by rw [HFE.out]; have := HB.out; omega); rw [HFE.out, decide_eq_false (show ¬ 200 < us.length by have := HB.out; omega), Bool.false_or, decide_eq_decide]; omega), HLG.out.ext⟩

end Go.Proofs.YteokoaggkpjdeaaDoor
namespace Go.Proofs.YteokoaggkpjdeaaDoor

theorem lookI_one {xs : List Int} {x : Int} (hv : varOf x ≠ 0) : lookI xs x = 1 ↔ x ∈ xs := by
  unfold lookI
  rw [if_neg hv]
  constructor
  · intro h
    by_cases h1 : x ∈ xs
    · exact h1
    · rw [if_neg h1] at h
      split at h <;> simp at h
  · intro h; rw [if_pos h]
theorem lookI_two {xs : List Int} {x : Int} (hv : varOf x ≠ 0) : lookI xs x = 2 ↔ x ∉ xs ∧ -x ∈ xs := by
  unfold lookI
  rw [if_neg hv]
  by_cases h1 : x ∈ xs
  · rw [if_pos h1]; simp [h1]
  · rw [if_neg h1]
    by_cases h2 : -x ∈ xs
    · rw [if_pos h2]; simp [h1, h2]
    · rw [if_neg h2]; simp [h2]
theorem lookI_zero {xs : List Int} {x : Int} (hv : varOf x ≠ 0) : lookI xs x = 0 ↔ x ∉ xs ∧ -x ∉ xs := by
  unfold lookI
  rw [if_neg hv]
  by_cases h1 : x ∈ xs
  · rw [if_pos h1]; simp [h1]
  · rw [if_neg h1]
    by_cases h2 : -x ∈ xs
    · rw [if_pos h2]; simp [h2]
    · rw [if_neg h2]; simp [h1, h2]

theorem ex_getD {α : Type} (l : List α) (d : α) (q : α → Prop) : (∃ j, j < l.length ∧ q (l.getD j d)) ↔ ∃ x ∈ l, q x := by
  constructor
  · rintro ⟨j, hj, hq⟩
    exact ⟨l[j], List.getElem_mem hj, by simpa [hj] using hq⟩
  · rintro ⟨x, hx, hq⟩
    obtain ⟨j, hj, rfl⟩ := List.getElem_of_mem hx
    exact ⟨j, hj, by simpa [hj] using hq⟩

/-- A search over a list. -/
theorem searchG_list {α : Type} (g : α → Int) (l : List α) (d : α) (a b : Int) : searchG (fun k => g (l.getD k d)) l.length a b = if ∃ x ∈ l, g x = a then a else if ∃ x ∈ l, g x = 0 then 0 else b := by
  unfold searchG
  simp only [ex_getD l d (fun x => g x = a), ex_getD l d (fun x => g x = 0)]

open Classical in
theorem clauseV_eq (xs c : List Int) : clauseV xs c = if ∃ x ∈ c, lookI xs x = 1 then 1 else if ∃ x ∈ c, lookI xs x = 0 then 0 else 2 := by
  unfold clauseV
  have := searchG_list (lookI xs) c 0 1 2
  rw [this]
theorem clauseV_one {xs c : List Int} : clauseV xs c = 1 ↔ ∃ x ∈ c, lookI xs x = 1 := by
  rw [clauseV_eq]
  by_cases h : ∃ x ∈ c, lookI xs x = 1
  · rw [if_pos h]; simp [h]
  · rw [if_neg h]
    constructor
    · intro e; split at e <;> simp at e
    · intro e; exact absurd e h
theorem clauseV_zero {xs c : List Int} : clauseV xs c = 0 ↔ (¬ ∃ x ∈ c, lookI xs x = 1) ∧ ∃ x ∈ c, lookI xs x = 0 := by
  rw [clauseV_eq]
  by_cases h : ∃ x ∈ c, lookI xs x = 1
  · rw [if_pos h]; simp only [h, not_true, false_and, iff_false]; decide
  · rw [if_neg h]
    by_cases h2 : ∃ x ∈ c, lookI xs x = 0
    · rw [if_pos h2]; simp only [h, h2, not_false_eq_true, and_self]
    · rw [if_neg h2]; simp only [h2, and_false, iff_false]; decide
theorem clauseV_two {xs c : List Int} : clauseV xs c = 2 ↔ (¬ ∃ x ∈ c, lookI xs x = 1) ∧ ¬ ∃ x ∈ c, lookI xs x = 0 := by
  rw [clauseV_eq]
  by_cases h : ∃ x ∈ c, lookI xs x = 1
  · rw [if_pos h]; simp only [h, not_true, false_and, iff_false]; decide
  · rw [if_neg h]
    by_cases h2 : ∃ x ∈ c, lookI xs x = 0
    · rw [if_pos h2]; simp only [h2, not_true, and_false, iff_false]; decide
    · rw [if_neg h2]; simp only [h, h2, not_false_eq_true, and_self]
theorem cnfV_eq (xs : List Int) (f : List (List Int)) : cnfV xs f = if ∃ c ∈ f, clauseV xs c = 2 then 2 else if ∃ c ∈ f, clauseV xs c = 0 then 0 else 1 := by
  unfold cnfV
  exact searchG_list (clauseV xs) f [] 2 1

theorem asc_lit {c : List Int} (h : Asc c) {x : Int} (hx : x ∈ c) : varOf x ≠ 0 := by have := h.2 x hx; omega

/-- A list that is both, without a clash. -/
structure Both (a b c : List Int) : Prop where
  mem : ∀ x, x ∈ c ↔ x ∈ a ∨ x ∈ b
  no : ∀ x, x ∈ a → -x ∈ b → False

theorem lit_ne {x : Int} (h : varOf x ≠ 0) : x ≠ 0 := (varOf_eq h).2
theorem Asc.clash {a : List Int} (h : Asc a) {x : Int} (hx : x ∈ a) (hn : -x ∈ a) : False := by
  have := h.inj hx hn (varOf_neg x).symm
  have := lit_ne (asc_lit h hx)
  omega

section
variable {a b c cl : List Int}
theorem Both.one (h : Both a b c) (hcl : Asc cl) (hn : clauseV a cl ≠ 1) : clauseV c cl = 1 ↔ clauseV b (cl.filter fun x => !(lookI a x == 2)) = 1 := by
  rw [clauseV_one, clauseV_one]
  constructor
  · rintro ⟨x, hx, h1⟩
    have hv := asc_lit hcl hx
    rw [lookI_one hv, h.mem] at h1
    rcases h1 with h1 | h1
    · exact absurd (clauseV_one.2 ⟨x, hx, (lookI_one hv).2 h1⟩) hn
    · refine ⟨x, List.mem_filter.2 ⟨hx, ?_⟩, (lookI_one hv).2 h1⟩
      have : lookI a x ≠ 2 := fun e => by
        have := ((lookI_two hv).1 e).2
        exact h.no (-x) this (by rw [Int.neg_neg]; exact h1)
      simpa using this
  · rintro ⟨x, hx, h1⟩
    obtain ⟨hx, _⟩ := List.mem_filter.1 hx
    have hv := asc_lit hcl hx
    exact ⟨x, hx, (lookI_one hv).2 ((h.mem x).2 (.inr ((lookI_one hv).1 h1)))⟩
theorem Both.zero (h : Both a b c) (hcl : Asc cl) (hn : clauseV a cl ≠ 1) : (∃ x ∈ cl, lookI c x = 0) ↔ ∃ x ∈ cl.filter fun x => !(lookI a x == 2), lookI b x = 0 := by
  constructor
  · rintro ⟨x, hx, h1⟩
    have hv := asc_lit hcl hx
    rw [lookI_zero hv, h.mem, h.mem] at h1
    refine ⟨x, List.mem_filter.2 ⟨hx, ?_⟩, (lookI_zero hv).2 ⟨fun e => h1.1 (.inr e), fun e => h1.2 (.inr e)⟩⟩
    have : lookI a x ≠ 2 := fun e => h1.2 (.inl ((lookI_two hv).1 e).2)
    simpa using this
  · rintro ⟨x, hx, h1⟩
    obtain ⟨hx, h2⟩ := List.mem_filter.1 hx
    have hv := asc_lit hcl hx
    have h3 : lookI a x ≠ 2 := by simpa using h2
    have h4 : x ∉ a := fun e => hn (clauseV_one.2 ⟨x, hx, (lookI_one hv).2 e⟩)
    have h5 : -x ∉ a := fun e => h3 ((lookI_two hv).2 ⟨h4, e⟩)
    obtain ⟨h6, h7⟩ := (lookI_zero hv).1 h1
    refine ⟨x, hx, (lookI_zero hv).2 ⟨fun e => ?_, fun e => ?_⟩⟩
    · exact ((h.mem x).1 e).elim h4 h6
    · exact ((h.mem _).1 e).elim h5 h7
theorem Both.clause (h : Both a b c) (hcl : Asc cl) (hn : clauseV a cl ≠ 1) : clauseV c cl = clauseV b (cl.filter fun x => !(lookI a x == 2)) := by
  have h1 := h.one hcl hn
  have h0 := h.zero hcl hn
  rw [clauseV_one, clauseV_one] at h1
  rw [clauseV_eq, clauseV_eq]
  simp only [h1, h0]
theorem Both.first (h : Both a b c) (hcl : Asc cl) (hn : clauseV a cl = 1) : clauseV c cl = 1 := by
  obtain ⟨x, hx, h1⟩ := clauseV_one.1 hn
  have hv := asc_lit hcl hx
  exact clauseV_one.2 ⟨x, hx, (lookI_one hv).2 ((h.mem x).2 (.inl ((lookI_one hv).1 h1)))⟩
theorem Both.rest (h : Both a b c) (hcl : Asc cl) (hn : clauseV c cl ≠ 1) : (cl.filter fun x => !(lookI c x == 2)) = (cl.filter fun x => !(lookI a x == 2)).filter fun x => !(lookI b x == 2) := by
  rw [List.filter_filter]
  refine List.filter_congr fun x hx => ?_
  have hv := asc_lit hcl hx
  have hxc : x ∉ c := fun e => hn (clauseV_one.2 ⟨x, hx, (lookI_one hv).2 e⟩)
  have hxa : x ∉ a := fun e => hxc ((h.mem x).2 (.inl e))
  have hxb : x ∉ b := fun e => hxc ((h.mem x).2 (.inr e))
  have e1 : lookI c x = 2 ↔ lookI b x = 2 ∨ lookI a x = 2 := by
    rw [lookI_two hv, lookI_two hv, lookI_two hv]
    have hm := h.mem (-x)
    constructor
    · rintro ⟨_, h1⟩
      rcases hm.1 h1 with h2 | h2
      · exact .inr ⟨hxa, h2⟩
      · exact .inl ⟨hxb, h2⟩
    · rintro (⟨_, h1⟩ | ⟨_, h1⟩)
      · exact ⟨hxc, hm.2 (.inr h1)⟩
      · exact ⟨hxc, hm.2 (.inl h1)⟩
  have e2 : (lookI c x == 2) = (lookI b x == 2 || lookI a x == 2) := by
    rw [Bool.eq_iff_iff, Bool.or_eq_true, beq_iff_eq, beq_iff_eq, beq_iff_eq]
    exact e1
  rw [e2, Bool.not_or]
end

theorem Both.under {a b c : List Int} (h : Both a b c) : ∀ {f : List (List Int)}, (∀ cl ∈ f, Asc cl) → underL b (underL a f) = underL c f
  | [], _ => rfl
  | cl :: f, hf => by
    have hcl := hf cl (by simp)
    have ih := Both.under h (f := f) fun c hc => hf c (by simp [hc])
    have step : ∀ (xs : List Int), underL xs (cl :: f) = if clauseV xs cl = 1 then underL xs f else (cl.filter fun x => !(lookI xs x == 2)) :: underL xs f := fun xs => by
      unfold underL
      by_cases hc : clauseV xs cl = 1
      · rw [if_pos hc, List.filter_cons, if_neg (by simp [hc])]
      · rw [if_neg hc, List.filter_cons, if_pos (by simp [hc])]; rfl
    rw [step a, step c]
    by_cases h1 : clauseV a cl = 1
    · rw [if_pos h1, if_pos (h.first hcl h1), ih]
    · rw [if_neg h1]
      have step2 : underL b ((cl.filter fun x => !(lookI a x == 2)) :: underL a f) = if clauseV b (cl.filter fun x => !(lookI a x == 2)) = 1 then underL b (underL a f) else ((cl.filter fun x => !(lookI a x == 2)).filter fun x => !(lookI b x == 2)) :: underL b (underL a f) := by
        generalize (cl.filter fun x => !(lookI a x == 2)) = d
        generalize underL a f = g
        unfold underL
        by_cases hc : clauseV b d = 1
        · rw [if_pos hc, List.filter_cons, if_neg (by simp [hc])]
        · rw [if_neg hc, List.filter_cons, if_pos (by simp [hc])]; rfl
      rw [step2, ih, ← h.clause hcl h1]
      by_cases h2 : clauseV c cl = 1
      · rw [if_pos h2, if_pos h2]
      · rw [if_neg h2, if_neg h2, h.rest hcl h2]

theorem mem_underL {a : List Int} {f : List (List Int)} {d : List Int} : d ∈ underL a f ↔ ∃ cl ∈ f, clauseV a cl ≠ 1 ∧ d = cl.filter fun x => !(lookI a x == 2) := by
  unfold underL
  rw [List.mem_map]
  constructor
  · rintro ⟨cl, hc, rfl⟩
    obtain ⟨h1, h2⟩ := List.mem_filter.1 hc
    exact ⟨cl, h1, by simpa using h2, rfl⟩
  · rintro ⟨cl, h1, h2, rfl⟩
    exact ⟨cl, List.mem_filter.2 ⟨h1, by simpa using h2⟩, rfl⟩

theorem Both.cnf {a b c : List Int} (h : Both a b c) {f : List (List Int)} (hf : ∀ cl ∈ f, Asc cl) : cnfV c f = cnfV b (underL a f) := by
  have key : ∀ r, r ≠ 1 → ((∃ cl ∈ f, clauseV c cl = r) ↔ ∃ d ∈ underL a f, clauseV b d = r) := fun r hr => by
    constructor
    · rintro ⟨cl, hc, e⟩
      have h1 : clauseV a cl ≠ 1 := fun e1 => hr (by rw [← e, h.first (hf cl hc) e1])
      exact ⟨_, mem_underL.2 ⟨cl, hc, h1, rfl⟩, by rw [← h.clause (hf cl hc) h1]; exact e⟩
    · rintro ⟨d, hd, e⟩
      obtain ⟨cl, hc, h1, rfl⟩ := mem_underL.1 hd
      exact ⟨cl, hc, by rw [h.clause (hf cl hc) h1]; exact e⟩
  rw [cnfV_eq, cnfV_eq]
  simp only [key 2 (by decide), key 0 (by decide)]

theorem joinV_both {a b c : List Int} (ha : Asc a) (hb : Asc b) (h : joinV a b = some c) : Both a b c ∧ Asc c := by
  obtain ⟨h1, h2, h3⟩ := (merge_spec (fun x y => x == y) (fun x => by simp) a b ha hb).2 c h
  have hno : ∀ x, x ∈ a → -x ∈ b → False := fun x hx hx' => by
    have := h1 x hx hx'
    have h4 : x = -x := by simpa using this
    have := varOf_eq (n := x) (by have := ha.2 x hx; omega)
    omega
  refine ⟨⟨fun z => ?_, hno⟩, h3⟩
  rw [h2]
  unfold Mrg
  constructor
  · rintro (h | h)
    · exact .inl h.1
    · exact .inr h.1
  · rintro (h | h)
    · exact .inl ⟨h, fun h' => hno z h h'⟩
    · exact .inr ⟨h, fun h' => hno (-z) h' (by rw [Int.neg_neg]; exact h)⟩
theorem JoinV_ok {a b : List Int} (h : (JoinV a b).2 = 0) : mayB a = true ∧ mayB b = true ∧ joinV a b = some (JoinV a b).1 := by
  unfold JoinV at *
  by_cases hm : mayB a = true ∧ mayB b = true
  · rw [if_pos hm] at h ⊢
    refine ⟨hm.1, hm.2, ?_⟩
    cases hj : joinV a b with
    | none => rw [hj] at h; simp at h
    | some c => rfl
  · rw [if_neg hm] at h; simp at h

theorem lens_mono {g : List Int → Bool} {q : List Int → List Int} (hq : ∀ c, (q c).length ≤ c.length) : ∀ (f : List (List Int)) (k : Nat), lens ((f.filter g).map q) k ≤ total f := by
  intro f k
  refine Nat.le_trans (lens_le _ k) ?_
  unfold total lens
  rw [List.take_length, List.take_length]
  induction f with
  | nil => simp
  | cons c f ih =>
    rw [List.filter_cons]
    split
    · simp only [List.map_cons, List.sum_cons]
      have := hq c
      omega
    · simp only [List.map_cons, List.sum_cons]
      omega

theorem mayCnf_under {a : List Int} {f : List (List Int)} (hf : mayCnfB f = true) : mayCnfB (underL a f) = true := by
  have htot : total f ≤ 200000 := by
    unfold mayCnfB at hf
    rw [Bool.and_eq_true, List.all_eq_true] at hf
    rcases Nat.eq_zero_or_pos f.length with h0 | h0
    · unfold total lens
      have : f = [] := List.length_eq_zero_iff.1 h0
      subst this; simp
    · have := hf.2 (f.length - 1) (by simpa using by omega)
      rw [Bool.and_eq_true, decide_eq_true_eq] at this
      have h1 := this.1
      rw [show f.length - 1 + 1 = f.length by omega] at h1
      exact h1
  have hlen := mayCnfB_len hf
  have hul : (underL a f).length ≤ f.length := by
    unfold underL
    rw [List.length_map]
    exact List.length_filter_le _ _
  have hasc : ∀ c ∈ underL a f, mayB c = true := fun c hc => by
    obtain ⟨cl, h1, _, rfl⟩ := mem_underL.1 hc
    obtain ⟨j, hj, rfl⟩ := List.getElem_of_mem h1
    have := (mayB_iff _).1 (mayCnfB_get hf j hj)
    rw [mayB_iff]
    exact ⟨this.1.filter _, fun x hx => this.2 x (List.mem_filter.1 hx).1⟩
  unfold mayCnfB
  rw [Bool.and_eq_true, List.all_eq_true, decide_eq_true_eq]
  refine ⟨by omega, fun k hk => ?_⟩
  have hk' : k < (underL a f).length := by simpa using hk
  rw [Bool.and_eq_true, decide_eq_true_eq]
  refine ⟨?_, by rw [getD_of _ k hk']; exact hasc _ (List.getElem_mem hk')⟩
  have : lens (underL a f) (k + 1) ≤ total f := lens_mono (q := fun c => c.filter fun x => !(lookI a x == 2)) (fun c => List.length_filter_le _ _) f (k + 1)
  omega

theorem asc_all {f : List (List Int)} (hf : mayCnfB f = true) : ∀ c ∈ f, Asc c := fun c hc => by
  obtain ⟨j, hj, rfl⟩ := List.getElem_of_mem hc
  exact (mayB_iff _).1 (mayCnfB_get hf j hj)

/-- The law. -/
theorem twice_under {a b : List Int} {f : List (List Int)} (hf : mayCnfB f = true) (h : (JoinV a b).2 = 0) :
    UnderV b (UnderV a f) = UnderV (JoinV a b).1 f ∧ CnfV (JoinV a b).1 f = CnfV b (UnderV a f) := by
  obtain ⟨ha, hb, hj⟩ := JoinV_ok h
  obtain ⟨hB, hc⟩ := joinV_both ((mayB_iff a).1 ha) ((mayB_iff b).1 hb) hj
  have hcm := (mayB_iff _).2 hc
  have hu := mayCnf_under (a := a) hf
  have e1 : UnderV a f = underL a f := if_pos ⟨ha, hf⟩
  have e2 : UnderV (JoinV a b).1 f = underL (JoinV a b).1 f := if_pos ⟨hcm, hf⟩
  have e3 : CnfV (JoinV a b).1 f = cnfV (JoinV a b).1 f := if_pos ⟨hcm, hf⟩
  have e4 : UnderV b (underL a f) = underL b (underL a f) := if_pos ⟨hb, hu⟩
  have e5 : CnfV b (underL a f) = cnfV b (underL a f) := if_pos ⟨hb, hu⟩
  rw [e1, e2, e3, e4, e5]
  exact ⟨hB.under (asc_all hf), hB.cnf (asc_all hf)⟩

end Go.Proofs.YteokoaggkpjdeaaDoor
namespace Go.Proofs.YteokoaggkpjdeaaDoor

/-- A normal list and an assignment of the same literals. -/
structure Rel (a asg : List Int) : Prop where
  asc : Asc a
  mem : ∀ x, x ∈ a ↔ x ∈ asg

theorem any_contains {c asg : List Int} : c.any asg.contains = true ↔ ∃ x ∈ c, x ∈ asg := by
  rw [List.any_eq_true]
  simp

section
variable {a asg c : List Int}
theorem Rel.one (h : Rel a asg) (hc : Asc c) : clauseV a c = 1 ↔ c.any asg.contains = true := by
  rw [clauseV_one, any_contains]
  constructor
  · rintro ⟨x, hx, e⟩
    exact ⟨x, hx, (h.mem x).1 ((lookI_one (asc_lit hc hx)).1 e)⟩
  · rintro ⟨x, hx, e⟩
    exact ⟨x, hx, (lookI_one (asc_lit hc hx)).2 ((h.mem x).2 e)⟩
theorem Rel.rest (h : Rel a asg) (hc : Asc c) (hn : c.any asg.contains = false) : (c.filter fun x => !(lookI a x == 2)) = openL asg c := by
  unfold openL
  refine List.filter_congr fun x hx => ?_
  have hv := asc_lit hc hx
  have hxa : x ∉ a := fun e => by
    have : c.any asg.contains = true := any_contains.2 ⟨x, hx, (h.mem x).1 e⟩
    rw [hn] at this; cases this
  have h2 := lookI_two (xs := a) hv
  congr 1
  rw [Bool.eq_iff_iff, beq_iff_eq, h2]
  simp only [hxa, not_false_eq_true, true_and, List.contains_iff_mem, h.mem]
end

/-- The first clause that decides, from i on. -/
def decR (a : List Int) (f : List (List Int)) : Nat → Nat → Int
  | 0, _ => -1
  | n + 1, i => if clauseV a (f.getD i []) = 1 then decR a f n (i + 1) else if ((f.getD i []).filter fun x => !(lookI a x == 2)).length ≤ 1 then (i : Int) else decR a f n (i + 1)

theorem decR_spec {a asg : List Int} (h : Rel a asg) {f : List (List Int)} (hf : ∀ c ∈ f, Asc c) : ∀ n i, i + n = f.length →
    (∃ j, i ≤ j ∧ j < f.length ∧ decR a f n i = (j : Int) ∧ (f.getD j []).any asg.contains = false ∧ (openL asg (f.getD j [])).length ≤ 1 ∧ ∀ k, i ≤ k → k < j → (f.getD k []).any asg.contains = false → 1 < (openL asg (f.getD k [])).length) ∨
    (decR a f n i = -1 ∧ ∀ k, i ≤ k → k < f.length → (f.getD k []).any asg.contains = false → 1 < (openL asg (f.getD k [])).length)
  | 0, i, hi => .inr ⟨rfl, fun k h1 h2 => by omega⟩
  | n + 1, i, hi => by
    have hil : i < f.length := by omega
    have hc : Asc (f.getD i []) := by rw [getD_of f i hil]; exact hf _ (List.getElem_mem hil)
    have ih := decR_spec h hf n (i + 1) (by omega)
    rw [decR]
    have key : ∀ (P : Nat → Prop), P i → (∀ k, i + 1 ≤ k → P k) → ∀ k, i ≤ k → P k := fun P h0 h1 k hk => by
      rcases Nat.lt_or_eq_of_le hk with h2 | h2
      · exact h1 k h2
      · exact h2 ▸ h0
    by_cases h1 : clauseV a (f.getD i []) = 1
    · rw [if_pos h1]
      have hany := (h.one hc).1 h1
      rcases ih with ⟨j, j1, j2, j3, j4, j5, j6⟩ | ⟨j3, j6⟩
      · exact .inl ⟨j, by omega, j2, j3, j4, j5, key _ (fun _ hh => by rw [hany] at hh; cases hh) j6⟩
      · exact .inr ⟨j3, key _ (fun _ hh => by rw [hany] at hh; cases hh) j6⟩
    · rw [if_neg h1]
      have hany : (f.getD i []).any asg.contains = false := by
        cases hh : (f.getD i []).any asg.contains
        · rfl
        · exact absurd ((h.one hc).2 hh) h1
      rw [h.rest hc hany]
      by_cases h2 : (openL asg (f.getD i [])).length ≤ 1
      · rw [if_pos h2]
        exact .inl ⟨i, Nat.le_refl _, hil, rfl, hany, h2, fun k k1 k2 => by omega⟩
      · rw [if_neg h2]
        rcases ih with ⟨j, j1, j2, j3, j4, j5, j6⟩ | ⟨j3, j6⟩
        · exact .inl ⟨j, by omega, j2, j3, j4, j5, key _ (fun _ _ => by omega) j6⟩
        · exact .inr ⟨j3, key _ (fun _ _ => by omega) j6⟩

/-- What decides, in both ways of telling. -/
theorem decR_dec {a asg : List Int} (h : Rel a asg) {f : List (List Int)} (hf : ∀ c ∈ f, Asc c) :
    (decF f asg = none ∧ decR a f f.length 0 = -1) ∨ ∃ i, ∃ hi : i < f.length, decF f asg = some i ∧ decR a f f.length 0 = (i : Int) ∧ f[i].any asg.contains = false ∧ (openL asg f[i]).length ≤ 1 := by
  rcases decR_spec h hf f.length 0 (by omega) with ⟨j, _, j2, j3, j4, j5, j6⟩ | ⟨j3, j6⟩
  · rw [getD_of f j j2] at j4 j5
    refine .inr ⟨j, j2, decF_some j2 j4 j5 fun k hk hh => ?_, j3, j4, j5⟩
    have := j6 k (Nat.zero_le _) hk
    rw [getD_of f k (by omega)] at this
    exact this hh
  · refine .inl ⟨decF_none fun k hk hh => ?_, j3⟩
    have := j6 k (Nat.zero_le _) hk
    rw [getD_of f k hk] at this
    exact this hh

/-- Literals without a clash. -/
structure Good (asg : List Int) : Prop where
  lit : ∀ x ∈ asg, 0 < varOf x
  no : ∀ x, x ∈ asg → -x ∈ asg → False
theorem good_asc {a : List Int} (h : Asc a) : Good a := ⟨h.2, fun _ hx hn => h.clash hx hn⟩
theorem Rel.good {a asg : List Int} (h : Rel a asg) : Good asg := ⟨fun x hx => h.asc.2 x ((h.mem x).2 hx), fun x hx hn => h.asc.clash ((h.mem x).2 hx) ((h.mem _).2 hn)⟩

theorem open_mem {asg c : List Int} {x : Int} {r : List Int} (h : openL asg c = x :: r) : x ∈ c ∧ -x ∉ asg := by
  have : x ∈ openL asg c := by rw [h]; simp
  unfold openL at this
  rw [List.mem_filter] at this
  exact ⟨this.1, by simpa using this.2⟩

theorem Good.snoc {asg c : List Int} {x : Int} {r : List Int} (h : Good asg) (hc : Asc c) (hn : c.any asg.contains = false) (ho : openL asg c = x :: r) : Good (asg ++ [x]) := by
  obtain ⟨h1, h2⟩ := open_mem ho
  have hv := hc.2 x h1
  have hx : x ∉ asg := fun e => by
    have : c.any asg.contains = true := any_contains.2 ⟨x, h1, e⟩
    rw [hn] at this; cases this
  refine ⟨fun y hy => ?_, fun y hy hny => ?_⟩
  · rcases List.mem_append.1 hy with h3 | h3
    · exact h.lit y h3
    · rw [List.mem_singleton.1 h3]; exact hv
  · have hx0 : x ≠ 0 := lit_ne (by omega)
    rcases List.mem_append.1 hy with h3 | h3 <;> rcases List.mem_append.1 hny with h4 | h4
    · exact h.no y h3 h4
    · have := List.mem_singleton.1 h4
      have e : y = -x := by omega
      exact h2 (e ▸ h3)
    · have := List.mem_singleton.1 h3
      subst this
      exact h2 h4
    · have e1 := List.mem_singleton.1 h3
      have e2 := List.mem_singleton.1 h4
      omega

/-- A literal more: the join of the normal list with it. -/
theorem Rel.join {a asg c : List Int} {x : Int} {r : List Int} (h : Rel a asg) (hc : Asc c) (hn : c.any asg.contains = false) (ho : openL asg c = x :: r) : (JoinV a [x]).2 = 0 ∧ Rel (JoinV a [x]).1 (asg ++ [x]) := by
  have hg := h.good.snoc hc hn ho
  have hv := hc.2 x (open_mem ho).1
  have hx : Asc [x] := Asc.nil.cons hv (fun z hz => by cases hz)
  have hm := (mayB_iff a).2 h.asc
  have hxm := (mayB_iff [x]).2 hx
  have hs := merge_spec (fun x y => x == y) (fun x => by simp) a [x] h.asc hx
  unfold JoinV
  rw [if_pos ⟨hm, hxm⟩]
  cases hj : joinV a [x] with
  | none =>
    obtain ⟨z, z1, z2, _⟩ := hs.1 hj
    exact (hg.no z (List.mem_append_left _ ((h.mem z).1 z1)) (List.mem_append_right _ z2)).elim
  | some d =>
    obtain ⟨hB, hd⟩ := joinV_both h.asc hx hj
    exact ⟨rfl, hd, fun y => by rw [hB.mem, List.mem_append, h.mem]⟩

theorem unitsL_good {f : List (List Int)} (hf : ∀ c ∈ f, Asc c) : ∀ k asg, Good asg → Good (asg ++ (unitsL f k asg).1.map Prod.fst)
  | 0, asg, h => by simpa [unitsL] using h
  | k + 1, asg, h => by
    rw [unitsL]
    cases hd : decF f asg with
    | none => simpa using h
    | some i =>
      have hfi : (List.range f.length).find? _ = some i := hd
      have hp := List.find?_some hfi
      have hi : i < f.length := by simpa using List.mem_of_find?_eq_some hfi
      rw [Bool.and_eq_true] at hp
      have hn : (f.getD i []).any asg.contains = false := by simpa using hp.1
      have hc : Asc (f.getD i []) := by rw [getD_of f i hi]; exact hf _ (List.getElem_mem hi)
      cases ho : openL asg (f.getD i []) with
      | nil => simp only [ho]; simpa using h
      | cons x r =>
        have := unitsL_good hf k (asg ++ [x]) (h.snoc hc hn ho)
        simp only [ho, List.map_cons]
        rw [List.append_assoc] at this
        exact this

theorem unitsL_len {f : List (List Int)} : ∀ k asg, (unitsL f k asg).1.length ≤ k
  | 0, asg => by simp [unitsL]
  | k + 1, asg => by
    rw [unitsL]
    cases hd : decF f asg with
    | none => simp
    | some i =>
      cases ho : openL asg (f.getD i []) with
      | nil => simp only [ho]; simp
      | cons x r =>
        have := unitsL_len (f := f) k (asg ++ [x])
        simp only [ho, List.length_cons]
        omega

theorem unitsL_64 {f : List (List Int)} (k64 : All64L f) : ∀ k asg, All64 ((unitsL f k asg).1.map Prod.fst)
  | 0, asg => by simp [unitsL, All64]
  | k + 1, asg => by
    rw [unitsL]
    cases hd : decF f asg with
    | none => simp [All64]
    | some i =>
      have hi : i < f.length := by
        have hfi : (List.range f.length).find? _ = some i := hd
        simpa using List.mem_of_find?_eq_some hfi
      cases ho : openL asg (f.getD i []) with
      | nil => simp only [ho]; simp [All64]
      | cons x r =>
        simp only [ho, List.map_cons]
        intro y hy
        rcases List.mem_cons.1 hy with rfl | hy
        · have := (open_mem ho).1
          rw [getD_of f i hi] at this
          exact k64 _ (List.getElem_mem hi) _ this
        · exact unitsL_64 k64 k _ y hy
theorem UnitsV_64 {f : List (List Int)} {a : List Int} (k64 : All64L f) (h64 : All64 a) : All64 (a ++ (UnitsV f a).1.map Prod.fst) := fun y hy => by
  rcases List.mem_append.1 hy with h | h
  · exact h64 y h
  · unfold UnitsV at h
    split at h
    · exact unitsL_64 k64 _ _ y h
    · cases h

/-- A set of literals without a clash is normal. -/
theorem good_may {asg : List Int} (h : Good asg) : mayB (setL [] asg) = true := by
  have hs : (setL [] asg).Pairwise blt := setL_sorted asg List.Pairwise.nil
  have hm : ∀ x, x ∈ setL [] asg ↔ x ∈ asg := fun x => by rw [mem_setL]; simp
  exact (may_iff_clash hs (fun x hx => h.lit x ((hm x).1 hx))).2 fun x hx hn => h.no x ((hm x).1 hx) ((hm _).1 hn)

/-- asg.Close: the assignment behind unit propagation. -/
def CloseV (f : List (List Int)) (xs : List Int) : List Int × Bool × Int :=
  if (UnitsV f xs).2.2 ≠ 0 ∨ (UnitsV f xs).2.1 ≥ 0 then ([], false, (UnitsV f xs).2.2) else (setL [] (xs ++ (UnitsV f xs).1.map Prod.fst), true, 0)
end Go.Proofs.YteokoaggkpjdeaaDoor
namespace Go.Proofs.YteokoaggkpjdeaaDoor

theorem compact_upto {lt : Int → Int → Prop} (tri : ∀ a b, lt a b ∨ a = b ∨ lt b a) (trans : ∀ a b c, lt a b → lt b c → lt a c) (zs : List Int) (hs : zs.Pairwise fun a b => ¬ lt b a) :
    ∀ m, m ≤ zs.length → (Lib.compactUpTo zs.toArray m).Pairwise lt ∧ (∀ x, x ∈ Lib.compactUpTo zs.toArray m ↔ x ∈ zs.take m) ∧ ∀ h : 0 < m, ∀ hm : m - 1 < zs.length, ∀ x ∈ Lib.compactUpTo zs.toArray m, x = zs[m - 1] ∨ lt x zs[m - 1]
  | 0, _ => ⟨by simp [Lib.compactUpTo], fun x => by simp [Lib.compactUpTo], fun h => absurd h (Nat.lt_irrefl _)⟩
  | m + 1, hm => by
    obtain ⟨h1, h2, h3⟩ := compact_upto tri trans zs hs m (by omega)
    have hml : m < zs.length := by omega
    have hg : ∀ j (hj : j < zs.length), zs.toArray[j]! = zs[j] := fun j hj => by simp [getElem!_pos, hj]
    rw [Lib.compactUpTo_succ]
    have hlast : ∀ x ∈ Lib.compactUpTo zs.toArray m, x = zs[m] ∨ lt x zs[m] := fun x hx => by
      rcases Nat.eq_zero_or_pos m with h0 | h0
      · subst h0; simp [Lib.compactUpTo] at hx
      · have hm1 : m - 1 < zs.length := by omega
        have hle : ¬ lt zs[m] zs[m - 1] := List.pairwise_iff_getElem.1 hs (m - 1) m hm1 hml (by omega)
        have hle' : zs[m - 1] = zs[m] ∨ lt zs[m - 1] zs[m] := by
          rcases tri zs[m - 1] zs[m] with h | h | h
          · exact .inr h
          · exact .inl h
          · exact absurd h hle
        rcases h3 h0 hm1 x hx with rfl | h4
        · exact hle'
        · rcases hle' with h5 | h5
          · rw [← h5]; exact .inr h4
          · exact .inr (trans _ _ _ h4 h5)
    by_cases hk : Lib.keeps zs.toArray m = true
    · rw [if_pos hk, hg m hml]
      have hne : ∀ x ∈ Lib.compactUpTo zs.toArray m, lt x zs[m] := fun x hx => by
        rcases hlast x hx with rfl | h
        · unfold Lib.keeps at hk
          rw [decide_eq_true_eq] at hk
          rcases hk with h0 | h0
          · subst h0; simp [Lib.compactUpTo] at hx
          · rcases Nat.eq_zero_or_pos m with hz | hz
            · subst hz; simp [Lib.compactUpTo] at hx
            · have hm1 : m - 1 < zs.length := by omega
              rw [hg m hml, hg (m - 1) hm1] at h0
              have hle : ¬ lt zs[m] zs[m - 1] := List.pairwise_iff_getElem.1 hs (m - 1) m hm1 hml (by omega)
              rcases h3 hz hm1 _ hx with h6 | h6
              · exact absurd h6 h0
              · exact absurd h6 hle
        · exact h
      refine ⟨List.pairwise_append.2 ⟨h1, by simp, fun x hx y hy => ?_⟩, fun x => ?_, fun _ _ x hx => ?_⟩
      · rw [List.mem_singleton.1 hy]; exact hne x hx
      · rw [List.mem_append, h2, List.take_succ_eq_append_getElem hml, List.mem_append]
      · simp only [Nat.add_sub_cancel]
        rcases List.mem_append.1 hx with h | h
        · exact .inr (hne x h)
        · exact .inl (List.mem_singleton.1 h)
    · rw [if_neg hk, List.append_nil]
      have hk' : m ≠ 0 ∧ zs.toArray[m]! = zs.toArray[m - 1]! := by
        unfold Lib.keeps at hk
        rw [decide_eq_true_eq, not_or, Classical.not_not] at hk
        exact hk
      have hm1 : m - 1 < zs.length := by omega
      rw [hg m hml, hg (m - 1) hm1] at hk'
      refine ⟨h1, fun x => ?_, fun _ _ x hx => ?_⟩
      · rw [h2, List.take_succ_eq_append_getElem hml, List.mem_append, List.mem_singleton]
        constructor
        · exact .inl
        · rintro (h | rfl)
          · exact h
          · rw [hk'.2, List.mem_take_iff_getElem]
            exact ⟨m - 1, by omega, rfl⟩
      · simp only [Nat.add_sub_cancel]
        exact hlast x hx

theorem compact_strict {lt : Int → Int → Prop} (tri : ∀ a b, lt a b ∨ a = b ∨ lt b a) (trans : ∀ a b c, lt a b → lt b c → lt a c) (zs : List Int) (hs : zs.Pairwise fun a b => ¬ lt b a) :
    (Lib.compact zs).Pairwise lt ∧ ∀ x, x ∈ Lib.compact zs ↔ x ∈ zs := by
  obtain ⟨h1, h2, _⟩ := compact_upto tri trans zs hs zs.length (Nat.le_refl _)
  exact ⟨h1, fun x => by rw [show Lib.compact zs = Lib.compactUpTo zs.toArray zs.length from rfl, h2, List.take_length]⟩

theorem mergeSort_sorted (xs : List Int) : (xs.mergeSort fun x y => decide (x ≤ y)).Pairwise (fun a b => ¬ b < a) :=
  (List.pairwise_mergeSort (le := fun x y => decide (x ≤ y)) (fun a b c h1 h2 => by simp at *; omega) (fun a b => by simp; omega) xs).imp fun h => by simp at h; omega
theorem mem_mergeSort' (xs : List Int) (x : Int) : x ∈ (xs.mergeSort fun x y => decide (x ≤ y)) ↔ x ∈ xs := List.mem_mergeSort

/-- Sorted ascending, each once. -/
def sortC (xs : List Int) : List Int := Lib.compact (xs.mergeSort fun x y => decide (x ≤ y))
theorem sortC_spec (xs : List Int) : (sortC xs).Pairwise (fun a b : Int => a < b) ∧ ∀ x, x ∈ sortC xs ↔ x ∈ xs := by
  obtain ⟨h1, h2⟩ := compact_strict (lt := fun a b : Int => a < b) (fun a b => by omega) (fun a b c h k => by omega) _ (mergeSort_sorted xs)
  exact ⟨h1, fun x => by rw [sortC, h2, mem_mergeSort']⟩
end Go.Proofs.YteokoaggkpjdeaaDoor
namespace Go.Proofs.YteokoaggkpjdeaaDoor
open Go.RowKit

theorem grow_none (w : World) : Sort.grow w #[] = w := by simp [Sort.grow]

theorem Sort_own (xs : List Int) (v : Value) (base : Nat) (w : World) (h : OwnI w base v xs) (hl : xs.length ≤ 100000000) :
    Calls Tryd.prog 66 #[v] w fun e w' => e = .returned (.tuple #[]) ∧ OwnI w' base v (xs.mergeSort fun x y => decide (x ≤ y)) ∧ w.grownBy w' v.ownBlock := by
  have hlen : (xs.mergeSort fun x y => decide (x ≤ y)).length = xs.length := List.length_mergeSort _
  unfold OwnI at h ⊢
  rw [hlen]
  obtain ⟨-, ⟨rfl, h0⟩ | ⟨g, cap, cur, rfl, hb, hg, hn, hm, hs, ht⟩⟩ := h
  · have : xs = [] := List.length_eq_zero_iff.1 h0
    subst this
    refine (Tryd.slices_Sort_int_none none 0 w).mono ?_
    rintro e w' ⟨rfl, rfl⟩
    exact ⟨rfl, by simp [World.ownsRow_nil], ⟨rfl, rfl, rfl, Nat.le_refl _, fun _ _ _ => rfl⟩⟩
  · refine (Tryd.slices_Sort_int g 0 cap xs w (holds_of_blockI hg (by rw [Nat.mul_one] at ht; exact ht)) (Array.getElem?_eq_some_iff.1 hg).1 (by omega)).mono ?_
    rintro e w' ⟨rfl, n, os, rfl⟩
    exact ⟨rfl, ownsRow_sortedI (ss := xs) hlen hb hg hn hm hs, grownBy_sortedI _⟩

theorem own_shorter {w : World} {base : Nat} {e : TypeId} {A : Option Addr} {n m c : Nat} {xs : List Value} (h : w.ownsRow base e 1 (.slice A n c) n xs) (hm : m ≤ n) (hA : A = none → c = 0) : w.ownsRow base e 1 (.slice A m c) m (xs.take m) := by
  obtain ⟨h0, ⟨he, h1⟩ | ⟨g, cap, cur, he, hb, hg, hn, hmx, hs, ht⟩⟩ := h
  · injection he with e1 e2 e3
    subst e1 e2 e3
    have : m = 0 := by omega
    subst this
    exact ⟨by simp, .inl ⟨rfl, rfl⟩⟩
  · injection he with e1 _ e3
    subst e1 e3
    refine ⟨by rw [List.length_take]; omega, .inr ⟨g, c, cur, rfl, hb, hg, by omega, hmx, hs, ?_⟩⟩
    rw [← ht, List.take_take]
    congr 1
    omega

theorem Compact_own (xs : List Int) (v : Value) (base : Nat) (w : World) (h : OwnI w base v xs) (hl : xs.length ≤ 100000000) :
    Calls Tryd.prog 67 #[v] w fun e w' => ∃ v', e = .returned v' ∧ OwnI w' base v' (Lib.compact xs) ∧ w.grownBy w' v.ownBlock ∧ v'.ownBlock = v.ownBlock := by
  have hle := Lib.compact_length_le xs
  unfold OwnI at h ⊢
  obtain ⟨-, ⟨rfl, h0⟩ | ⟨g, cap, cur, rfl, hb, hg, hn, hm, hs, ht⟩⟩ := h
  · have : xs = [] := List.length_eq_zero_iff.1 h0
    subst this
    refine (Tryd.slices_Compact_int_empty none 0 w).mono ?_
    rintro e w' ⟨rfl, rfl⟩
    exact ⟨_, rfl, World.ownsRow_nil _ _ _ 1, ⟨rfl, rfl, rfl, Nat.le_refl _, fun _ _ _ => rfl⟩, rfl⟩
  · have hmx : cap ≤ 9223372036854775807 := by unfold maxLen at hm; exact hm
    refine (Tryd.slices_Compact_int g 0 cap xs w (holds_of_blockI hg (by rw [Nat.mul_one] at ht; exact ht)) (by omega) hn).mono ?_
    rintro e w' ⟨rfl, q, rfl⟩
    have hl2 : (Lib.compact xs ++ List.replicate (xs.length - (Lib.compact xs).length) 0).length = xs.length := by simp; omega
    have h1 := ownsRow_sortedI (n := q) (os := #[]) (ts := Lib.compact xs ++ List.replicate (xs.length - (Lib.compact xs).length) 0) (ss := xs) hl2 hb hg hn hm hs
    rw [grow_none] at h1
    have h2 := own_shorter h1 hle (fun h => by cases h)
    rw [List.map_append, List.take_append_of_le_length (by simp), List.take_of_length_le (by simp)] at h2
    have h3 := grownBy_sortedI (w := w) (g := g) (n := q) (os := #[]) (Lib.compact xs ++ List.replicate (xs.length - (Lib.compact xs).length) 0).toArray
    rw [grow_none] at h3
    exact ⟨_, rfl, h2, h3, rfl⟩

/-- The variables of lists, in the order of the text. -/
def varsOf (c : List Int) : List Int := (c.map varOf).filter fun v => decide (0 < v)
def varsAll (f : List (List Int)) : List Int := f.flatMap varsOf
theorem varsOf_len (c : List Int) : (varsOf c).length ≤ c.length := by
  unfold varsOf
  exact Nat.le_trans (List.length_filter_le _ _) (by simp)
theorem varsAll_len (f : List (List Int)) : (varsAll f).length ≤ total f := by
  unfold varsAll total lens
  rw [List.take_length]
  induction f with
  | nil => simp
  | cons c f ih =>
    rw [List.flatMap_cons, List.length_append, List.map_cons, List.sum_cons]
    have := varsOf_len c
    omega
theorem varsAll_succ (f : List (List Int)) (k : Nat) (hk : k < f.length) : varsAll (f.take (k + 1)) = varsAll (f.take k) ++ varsOf f[k] := by
  unfold varsAll
  rw [List.take_succ_eq_append_getElem hk, List.flatMap_append]; simp
theorem varsOf_succ (c : List Int) (m : Nat) (hm : m < c.length) : varsOf (c.take (m + 1)) = varsOf (c.take m) ++ if 0 < varOf c[m] then [varOf c[m]] else [] := by
  unfold varsOf
  rw [List.take_succ_eq_append_getElem hm, List.map_append, List.filter_append]
  by_cases h : 0 < varOf c[m] <;> simp [h]
theorem sortC_vars (f : List (List Int)) : sortC (varsAll f) = VarsV f := by
  obtain ⟨h1, h2⟩ := sortC_spec (varsAll f)
  refine sorted_ext (r := fun a b : Int => a < b) (fun a b h k => by omega) h1 (varsTo_sorted _ _) fun y => ?_
  rw [h2, mem_VarsV]
  unfold varsAll varsOf
  simp only [List.mem_flatMap, List.mem_filter, List.mem_map, decide_eq_true_eq]
  constructor
  · rintro ⟨c, hc, ⟨x, hx, he⟩, h0⟩
    exact ⟨h0, c, hc, x, hx, he⟩
  · rintro ⟨h0, c, hc, x, hx, he⟩
    exact ⟨c, hc, ⟨x, hx, he⟩, h0⟩

def PostVars' (w : World) (r : List Int) (e : Ending) (w' : World) : Prop := ∃ v', e = .returned v' ∧ OwnI w' w.heap.size v' r ∧ Ext w w'

set_option maxRecDepth 100000 in
set_option maxHeartbeats 4000000 in
theorem Vars_any (f : List (List Int)) (u : Value) (w : World) (h64 : All64L f) (kr : RLL w u f) (ht : total f ≤ 1000000) : Calls Tryd.prog 33 #[u] w (PostVars' w (VarsV f)) := by
  obtain ⟨A, c, vs, rfl, h1, h2, h3, h4, h5⟩ := kr
  have H4 := Lib.hid h4
  have H5 := Lib.hid h5
  have H3 := Lib.hid h3
  have HT := Lib.hid ht
  clear h4 h5 h3 ht
  go_enter Tryd.func33, Tryd.ntmps33
  go_wp2_with fail
  go_loopg [3, 11] vs.length (fun gn o i wr => ∃ k : Nat, k ≤ vs.length ∧ gn + k = vs.length ∧ i = .int .i64 k ∧ Hid (OwnI wr w.heap.size o (varsAll (f.take k)) ∧ Ext w wr))
  case atStart => exact ⟨0, Nat.zero_le _, by omega, rfl, OwnI.nil _ _, Ext.refl _⟩
  case round =>
    obtain ⟨k, hk, hgk, rfl, HS⟩ := hrel
    by_cases hlt : k < vs.length
    · have hkf : k < f.length := by rw [← H4.out]; exact hlt
      obtain ⟨w1, rfl⟩ : ∃ w1 : World, w1 = wr := ⟨_, rfl⟩
      obtain ⟨E, ce, he, he1, he2, he3⟩ := H5.out k hlt hkf
      obtain ⟨L, hL⟩ : ∃ L, L = f[k].length := ⟨_, rfl⟩
      rw [← hL] at he he1 he2
      have HE3 := Lib.hid he3
      have HL := Lib.hid hL
      have hk64 := h64 _ (List.getElem_mem hkf)
      obtain ⟨ad, rfl, hrow⟩ := (H3.out.ext HS.out.2) k hlt
      rw [he] at hrow
      have hbd : (varsAll (f.take k)).length + L ≤ 1000000 := by
        have := lens_succ f k hkf
        have := lens_le f (k + 1)
        have h9 := varsAll_len (f.take k)
        have h10 : total (f.take k) = lens f k := by unfold total lens; rw [List.take_length]
        have := HT.out
        omega
      clear he3 he hL
      go_wp2_with fail
      go_loopg [3, 17] L (fun gn o j wr => ∃ m : Nat, m ≤ L ∧ gn + m = L ∧ j = .int .i64 m ∧ Hid (OwnI wr w.heap.size o (varsAll (f.take k) ++ varsOf (f[k].take m)) ∧ Ext w wr))
      case atStart => exact ⟨0, Nat.zero_le _, by omega, rfl, by simpa [varsOf] using HS.out.1, HS.out.2⟩
      case round =>
        obtain ⟨m, hm, hgm, rfl, HS2⟩ := hrel
        by_cases hml : m < L
        · have hmf : m < f[k].length := by rw [← HL.out]; exact hml
          obtain ⟨bd, rfl, hy⟩ := (HE3.out.ext HS2.out.2).int m hmf
          have hx := hk64 _ (List.getElem_mem hmf)
          have hvs := varsOf_succ f[k] m hmf
          have hvl : (varsAll (f.take k) ++ varsOf (f[k].take m)).length ≤ 10000000 := by
            rw [List.length_append]
            have := varsOf_len (f[k].take m)
            rw [List.length_take] at this
            omega
          obtain ⟨x, hxe⟩ : ∃ x, x = f[k][m] := ⟨_, rfl⟩
          rw [← hxe] at hy hx hvs
          have HX := Lib.hid hxe
          clear hxe
          obtain ⟨w2, rfl⟩ : ∃ w2 : World, w2 = wr := ⟨_, rfl⟩
          by_cases hp : 0 < varOf x
          · rw [if_pos hp] at hvs
            have HVS := Lib.hid hvs
            clear hvs
            go_wp2_with (first
              | (go_at_call 57; refine (var_any x hx _).mono ?_; rintro e w' ⟨rfl, rfl⟩)
              | (at_builtin
                 refine app_1 rfl (.tmp 25) (.tmp 27) rfl (base := w.heap.size) (xs := varsAll (f.take k) ++ varsOf (f[k].take m)) (y := varOf x) rfl rfl HS2.out.1 hvl HS2.out.2.size ?_
                 intro v' w3 hown hg
                 have HOW := Lib.hid hown
                 have HE4 := Lib.hid (hg.toExt HS2.out.2 (fun i hi => (own_typed HS2.out.1 hi.symm).1))
                 clear hown hg))
            go_roundg (L - (m + 1))
            case measure => omega
            case rel => exact ⟨m + 1, by omega, by omega, by go_num, by rw [HVS.out, ← List.append_assoc]; exact HOW.out, HE4.out⟩
          · rw [if_neg hp, List.append_nil] at hvs
            have HVS := Lib.hid hvs
            clear hvs
            go_wp2_with (go_at_call 57; refine (var_any x hx _).mono ?_; rintro e w' ⟨rfl, rfl⟩)
            go_roundg (L - (m + 1))
            case measure => omega
            case rel => exact ⟨m + 1, by omega, by omega, by go_num, by rw [HVS.out]; exact HS2.out.1, HS2.out.2⟩
        · obtain rfl : m = L := by omega
          go_wp2
          go_roundg (vs.length - (k + 1))
          case measure => omega
          case rel => exact ⟨k + 1, by omega, by omega, by go_num, by rw [varsAll_succ f k hkf]; have := HS2.out.1; rw [HL.out, List.take_length] at this; exact this, HS2.out.2⟩
    · obtain rfl : k = vs.length := by omega
      have hsv : OwnI wr w.heap.size u3 (varsAll f) := by have := HS.out.1; rw [H4.out, List.take_length] at this; exact this
      have hE := HS.out.2
      have hvl : (varsAll f).length ≤ 100000000 := by have := varsAll_len f; have := HT.out; omega
      have hml : ((varsAll f).mergeSort fun x y => decide (x ≤ y)).length ≤ 100000000 := by rw [List.length_mergeSort]; exact hvl
      have HSV := Lib.hid hsv
      have HE := Lib.hid hE
      have HSC := Lib.hid (sortC_vars f)
      clear hsv hE HS hgk hk
      go_wp2_with (first
        | (go_at_call 66
           refine (Sort_own _ _ _ _ HSV.out hvl).mono ?_
           rintro e w2 ⟨rfl, ho, hg⟩
           have HO := Lib.hid ho
           have HE2 := Lib.hid (grow_ext HE.out HSV.out hg)
           clear ho hg)
        | (go_at_call 67
           refine (Compact_own _ _ _ _ HO.out hml).mono ?_
           rintro e w3 ⟨v3, rfl, ho, hg, -⟩
           have HO3 := Lib.hid ho
           have HE3 := Lib.hid (grow_ext HE2.out HO.out hg)
           clear ho hg))
      go_ret
      exact ⟨_, rfl, by rw [← HSC.out]; exact HO3.out, HE3.out⟩
end Go.Proofs.YteokoaggkpjdeaaDoor
namespace Go.Proofs.YteokoaggkpjdeaaDoor
open Go.RowKit

/-- The absolute value as the program computes it, for whatever number. -/
def sizeA (n : Int) : Int := if n < 0 then IntKind.u64.wrap (-(IntKind.u64.wrap n)) else IntKind.u64.wrap n
theorem sizeA_abs {n : Int} (h : I64 n) : sizeA n = (n.natAbs : Int) := by
  unfold I64 at h
  unfold sizeA
  split
  · simp only [wrapu]; omega
  · simp only [wrapu]; omega

/-- The order of literals, as a number. -/
def ordF (x y : Int) : Int := if cmpI (sizeA x) (sizeA y) = 0 then cmpI x y else cmpI (sizeA x) (sizeA y)

set_option maxHeartbeats 400000 in
theorem size_all (n : Int) (w : World) : Calls Tryd.prog 84 #[.int .i64 n] w fun e w' => e = .returned (.int .u64 (sizeA n)) ∧ w = w' := by
  by_cases h : n < 0
  · go_enter Tryd.func84, Tryd.ntmps84
    go_wp2
    go_ret
    exact ⟨ret_int (by unfold sizeA; rw [if_pos h]), rfl⟩
  · go_enter Tryd.func84, Tryd.ntmps84
    go_wp2
    go_ret
    exact ⟨ret_int (by unfold sizeA; rw [if_neg (by omega)]), rfl⟩

set_option maxHeartbeats 400000 in
theorem isNaNu_any (a : Int) (w : World) : Calls Tryd.prog 126 #[.int .u64 a] w fun e w' => e = .returned (.bool false) ∧ w = w' := by
  go_enter Tryd.func126, Tryd.ntmps126
  go_wp2
  go_ret
  exact ⟨by simp, rfl⟩

set_option maxHeartbeats 400000 in
theorem cmpu_any (a b : Int) (w : World) : Calls Tryd.prog 112 #[.int .u64 a, .int .u64 b] w fun e w' => e = .returned (.int .i64 (cmpI a b)) ∧ w = w' := by
  by_cases h1 : a < b
  · go_enter Tryd.func112, Tryd.ntmps112
    go_wp2_with (go_at_call 126; refine (isNaNu_any _ _).mono ?_; rintro e w' ⟨rfl, rfl⟩)
    go_ret
    exact ⟨ret_int (by unfold cmpI; rw [if_pos h1]), rfl⟩
  · by_cases h2 : b < a
    · go_enter Tryd.func112, Tryd.ntmps112
      go_wp2_with (go_at_call 126; refine (isNaNu_any _ _).mono ?_; rintro e w' ⟨rfl, rfl⟩)
      go_ret
      exact ⟨ret_int (by unfold cmpI; rw [if_neg (by omega), if_pos h2]), rfl⟩
    · go_enter Tryd.func112, Tryd.ntmps112
      go_wp2_with (go_at_call 126; refine (isNaNu_any _ _).mono ?_; rintro e w' ⟨rfl, rfl⟩)
      go_ret
      exact ⟨ret_int (by unfold cmpI; rw [if_neg (by omega), if_neg (by omega)]), rfl⟩

set_option maxHeartbeats 400000 in
theorem order1_fn (x y : Int) (w : World) : Calls Tryd.prog 111 #[.int .i64 x, .int .i64 y] w fun e w' => e = .returned (.int .i64 (cmpI (sizeA x) (sizeA y))) ∧ w = w' := by
  go_enter Tryd.func111, Tryd.ntmps111
  go_wp2_with fail
  refine (size_all x _).mono ?_
  rintro e w' ⟨rfl, rfl⟩
  go_wp2_with fail
  refine (size_all y _).mono ?_
  rintro e w' ⟨rfl, rfl⟩
  go_wp2_with (go_at_call 112; refine (cmpu_any _ _ _).mono ?_; rintro e w' ⟨rfl, rfl⟩)
  go_ret
  exact ⟨rfl, rfl⟩

theorem fv_order1 : Fv Tryd.prog 111 := ⟨_, Tryd.func111, by kernel_rfl, by kernel_rfl⟩
theorem fv_cmp : Fv Tryd.prog 87 := ⟨_, Tryd.func87, by kernel_rfl, by kernel_rfl⟩

set_option maxHeartbeats 2000000 in
theorem by_any (x y : Int) (g : Nat) (w : World) (h0 : w.cell? ⟨g, 0, none⟩ = some (.func (.func 111) #[] #[])) (h1 : w.cell? ⟨g, 1, none⟩ = some (.func (.func 87) #[] #[])) :
    Calls Tryd.prog 110 #[.int .i64 x, .int .i64 y, .slice (some ⟨g, 0, none⟩) 2 2] w fun e w' => e = .returned (.int .i64 (ordF x y)) ∧ w = w' := by
  by_cases hc : cmpI (sizeA x) (sizeA y) = 0
  · have HC := Lib.hid hc
    have ho := order1_fn x y w
    rw [hc] at ho
    have HO := Lib.hid ho
    clear ho hc
    go_enter Tryd.func110, Tryd.ntmps110
    go_wp2_with fail
    go_loopg [12] 2 (fun gn i wr => w = wr ∧ ((gn = 2 ∧ i = .int .i64 0) ∨ (gn = 1 ∧ i = .int .i64 1) ∨ (gn = 0 ∧ i = .int .i64 2 ∧ Hid (cmpI x y = 0))))
    case atStart => exact ⟨rfl, .inl ⟨rfl, rfl⟩⟩
    case round =>
      obtain ⟨rfl, ⟨rfl, rfl⟩ | ⟨rfl, rfl⟩ | ⟨rfl, rfl, HZ⟩⟩ := hrel
      · go_wp2_with (refine wpList_callv (.tmp 16) #[.tmp 17, .tmp 18] _ rfl rfl #[] rfl fv_order1 #[.int .i64 x, .int .i64 y] (by simp only [List.map_toArray, List.map_cons, List.map_nil]; rfl) ?_; refine HO.out.mono ?_; rintro e w' ⟨rfl, rfl⟩; refine ⟨_, rfl, ?_⟩)
        go_roundg 1
        case measure => omega
        case rel => exact ⟨rfl, .inr (.inl ⟨rfl, rfl⟩)⟩
      · by_cases hz : cmpI x y = 0
        · have hcm := cmp_any x y w
          rw [hz] at hcm
          have HCM := Lib.hid hcm
          have HZ := Lib.hid hz
          clear hcm hz
          go_wp2_with (refine wpList_callv (.tmp 16) #[.tmp 17, .tmp 18] _ rfl rfl #[] rfl fv_cmp #[.int .i64 x, .int .i64 y] (by simp only [List.map_toArray, List.map_cons, List.map_nil]; rfl) ?_; refine HCM.out.mono ?_; rintro e w' ⟨rfl, rfl⟩; refine ⟨_, rfl, ?_⟩)
          go_roundg 0
          case measure => omega
          case rel => exact ⟨rfl, .inr (.inr ⟨rfl, rfl, HZ⟩)⟩
        · have hzb : (cmpI x y != 0) = true := by simpa using hz
          have HZ := Lib.hid hz
          clear hz
          go_wp2_with (refine wpList_callv (.tmp 16) #[.tmp 17, .tmp 18] _ rfl rfl #[] rfl fv_cmp #[.int .i64 x, .int .i64 y] (by simp only [List.map_toArray, List.map_cons, List.map_nil]; rfl) ?_; refine (cmp_any x y w).mono ?_; rintro e w' ⟨rfl, rfl⟩; refine ⟨_, rfl, ?_⟩)
          go_ret
          exact ⟨ret_int (by unfold ordF; rw [if_pos HC.out]), rfl⟩
      · go_wp2_with fail
        go_ret
        exact ⟨ret_int (by unfold ordF; rw [if_pos HC.out, HZ.out]), rfl⟩
  · have hcb : (cmpI (sizeA x) (sizeA y) != 0) = true := by simpa using hc
    have HC := Lib.hid hc
    have HO := Lib.hid (order1_fn x y w)
    clear hc
    go_enter Tryd.func110, Tryd.ntmps110
    go_wp2_with fail
    go_loopg [12] 0 (fun gn i wr => w = wr ∧ i = .int .i64 0)
    case atStart => exact ⟨rfl, rfl⟩
    case round =>
      obtain ⟨rfl, rfl⟩ := hrel
      go_wp2_with (refine wpList_callv (.tmp 16) #[.tmp 17, .tmp 18] _ rfl rfl #[] rfl fv_order1 #[.int .i64 x, .int .i64 y] (by simp only [List.map_toArray, List.map_cons, List.map_nil]; rfl) ?_; refine HO.out.mono ?_; rintro e w' ⟨rfl, rfl⟩; refine ⟨_, rfl, ?_⟩)
      go_ret
      exact ⟨ret_int (by unfold ordF; rw [if_neg HC.out]), rfl⟩

set_option maxHeartbeats 400000 in
theorem order_any (x y : Int) (w : World) : Calls Tryd.prog 94 #[.int .i64 x, .int .i64 y] w fun e w' => e = .returned (.int .i64 (ordF x y)) ∧ ∃ o, w' = w.alloc o := by
  go_enter Tryd.func94, Tryd.ntmps94
  go_wp2_with fail
  refine (by_any x y w.heap.size _ ?_ ?_).mono ?_
  · exact (Blk.new w 95 [.func (.func 111) #[] #[], .func (.func 87) #[] #[]]).cell 0
  · exact (Blk.new w 95 [.func (.func 111) #[] #[], .func (.func 87) #[] #[]]).cell 1
  rintro e w' ⟨rfl, rfl⟩
  go_wp2
  go_ret
  exact ⟨rfl, _, rfl⟩
end Go.Proofs.YteokoaggkpjdeaaDoor
namespace Go.Proofs.YteokoaggkpjdeaaDoor
open Go.RowKit

/-- The order of literals, of whatever numbers. -/
def alt (x y : Int) : Prop := sizeA x < sizeA y ∨ (sizeA x = sizeA y ∧ x < y)
instance (x y : Int) : Decidable (alt x y) := by unfold alt; infer_instance
theorem alt_tri (a b : Int) : alt a b ∨ a = b ∨ alt b a := by unfold alt; omega
theorem alt_trans (a b c : Int) (h : alt a b) (k : alt b c) : alt a c := by unfold alt at *; omega
theorem cmpI_neg {a b : Int} : cmpI a b < 0 ↔ a < b := by unfold cmpI; split <;> (try split) <;> omega
theorem cmpI_zero {a b : Int} : cmpI a b = 0 ↔ a = b := by unfold cmpI; split <;> (try split) <;> omega
theorem ordF_neg (x y : Int) : ordF x y < 0 ↔ alt x y := by
  unfold ordF alt
  by_cases h : cmpI (sizeA x) (sizeA y) = 0
  · rw [if_pos h, cmpI_neg]
    have := cmpI_zero.1 h
    omega
  · rw [if_neg h, cmpI_neg]
    have : ¬ sizeA x = sizeA y := fun e => h (cmpI_zero.2 e)
    omega
theorem lt_ord (x y : Int) : ltOf ordF x y = decide (alt x y) := by
  unfold ltOf
  rw [decide_eq_decide]
  exact ordF_neg x y
theorem swo_ord : Sort.SWO (ltOf ordF) := by
  refine ⟨fun x => ?_, fun x y z h k => ?_, fun x y z h k => ?_⟩
  · rw [lt_ord, decide_eq_false_iff_not]; unfold alt; omega
  · rw [lt_ord, decide_eq_true_eq] at *; exact alt_trans _ _ _ h k
  · rw [lt_ord, decide_eq_false_iff_not] at *
    unfold alt at *; omega
theorem alt_blt {x y : Int} (hx : I64 x) (hy : I64 y) : alt x y ↔ blt x y := by
  unfold alt blt
  rw [sizeA_abs hx, sizeA_abs hy]; omega

theorem grow_one (w : World) (o : Obj) : w.alloc o = Sort.grow (w.drewN 0) #[o] := by
  unfold World.alloc Sort.grow World.drewN
  simp

theorem SortF_own (xs : List Int) (v : Value) (base : Nat) (w : World) (h : OwnI w base v xs) (hl : xs.length ≤ 100000000) (h64 : All64 xs) :
    Calls Tryd.prog 93 #[v, .func (.func 94) #[] #[]] w fun e w' => ∃ ys, e = .returned (.tuple #[]) ∧ OwnI w' base v ys ∧ w.grownBy w' v.ownBlock ∧ ys.length = xs.length ∧ (∀ x, x ∈ ys ↔ x ∈ xs) ∧ ys.Pairwise fun a b => ¬ blt b a := by
  unfold OwnI at h ⊢
  obtain ⟨-, ⟨rfl, h0⟩ | ⟨g, cap, cur, rfl, hb, hg, hn, hm, hs, ht⟩⟩ := h
  · have : xs = [] := List.length_eq_zero_iff.1 h0
    subst this
    refine (AnyF.slices_SortFunc_none (P := Tryd.prog) (ρ := Tryd.laysSlF6_f93_ren) { Tryd.laysSlF6_f93 with } none 0 _ w).mono ?_
    rintro e w' ⟨rfl, rfl⟩
    exact ⟨[], rfl, World.ownsRow_nil _ _ _ 1, ⟨rfl, rfl, rfl, Nat.le_refl _, fun _ _ _ => rfl⟩, rfl, fun _ => Iff.rfl, List.Pairwise.nil⟩
  · refine (Tryd.slices_SortFunc (Value.int .i64) (fun _ => rfl) ordF swo_ord 94 #[] g 0 cap xs.toArray w (enters_of Tryd.func94 (by kernel_rfl) rfl)
      (fun m os dk _ x y => (order_any x y _).mono fun e w' ⟨he, o, ho⟩ => ⟨he, 0, #[o], by rw [ho, grow_one]⟩)
      (holds_of_blockI hg (by rw [Nat.mul_one] at ht; exact ht)) (Array.getElem?_eq_some_iff.1 hg).1 (by simp; omega)).mono ?_
    rintro e w' ⟨rfl, d', n, os, ⟨hsz, -, hperm⟩, hsort, rfl⟩
    have hdl : d'.toList.length = xs.length := by simpa using hsz
    have hp : d'.toList.Perm xs := by
      have h1 : d'.extract 0 xs.toArray.size = d' := by rw [← hsz]; simp
      have h2 : xs.toArray.extract 0 xs.toArray.size = xs.toArray := by simp
      rw [h1, h2] at hperm
      simpa using hperm
    refine ⟨d'.toList, rfl, ?_, ?_, hdl, fun x => hp.mem_iff, ?_⟩
    · have := ownsRow_sortedI (w := w) (n := n) (os := os) (ts := d'.toList) (ss := xs) hdl hb hg hn hm hs
      rw [hdl]
      simpa [sortWorld] using this
    · have := grownBy_sortedI (w := w) (g := g) (n := n) (os := os) d'
      simpa [sortWorld, Value.ownBlock] using this
    · rw [List.pairwise_iff_getElem]
      intro i j hi hj hij
      have := hsort i j (Nat.zero_le _) hij (by simp; omega)
      rw [lt_ord, decide_eq_false_iff_not] at this
      have hi' : i < d'.size := by simpa using hi
      have hj' : j < d'.size := by simpa using hj
      rw [getElem!_pos d' i hi', getElem!_pos d' j hj'] at this
      intro hb'
      apply this
      have m1 : d'[i] ∈ xs := hp.mem_iff.1 (by simp)
      have m2 : d'[j] ∈ xs := hp.mem_iff.1 (by simp)
      exact (alt_blt (h64 _ m2) (h64 _ m1)).2 (by simpa using hb')

/-- The normal list of some literals, or why there is none. -/
def NormV (xs : List Int) : List Int × Int :=
  if xs.length > 200000 ∨ xs.any (fun x => varOf x == 0) = true then ([], 2) else if mayB (setL [] xs) = true then (setL [] xs, 0) else ([], 10)

theorem fv_norm1 : Fv Tryd.prog 92 := ⟨_, Tryd.func92, by kernel_rfl, by kernel_rfl⟩
set_option maxHeartbeats 400000 in
theorem norm1_fn (x : Int) (hx : I64 x) (w : World) : Calls Tryd.prog 92 #[.int .i64 x] w fun e w' => e = .returned (.bool (varOf x == 0)) ∧ w' = w := by
  go_enter Tryd.func92, Tryd.ntmps92
  go_wp2_with (go_at_call 57; refine (var_any x hx _).mono ?_; rintro e w' ⟨rfl, rfl⟩)
  go_ret
  exact ⟨rfl, rfl⟩

theorem anyVar (xs : List Int) (v : Value) (w : World) (h64 : All64 xs) (hr : RI w v xs) (f : FuncId) (hf : Fv Tryd.prog f) (q : Int → Bool) (hq : ∀ x, I64 x → ∀ w, Calls Tryd.prog f #[.int .i64 x] w fun e w' => e = .returned (.bool (q x)) ∧ w' = w) :
    Calls Tryd.prog 82 #[v, .func (.func f) #[] #[]] w fun e w' => e = .returned (.bool (xs.any q)) ∧ w = w' := by
  obtain ⟨A, c, rfl, h1, h2, h3⟩ := hr
  have hix := containsFuncI f #[] hf A c (xs.map (Value.int .i64)) (by rw [List.length_map]; exact h2) (fun j => q (xs.getD j 0)) (fun _ w' => w' = w) w
    (fun _ w' hw => hw ▸ h3)
    (fun j hj w' hw => by
      subst hw
      have hj' : j < xs.length := by simpa using hj
      rw [List.getElem_map, show xs[j] = xs.getD j 0 by simp [hj']]
      exact hq (xs.getD j 0) (h64.getD j hj') w')
    rfl
  rw [List.length_map] at hix
  refine hix.mono fun e w' (hq : PostCont _ _ _ e w') => ?_
  obtain ⟨r', he, hq⟩ := hq
  have h1 : IdxOf (fun j => q (xs.getD j 0)) xs.length r' ∧ w' = w := by
    rcases hq with ⟨k, h1, h2, h3, h4, h5⟩ | ⟨h1, h2, h3⟩
    · exact ⟨.inl ⟨k, h1, h2, h3, h4⟩, h5⟩
    · exact ⟨.inr ⟨h1, h2⟩, h3⟩
  have := (idx_cont h1.1).trans (range_any_get xs q)
  exact ⟨by rw [he, this], h1.2.symm⟩

theorem compact_setL {xs ys : List Int} (h1 : ∀ x, x ∈ ys ↔ x ∈ xs) (h2 : ys.Pairwise fun a b => ¬ blt b a) : Lib.compact ys = setL [] xs := by
  obtain ⟨h3, h4⟩ := compact_strict (lt := blt) blt_tri (fun _ _ _ h k => blt_trans h k) ys h2
  exact sorted_ext blt_asym h3 (setL_sorted xs List.Pairwise.nil) fun x => by rw [h4, h1, mem_setL]; simp

def PostNorm (w : World) (r : List Int × Int) (e : Ending) (w' : World) : Prop := ∃ v, e = .returned (.tuple #[v, .int .i64 r.2]) ∧ OwnI w' w.heap.size v r.1 ∧ Ext w w'

set_option maxHeartbeats 2000000 in
theorem Norm_any (xs : List Int) (v : Value) (w : World) (h64 : All64 xs) (hr : RI w v xs) : Calls Tryd.prog 74 #[v] w (PostNorm w (NormV xs)) := by
  generalize hPP : PostNorm w (NormV xs) = PP
  have HPP := Lib.hid hPP
  clear hPP
  have HR := Lib.hid hr
  have HA := Lib.hid (anyVar xs v w h64 hr 92 fv_norm1 (fun x => varOf x == 0) (fun x hx w => norm1_fn x hx w))
  obtain ⟨A, c, rfl, h1, h2, h3⟩ := hr
  clear h3
  by_cases hl : xs.length ≤ 200000
  · have hl' : ¬ (200000 : Int) < xs.length := by omega
    cases ha : xs.any fun x => varOf x == 0
    · rw [ha] at HA
      have HAA := Lib.hid ha
      clear ha
      have HCL := Lib.hid (cloneI_any _ xs w HR.out (by omega))
      cases hm : mayB (setL [] xs)
      all_goals
        have HM := Lib.hid hm
        clear hm
        go_enter Tryd.func74, Tryd.ntmps74
        go_wp2_with (first
          | (go_at_call 82; refine HA.out.mono ?_; rintro e w' ⟨rfl, rfl⟩)
          | (go_at_call 13; refine HCL.out.mono ?_; rintro e w1 ⟨v1, rfl, ho, hE⟩; have HO := Lib.hid ho; have HE := Lib.hid hE; clear ho hE)
          | (go_at_call 93; refine (SortF_own xs v1 _ _ HO.out (by omega) h64).mono ?_; rintro e w2 ⟨ys, rfl, ho, hg, hyl, hym, hyp⟩; have HO2 := Lib.hid ho; have HE2 := Lib.hid (grow_ext HE.out HO.out hg); have HYL := Lib.hid hyl; have HYS := Lib.hid (compact_setL hym hyp); clear ho hg hyl hym hyp)
          | (go_at_call 67; refine (Compact_own ys v1 _ _ HO2.out (by have := HYL.out; omega)).mono ?_; rintro e w3 ⟨v3, rfl, ho, hg, -⟩; have HO3 := Lib.hid (HYS.out ▸ ho); have HE3 := Lib.hid (grow_ext HE2.out HO2.out hg); clear ho hg)
          | (go_at_call 43; have hmy := may_any v3 (setL [] xs) _ HO3.out.reads (fun x hx => by rcases (mem_setL xs [] x).1 hx with h | h; cases h; exact h64 x h); rw [HM.out] at hmy; refine hmy.mono ?_; rintro e w4 ⟨rfl, rfl⟩; clear hmy))
        rw [← HPP.out]
        unfold NormV
        rw [if_neg (by rw [HAA.out]; simp; omega), HM.out]
      · exact ⟨_, rfl, OwnI.nil _ _, HE3.out⟩
      · exact ⟨_, rfl, HO3.out, HE3.out⟩
    · rw [ha] at HA
      have HAA := Lib.hid ha
      clear ha
      go_enter Tryd.func74, Tryd.ntmps74
      go_wp2_with (go_at_call 82; refine HA.out.mono ?_; rintro e w' ⟨rfl, rfl⟩)
      rw [← HPP.out]
      unfold NormV
      rw [if_pos (.inr HAA.out)]
      exact ⟨_, rfl, OwnI.nil _ _, Ext.refl _⟩
  · have hl' : (200000 : Int) < xs.length := by omega
    go_enter Tryd.func74, Tryd.ntmps74
    go_wp2_with fail
    rw [← HPP.out]
    unfold NormV
    rw [if_pos (.inl (by omega))]
    exact ⟨_, rfl, OwnI.nil _ _, Ext.refl _⟩
end Go.Proofs.YteokoaggkpjdeaaDoor
namespace Go.Proofs.YteokoaggkpjdeaaDoor
open Go.RowKit

def PostClose (w : World) (r : List Int × Bool × Int) (e : Ending) (w' : World) : Prop := ∃ v, e = .returned (.tuple #[v, .bool r.2.1, .int .i64 r.2.2]) ∧ OwnI w' w.heap.size v r.1 ∧ Ext w w'

theorem RSt.at {w : World} {A : Option Addr} {n c : Nat} {st : List (Int × Int)} (h : RSt w (.slice A n c) st) (k : Nat) (hk : k < st.length) : ∃ ad, A = some ad ∧ w.cell? (ad.add (k * 2)) = some (.int .i64 st[k].1) ∧ w.cell? (ad.add (k * 2 + 1)) = some (.int .i64 st[k].2) := by
  obtain ⟨A', c', he, -, -, h3⟩ := h
  cases he
  obtain ⟨ad, rfl, hc⟩ := h3 (by omega)
  obtain ⟨g1, g2⟩ := stepsV_get st k hk
  exact ⟨ad, rfl, hc _ _ g1, hc _ _ g2⟩

theorem addr_two (ad : Addr) (k : Nat) : ad.add (k * 2 + 1) = ⟨(ad.add (k * 2)).block, (ad.add (k * 2)).off + 1, none⟩ := by
  unfold Addr.add
  rw [if_neg (by omega)]
  by_cases h : k * 2 = 0
  · rw [if_pos h, h]
  · rw [if_neg h]; simp [Nat.add_assoc]

theorem cell_new2 (w : World) (x y : Value) (t : TypeId) : (w.alloc (.cells #[x, y] t)).cell? ⟨w.heap.size, 0, none⟩ = some x := by
  unfold World.alloc
  simp [World.cell?]

set_option maxRecDepth 100000 in
set_option maxHeartbeats 4000000 in
theorem Close_any (f : List (List Int)) (xs : List Int) (v u : Value) (w : World) (h64 : All64 xs) (k64 : All64L f) (hr : RI w v xs) (kr : RLL w u f) (ht : f.length ≤ 20000 → total f ≤ 9223372036854775807) :
    Calls Tryd.prog 36 #[u, v] w (PostClose w (CloseV f xs)) := by
  generalize hPP : PostClose w (CloseV f xs) = PP
  have HPP := Lib.hid hPP
  clear hPP
  have HU := Lib.hid (Units_any f xs v u w h64 k64 hr kr ht)
  have HR := Lib.hid hr
  clear hr kr
  obtain ⟨cv, hcv⟩ : ∃ r, r = CloseV f xs := ⟨_, rfl⟩
  unfold CloseV at hcv
  have hst64 : All64 ((UnitsV f xs).1.map Prod.fst) := fun y hy => UnitsV_64 k64 h64 y (List.mem_append_right _ hy)
  have hok : (UnitsV f xs).2.2 = 0 → Good (xs ++ (UnitsV f xs).1.map Prod.fst) ∧ xs.length ≤ 65536 ∧ (UnitsV f xs).1.length ≤ 20001 := fun h0 => by
    have hmm : mayB xs = true ∧ mayCnfB f = true := by
      unfold UnitsV at h0
      by_cases h : mayB xs = true ∧ mayCnfB f = true
      · exact h
      · rw [if_neg h] at h0; simp at h0
    have hu : (UnitsV f xs).1 = (unitsL f (f.length + 1) xs).1 := by unfold UnitsV; rw [if_pos hmm]
    rw [hu]
    refine ⟨unitsL_good (asc_all hmm.2) _ xs (good_asc ((mayB_iff xs).1 hmm.1)), may_len hmm.1, ?_⟩
    have := unitsL_len (f := f) (f.length + 1) xs
    have := mayCnfB_len hmm.2
    omega
  obtain ⟨r, hr0⟩ : ∃ r, r = UnitsV f xs := ⟨_, rfl⟩
  rw [← hr0] at HU hst64 hok hcv
  obtain ⟨st, cf, e0⟩ := r
  have hCV : CloseV f xs = if e0 ≠ 0 ∨ cf ≥ 0 then ([], false, e0) else (setL [] (xs ++ st.map Prod.fst), true, 0) := by unfold CloseV; rw [← hr0]
  dsimp only at HU hst64 hok hcv
  clear hr0 hcv
  by_cases h0 : e0 = 0
  · subst h0
    obtain ⟨hg, hxl, hsl⟩ := hok rfl
    clear hok
    by_cases h1 : 0 ≤ cf
    · rw [if_pos (.inr h1)] at hCV
      have HCV := Lib.hid hCV
      have h1b : decide (0 ≤ cf) = true := decide_eq_true h1
      go_enter Tryd.func36, Tryd.ntmps36
      go_wp2_with (go_at_call 34; refine HU.out.mono ?_; rintro e w1 ⟨x, rfl, ho, hE⟩; have HE := Lib.hid hE; clear ho hE)
      go_ret3
      rw [← HPP.out, HCV.out]
      exact ⟨_, rfl, OwnI.nil _ _, HE.out⟩
    · have hn : ¬ (((0 : Int) ≠ 0) ∨ cf ≥ 0) := by omega
      rw [if_neg hn] at hCV
      have HCV := Lib.hid hCV
      clear hCV
      have h1b : decide (0 ≤ cf) = false := decide_eq_false h1
      have HG := Lib.hid hg
      clear hg
      have HN : Hid (NormV (xs ++ st.map Prod.fst) = (setL [] (xs ++ st.map Prod.fst), 0)) := Lib.hid (by
        unfold NormV
        rw [if_neg, if_pos (good_may HG.out)]
        rintro (h | h)
        · rw [List.length_append, List.length_map] at h; omega
        · obtain ⟨z, hz, hz0⟩ := List.any_eq_true.1 h
          have := HG.out.lit z hz
          have := beq_iff_eq.1 hz0
          omega)
      have HL64 : Hid (All64 (xs ++ st.map Prod.fst)) := Lib.hid (fun y hy => by rcases List.mem_append.1 hy with h | h; exact h64 y h; exact hst64 y h)
      go_enter Tryd.func36, Tryd.ntmps36
      go_wp2_with (first
        | (go_at_call 34; refine HU.out.mono ?_; rintro e w1 ⟨x, rfl, ho, hE⟩; have HE := Lib.hid hE; obtain ⟨A, c, rfl, hh⟩ := own_RSt ho; have HS : Hid (RSt w1 (.slice A st.length c) st) := Lib.hid (own_RSt ho); clear ho hE hh)
        | (go_at_call 13; refine (cloneI_any v xs _ (HR.out.ext HE.out) (by omega)).mono ?_; rintro e w2 ⟨v2, rfl, ho, hE⟩; have HO2 := Lib.hid ho; have HE2 := Lib.hid hE; clear ho hE))
      go_loopg [10, 31] st.length (fun gn o i wr => ∃ k : Nat, k ≤ st.length ∧ gn + k = st.length ∧ i = .int .i64 k ∧ Hid (OwnI wr w1.heap.size o (xs ++ (st.take k).map Prod.fst) ∧ Ext w1 wr))
      case atStart => exact ⟨0, Nat.zero_le _, by omega, rfl, by simpa using HO2.out, HE2.out⟩
      case round =>
        obtain ⟨k, hk, hgk, rfl, HI⟩ := hrel
        obtain ⟨wk, rfl⟩ : ∃ wk : World, wk = wr := ⟨_, rfl⟩
        by_cases hlt : k < st.length
        · obtain ⟨ad, rfl, hc0, hc1⟩ := (HS.out.ext HI.out.2).at k hlt
          have hvl : (xs ++ (st.take k).map Prod.fst).length ≤ 10000000 := by
            rw [List.length_append, List.length_map, List.length_take]; omega
          have hsn : xs ++ (st.take (k + 1)).map Prod.fst = (xs ++ (st.take k).map Prod.fst) ++ [st[k].1] := by
            rw [List.take_succ_eq_append_getElem hlt, List.map_append, List.append_assoc]; rfl
          have HSN := Lib.hid hsn
          clear hsn
          obtain ⟨p0, hp0⟩ : ∃ p, p = st[k].1 := ⟨_, rfl⟩
          obtain ⟨p1, hp1⟩ : ∃ p, p = st[k].2 := ⟨_, rfl⟩
          rw [← hp0] at hc0 HSN
          rw [← hp1, addr_two] at hc1
          clear hp0 hp1
          go_upto_region 8 with fail
          generalize hW : wk.alloc _ = W1
          have HE6 : Hid (Ext wk W1) := Lib.hid (hW ▸ Ext.alloc _ _)
          have a5 : W1.cell? ⟨wk.heap.size, 0, none⟩ = some (.int .i64 p0) := by rw [← hW]; exact cell_new2 wk _ _ _
          have HO : Hid (OwnI W1 w1.heap.size u10 (xs ++ (st.take k).map Prod.fst)) := Lib.hid (own_ext HI.out.1 HE6.out)
          have HE : Hid (Ext w1 W1) := Lib.hid (HI.out.2.trans HE6.out)
          clear hW
          go_wp2_with (at_builtin; refine app_1 (w := W1) rfl (.tmp 35) (.tmp 38) rfl (base := w1.heap.size) (xs := xs ++ (st.take k).map Prod.fst) (y := p0) rfl rfl HO.out hvl HE.out.size ?_; intro v' w3 hown hg; have HOW := Lib.hid hown; have HEW := Lib.hid (hg.toExt HE.out (fun i hi => (own_typed HO.out hi.symm).1)); clear hown hg)
          go_roundg (st.length - (k + 1))
          case measure => omega
          case rel => exact ⟨k + 1, by omega, by omega, by go_num, by rw [HSN.out]; exact HOW.out, HEW.out⟩
        · obtain rfl : k = st.length := by omega
          have hO := HI.out.1
          rw [List.take_length] at hO
          have HO := Lib.hid hO
          clear hO
          go_wp2_with (go_at_call 74; refine (Norm_any (xs ++ st.map Prod.fst) _ _ HL64.out HO.out.reads).mono ?_; rintro e w4 ⟨v4, rfl, ho, hE⟩; rw [HN.out] at ho ⊢; have HO4 := Lib.hid (own_lower ho (HE.out.trans HI.out.2).size); have HE4 := Lib.hid ((HE.out.trans HI.out.2).trans hE); clear ho hE)
          go_ret3
          rw [← HPP.out, HCV.out]
          exact ⟨_, rfl, HO4.out, HE4.out⟩
  · rw [if_pos (.inl h0)] at hCV
    have HCV := Lib.hid hCV
    have h0b : (e0 == 0) = false := by simpa using h0
    have h0c : (e0 != 0) = true := by simpa using h0
    go_enter Tryd.func36, Tryd.ntmps36
    go_wp2_with (go_at_call 34; refine HU.out.mono ?_; rintro e w1 ⟨x, rfl, ho, hE⟩; have HE := Lib.hid hE; clear ho hE)
    go_ret3
    rw [← HPP.out, HCV.out]
    exact ⟨_, rfl, OwnI.nil _ _, HE.out⟩
end Go.Proofs.YteokoaggkpjdeaaDoor
namespace Go.Proofs.YteokoaggkpjdeaaDoor

/-- What follows from some literals by unit clauses. -/
inductive Fol (f : List (List Int)) (a : List Int) : Int → Prop
  | start {x : Int} : x ∈ a → Fol f a x
  | one {x : Int} {c : List Int} : c ∈ f → x ∈ c → (∀ y, y ∈ c → y ≠ x → Fol f a (-y)) → Fol f a x

theorem Fol.mono {f g : List (List Int)} {a : List Int} (h : ∀ c, c ∈ f → c ∈ g) {x : Int} (k : Fol f a x) : Fol g a x := by
  induction k with
  | start h1 => exact .start h1
  | one h1 h2 _ ih => exact .one (h _ h1) h2 ih

theorem decF_is {f : List (List Int)} {asg : List Int} {i : Nat} (h : decF f asg = some i) : ∃ hi : i < f.length, f[i].any asg.contains = false ∧ (openL asg f[i]).length ≤ 1 := by
  unfold decF at h
  have hp := List.find?_some h
  have hi : i < f.length := by simpa using List.mem_of_find?_eq_some h
  rw [Bool.and_eq_true] at hp
  rw [getD_of f i hi] at hp
  exact ⟨hi, by simpa using hp.1, by simpa using hp.2⟩
theorem decF_not {f : List (List Int)} {asg : List Int} (h : decF f asg = none) (c : List Int) (hc : c ∈ f) : c.any asg.contains = true ∨ 1 < (openL asg c).length := by
  unfold decF at h
  rw [List.find?_eq_none] at h
  obtain ⟨j, hj, rfl⟩ := List.getElem_of_mem hc
  have := h j (by simpa using hj)
  rw [getD_of f j hj] at this
  cases hh : f[j].any asg.contains
  · right
    rw [hh] at this
    simpa using this
  · exact .inl rfl

/-- The end of unit propagation. -/
theorem unitsL_end {f : List (List Int)} {a : List Int} : ∀ k asg, nh f asg < k → (∀ x ∈ asg, Fol f a x) →
    (∀ x ∈ asg ++ (unitsL f k asg).1.map Prod.fst, Fol f a x) ∧
    (((unitsL f k asg).2 = -1 ∧ decF f (asg ++ (unitsL f k asg).1.map Prod.fst) = none) ∨
     ∃ i, ∃ hi : i < f.length, (unitsL f k asg).2 = (i : Int) ∧ f[i].any (asg ++ (unitsL f k asg).1.map Prod.fst).contains = false ∧ openL (asg ++ (unitsL f k asg).1.map Prod.fst) f[i] = [])
  | 0, asg, h, _ => absurd h (Nat.not_lt_zero _)
  | k + 1, asg, h, hs => by
    rw [unitsL]
    cases hd : decF f asg with
    | none => exact ⟨by simpa using hs, .inl ⟨rfl, by simpa using hd⟩⟩
    | some i =>
      obtain ⟨hi, hn, hle⟩ := decF_is hd
      simp only [getD_of f i hi]
      cases ho : openL asg f[i] with
      | nil => exact ⟨by simpa using hs, .inr ⟨i, hi, rfl, by simpa using hn, by simpa using ho⟩⟩
      | cons x r =>
        have hr0 : r = [] := by
          rw [ho] at hle
          exact List.length_eq_zero_iff.1 (by simpa using hle)
        subst hr0
        have hnl := nh_lt hi (open_mem ho).1 hn
        have hx : Fol f a x := .one (List.getElem_mem hi) (open_mem ho).1 fun y hy hne => hs _ (by
          cases hc : asg.contains (-y)
          · have : y ∈ openL asg f[i] := by unfold openL; rw [List.mem_filter]; exact ⟨hy, by rw [hc]; rfl⟩
            rw [ho] at this
            exact absurd (List.mem_singleton.1 this) hne
          · simpa using hc)
        have ih := unitsL_end (f := f) (a := a) k (asg ++ [x]) (by omega) (fun z hz => by
          rcases List.mem_append.1 hz with h1 | h1
          · exact hs z h1
          · rw [List.mem_singleton.1 h1]; exact hx)
        simpa only [List.map_cons, List.append_assoc, List.singleton_append, List.cons_append, List.nil_append] using ih

/-- Where nothing decides and nothing clashes, all that follows is there. -/
theorem fol_mem {f : List (List Int)} {a E : List Int} (hf : ∀ c ∈ f, Asc c) (hg : Good E) (ha : ∀ x ∈ a, x ∈ E) (hd : decF f E = none) {x : Int} (h : Fol f a x) : x ∈ E := by
  induction h with
  | start h1 => exact ha _ h1
  | @one x c h1 h2 _ ih =>
    rcases decF_not hd c h1 with h3 | h3
    · obtain ⟨y, hy, hyE⟩ := any_contains.1 h3
      by_cases hyx : y = x
      · exact hyx ▸ hyE
      · exact (hg.no y hyE (ih y hy hyx)).elim
    · exfalso
      have hsub : ∀ z ∈ openL E c, z = x := fun z hz => by
        unfold openL at hz
        rw [List.mem_filter] at hz
        by_cases hzx : z = x
        · exact hzx
        · have := ih z hz.1 hzx
          have h4 := hz.2
          simp [this] at h4
      have hnd : (openL E c).Nodup := by
        unfold openL
        exact List.Pairwise.filter _ ((asc_blt (hf c h1)).imp fun h k => by subst k; exact (blt_asym _ _ h h).elim)
      match hl : openL E c, h3, hsub, hnd with
      | [], h3, _, _ => simp at h3
      | [_], h3, _, _ => simp at h3
      | u :: v :: t, _, hsub, hnd =>
        have e1 := hsub u (by simp)
        have e2 := hsub v (by simp)
        rw [List.nodup_cons] at hnd
        exact hnd.1 (by rw [e1, e2]; simp)

theorem total_perm {f g : List (List Int)} (h : f.Perm g) : total f = total g := by
  unfold total lens
  rw [List.take_length, List.take_length]
  exact (h.map _).sum_nat
theorem mayCnfB_iff (f : List (List Int)) : mayCnfB f = true ↔ f.length ≤ 20000 ∧ total f ≤ 200000 ∧ ∀ c ∈ f, mayB c = true := by
  unfold mayCnfB
  rw [Bool.and_eq_true, decide_eq_true_eq, List.all_eq_true]
  refine and_congr_right fun hl => ⟨fun h => ⟨?_, fun c hc => ?_⟩, fun h k hk => ?_⟩
  · by_cases h0 : f.length = 0
    · unfold total lens
      rw [List.length_eq_zero_iff.1 h0]; simp
    · have := h (f.length - 1) (by simp; omega)
      rw [Bool.and_eq_true, decide_eq_true_eq] at this
      have h2 := this.1
      rw [show f.length - 1 + 1 = f.length by omega] at h2
      exact h2
  · obtain ⟨j, hj, rfl⟩ := List.getElem_of_mem hc
    have := h j (by simpa using hj)
    rw [Bool.and_eq_true, getD_of f j hj] at this
    exact this.2
  · have hkl : k < f.length := by simpa using hk
    rw [Bool.and_eq_true, decide_eq_true_eq, getD_of f k hkl]
    exact ⟨Nat.le_trans (lens_le f (k + 1)) h.1, h.2 _ (List.getElem_mem hkl)⟩
theorem mayCnfB_perm {f g : List (List Int)} (h : f.Perm g) : mayCnfB f = mayCnfB g := by
  rw [Bool.eq_iff_iff, mayCnfB_iff, mayCnfB_iff, total_perm h, h.length_eq]
  exact and_congr_right fun _ => and_congr_right fun _ => ⟨fun k c hc => k c (h.mem_iff.2 hc), fun k c hc => k c (h.mem_iff.1 hc)⟩

/-- What a closing comes to. -/
theorem close_end {f : List (List Int)} {a : List Int} (hm : mayB a = true) (km : mayCnfB f = true) :
    (∃ E, Good E ∧ (∀ x ∈ a, x ∈ E) ∧ (∀ x ∈ E, Fol f a x) ∧ decF f E = none ∧ CloseV f a = (setL [] E, true, 0)) ∨
    (CloseV f a = ([], false, 0) ∧ ∃ c ∈ f, ∀ y ∈ c, Fol f a (-y)) := by
  have hu : UnitsV f a = ((unitsL f (f.length + 1) a).1, (unitsL f (f.length + 1) a).2, 0) := by unfold UnitsV; rw [if_pos ⟨hm, km⟩]
  have hg := unitsL_good (asc_all km) (f.length + 1) a (good_asc ((mayB_iff a).1 hm))
  obtain ⟨h1, h2⟩ := unitsL_end (f := f) (a := a) (f.length + 1) a (by have := nh_le f a; omega) (fun x hx => .start hx)
  unfold CloseV
  rw [hu]
  rcases h2 with ⟨h3, h4⟩ | ⟨i, hi, h3, h4, h5⟩
  · refine .inl ⟨_, hg, fun x hx => List.mem_append_left _ hx, h1, h4, ?_⟩
    rw [if_neg]
    simp only [h3]
    omega
  · refine .inr ⟨?_, f[i], List.getElem_mem hi, fun y hy => h1 _ ?_⟩
    · rw [if_pos]
      simp only [h3]
      omega
    · cases hc : (a ++ (unitsL f (f.length + 1) a).1.map Prod.fst).contains (-y)
      · have : y ∈ openL (a ++ (unitsL f (f.length + 1) a).1.map Prod.fst) f[i] := by unfold openL; rw [List.mem_filter]; exact ⟨hy, by rw [hc]; rfl⟩
        rw [h5] at this
        cases this
      · simpa using hc

theorem close_bad {f : List (List Int)} {a : List Int} (h : ¬ (mayB a = true ∧ mayCnfB f = true)) : CloseV f a = ([], false, 2) := by
  have hu : UnitsV f a = ([], -1, 2) := by unfold UnitsV; rw [if_neg h]
  unfold CloseV
  rw [hu]
  rfl

theorem no_clash {f : List (List Int)} {a E : List Int} (hf : ∀ c ∈ f, Asc c) (hg : Good E) (ha : ∀ x ∈ a, x ∈ E) (hd : decF f E = none) {c : List Int} (hc : c ∈ f) (h : ∀ y ∈ c, Fol f a (-y)) : False := by
  have hall : ∀ y ∈ c, -y ∈ E := fun y hy => fol_mem hf hg ha hd (h y hy)
  rcases decF_not hd c hc with h3 | h3
  · obtain ⟨y, hy, hyE⟩ := any_contains.1 h3
    exact hg.no y hyE (hall y hy)
  · have : openL E c = [] := by
      unfold openL
      rw [List.filter_eq_nil_iff]
      intro y hy
      have := hall y hy
      simp [this]
    rw [this] at h3
    simp at h3

/-- Closing with the clauses in another order. -/
theorem close_perm {f g : List (List Int)} (a : List Int) (h : f.Perm g) : CloseV f a = CloseV g a := by
  by_cases hm : mayB a = true ∧ mayCnfB f = true
  · obtain ⟨hm, km⟩ := hm
    have km' : mayCnfB g = true := by rw [← mayCnfB_perm h]; exact km
    have hfg : ∀ c, c ∈ f → c ∈ g := fun c hc => h.mem_iff.1 hc
    have hgf : ∀ c, c ∈ g → c ∈ f := fun c hc => h.mem_iff.2 hc
    rcases close_end (f := f) hm km with ⟨E, e1, e2, e3, e4, e5⟩ | ⟨e5, c, hc, e6⟩ <;> rcases close_end (f := g) hm km' with ⟨D, d1, d2, d3, d4, d5⟩ | ⟨d5, d, hd, d6⟩
    · rw [e5, d5]
      have : setL [] E = setL [] D := sorted_ext blt_asym (setL_sorted _ List.Pairwise.nil) (setL_sorted _ List.Pairwise.nil) fun x => by
        rw [mem_setL, mem_setL]
        simp only [List.not_mem_nil, false_or]
        exact ⟨fun hx => fol_mem (asc_all km') d1 d2 d4 ((e3 x hx).mono hfg), fun hx => fol_mem (asc_all km) e1 e2 e4 ((d3 x hx).mono hgf)⟩
      rw [this]
    · exact (no_clash (asc_all km) e1 e2 e4 (hgf d hd) fun y hy => (d6 y hy).mono hgf).elim
    · exact (no_clash (asc_all km') d1 d2 d4 (hfg c hc) fun y hy => (e6 y hy).mono hfg).elim
    · rw [e5, d5]
  · rw [close_bad hm, close_bad (by rw [← mayCnfB_perm h]; exact hm)]

/-- A closed assignment: what is left has at least two literals; it contains the start; closing again changes nothing. -/
theorem close_ok {f : List (List Int)} {a : List Int} (h : (CloseV f a).2.1 = true) :
    mayB (CloseV f a).1 = true ∧ mayB a = true ∧ mayCnfB f = true ∧ (∀ x ∈ a, x ∈ (CloseV f a).1) ∧ (∀ c ∈ UnderV (CloseV f a).1 f, 2 ≤ c.length) ∧ CloseV f (CloseV f a).1 = ((CloseV f a).1, true, 0) ∧ (CloseV f a).2.2 = 0 := by
  by_cases hm : mayB a = true ∧ mayCnfB f = true
  · obtain ⟨hm, km⟩ := hm
    rcases close_end (f := f) hm km with ⟨E, e1, e2, e3, e4, e5⟩ | ⟨e5, c, hc, e6⟩
    · rw [e5]
      dsimp only
      have hs := good_may e1
      have hmem : ∀ x, x ∈ setL [] E ↔ x ∈ E := fun x => by rw [mem_setL]; simp
      have hAsc := (mayB_iff _).1 hs
      have hcont : ∀ x, (setL [] E).contains x = E.contains x := fun x => by
        rw [Bool.eq_iff_iff, List.contains_iff_mem, List.contains_iff_mem, hmem]
      have hR : Rel (setL [] E) E := ⟨hAsc, hmem⟩
      have hd : decF f (setL [] E) = none := by
        rw [← e4]
        unfold decF openL
        simp only [hcont, show (setL [] E).contains = E.contains from funext hcont]
      refine ⟨hs, hm, km, fun x hx => (hmem x).2 (e2 x hx), fun c hc => ?_, ?_, rfl⟩
      · unfold UnderV at hc
        rw [if_pos ⟨hs, km⟩] at hc
        obtain ⟨cl, h1, h2, rfl⟩ := mem_underL.1 hc
        have hcA := asc_all km cl h1
        rcases decF_not e4 cl h1 with h3 | h3
        · exact absurd ((hR.one hcA).2 h3) h2
        · have h4 : cl.any E.contains = false := by
            cases hh : cl.any E.contains
            · rfl
            · exact absurd ((hR.one hcA).2 hh) h2
          rw [hR.rest hcA h4]
          omega
      · have hu : UnitsV f (setL [] E) = ([], -1, 0) := by
          unfold UnitsV
          rw [if_pos ⟨hs, km⟩]
          simp only [unitsL, hd]
        unfold CloseV
        rw [hu]
        simp only [List.map_nil, List.append_nil]
        rw [if_neg (by omega), sorted_ext blt_asym (setL_sorted (setL [] E) List.Pairwise.nil) (setL_sorted E List.Pairwise.nil) fun x => by rw [mem_setL]; simp]
    · rw [e5] at h
      cases h
  · rw [close_bad hm] at h
    cases h
theorem close_no {f : List (List Int)} {a : List Int} (h : (CloseV f a).2.1 = false) : (CloseV f a).1 = [] := by
  by_cases hm : mayB a = true ∧ mayCnfB f = true
  · rcases close_end (f := f) hm.1 hm.2 with ⟨E, e1, e2, e3, e4, e5⟩ | ⟨e5, c, hc, e6⟩
    · rw [e5] at h; cases h
    · rw [e5]
  · rw [close_bad hm]
end Go.Proofs.YteokoaggkpjdeaaDoor
namespace Go.Proofs.YteokoaggkpjdeaaDoor
open Go.RowKit

def subB (xs ys : List Int) : Bool := mayB xs && mayB ys && xs.all fun x => decide (x ∈ ys)

theorem subB_iff {xs ys : List Int} : subB xs ys = true ↔ mayB xs = true ∧ mayB ys = true ∧ ∀ x ∈ xs, x ∈ ys := by
  unfold subB
  simp [and_assoc]

section
variable {x : Int} {xs zs : List Int}
theorem sub_none (h : ∀ j (hj : j < zs.length), ¬ varOf x ≤ varOf zs[j]) : ((x :: xs).all fun y => decide (y ∈ zs)) = false := by
  rw [List.all_cons, Bool.and_eq_false_iff]
  left
  rw [decide_eq_false_iff_not]
  intro hm
  obtain ⟨j, hj, e⟩ := List.getElem_of_mem hm
  have := h j hj
  rw [e] at this
  omega
theorem sub_ne (hz : Asc zs) {j : Nat} (hj : j < zs.length) (h1 : varOf x ≤ varOf zs[j]) (h2 : ∀ i (hi : i < j), ¬ varOf x ≤ varOf (zs[i]'(by omega))) (hne : zs[j] ≠ x) : ((x :: xs).all fun y => decide (y ∈ zs)) = false := by
  rw [List.all_cons, Bool.and_eq_false_iff]
  left
  rw [decide_eq_false_iff_not]
  intro hm
  obtain ⟨i, hi, e⟩ := List.getElem_of_mem hm
  rcases Nat.lt_trichotomy i j with h | h | h
  · have := h2 i h
    rw [e] at this
    omega
  · subst h; exact hne e
  · have := hz.lt j i h hi
    rw [e] at this
    omega
theorem sub_eq (hz : Asc zs) (hx : Asc (x :: xs)) {j : Nat} (hj : j < zs.length) (he : zs[j] = x) : ((x :: xs).all fun y => decide (y ∈ zs)) = xs.all fun y => decide (y ∈ zs.drop (j + 1)) := by
  rw [List.all_cons, decide_eq_true (show x ∈ zs from he ▸ List.getElem_mem hj), Bool.true_and, Bool.eq_iff_iff, List.all_eq_true, List.all_eq_true]
  refine forall_congr' fun y => forall_congr' fun hy => ?_
  rw [decide_eq_true_eq, decide_eq_true_eq]
  refine ⟨fun h => ?_, fun h => List.mem_of_mem_drop h⟩
  obtain ⟨i, hi, e⟩ := List.getElem_of_mem h
  have hv := hx.head.2 y hy
  have hij : j < i := by
    rcases Nat.lt_trichotomy i j with h3 | h3 | h3
    · have := hz.lt i j h3 hj
      rw [e, he] at this; omega
    · subst h3
      have : y = x := e.symm.trans he
      rw [this] at hv; omega
    · exact h3
  rw [List.mem_drop_iff_getElem]
  exact ⟨i - (j + 1), by omega, by rw [← e]; congr 1; omega⟩
theorem Asc.drop (hz : Asc zs) (j : Nat) : Asc (zs.drop j) := ⟨hz.1.drop, fun y hy => hz.2 y (List.mem_of_mem_drop hy)⟩
end

/-- xs[k:] of a slice that reads as xs. -/
theorem RI.dropN {w : World} {A : Option Addr} {c : Nat} {zs : List Int} (h : RI w (.slice A zs.length c) zs) (k : Nat) (hk : k ≤ zs.length) : RI w (.slice (if c - k = 0 then A else A.map (·.add k)) (zs.length - k) (c - k)) (zs.drop k) := by
  obtain ⟨-, h1, h2, h3⟩ := h.row
  refine ⟨_, _, by rw [List.length_drop], by rw [List.length_drop]; omega, by rw [List.length_drop]; omega, fun j hj => ?_⟩
  rw [List.length_map, List.length_drop] at hj
  rw [if_neg (by omega)]
  obtain ⟨ad, rfl, hc⟩ := h3 (k + j) (by rw [List.length_map]; omega)
  refine ⟨ad.add k, rfl, ?_⟩
  rw [show (ad.add k).add j = ad.add (k + j) by unfold Addr.add; split <;> split <;> split <;> simp_all <;> omega, hc]
  simp

set_option maxHeartbeats 400000 in
theorem sub1_fn (x y : Int) (hx : I64 x) (hy : I64 y) (g : Nat) (w : World) (hc : w.cell? ⟨g, 0, none⟩ = some (.int .i64 x)) :
    Calls Tryd.prog 75 #[.int .i64 y, .pointer (some ⟨g, 0, none⟩)] w fun e w' => e = .returned (.bool (decide (varOf x ≤ varOf y))) ∧ ∃ n, w' = w.drewN n := by
  go_enter Tryd.func75, Tryd.ntmps75
  go_wp2
  go_quiet ((first | (go_at_call_of 57 (Value.int .i64 y); exact quiet_same (var_any y hy _)) | (go_at_call_of 57 (Value.int .i64 x); exact quiet_same (var_any x hx _))))
  go_wp2
  go_ret
  exact ⟨rfl, _, rfl⟩
theorem fv_sub1 : Fv Tryd.prog 75 := ⟨_, Tryd.func75, by kernel_rfl, by kernel_rfl⟩

set_option maxHeartbeats 2000000 in
theorem Sub_any (xs ys : List Int) (v u : Value) (w : World) (h64 : All64 xs) (k64 : All64 ys) (hr : RI w v xs) (kr : RI w u ys) :
    Calls Tryd.prog 41 #[v, u] w fun e w' => e = .returned (.bool (subB xs ys)) ∧ Ext w w' := by
  generalize hbb : subB xs ys = bb
  have HBB := Lib.hid hbb
  have HX := Lib.hid (may_any v xs w hr h64)
  have HY := Lib.hid (may_any u ys w kr k64)
  have HR := Lib.hid hr
  have KR := Lib.hid kr
  unfold subB at hbb
  obtain ⟨A, c, rfl, h1, h2, h3⟩ := hr
  obtain ⟨B, d, rfl, k1, k2, k3⟩ := kr
  clear h3 k3
  cases hm : mayB xs
  · rw [hm] at HX hbb
    have HB0 : Hid (bb = false) := Lib.hid (by rw [← hbb]; rfl)
    clear hbb hm
    go_enter Tryd.func41, Tryd.ntmps41
    go_wp2_with (go_at_call 43; refine HX.out.mono ?_; rintro e w' ⟨rfl, rfl⟩)
    go_ret
    exact ⟨ret_bool HB0.out.symm, Ext.refl _⟩
  cases km : mayB ys
  · rw [hm] at HX
    rw [km] at HY
    rw [hm, km] at hbb
    have HB0 : Hid (bb = false) := Lib.hid (by rw [← hbb]; rfl)
    clear hbb hm km
    go_enter Tryd.func41, Tryd.ntmps41
    go_wp2_with (first
      | (go_at_call_of 43 (Value.slice A xs.length c); refine HX.out.mono ?_; rintro e w' ⟨rfl, rfl⟩)
      | (go_at_call_of 43 (Value.slice B ys.length d); refine HY.out.mono ?_; rintro e w' ⟨rfl, rfl⟩))
    go_ret
    exact ⟨ret_bool HB0.out.symm, Ext.refl _⟩
  rw [hm] at HX
  rw [km] at HY
  rw [hm, km] at hbb
  have HBA : Hid ((xs.all fun x => decide (x ∈ ys)) = bb) := Lib.hid (by rw [← hbb]; rfl)
  have HMX := Lib.hid ((mayB_iff xs).1 hm)
  have HMY := Lib.hid ((mayB_iff ys).1 km)
  clear hbb hm km
  go_enter Tryd.func41, Tryd.ntmps41
  go_wp2_with (first
    | (go_at_call_of 43 (Value.slice A xs.length c); refine HX.out.mono ?_; rintro e w' ⟨rfl, rfl⟩)
    | (go_at_call_of 43 (Value.slice B ys.length d); refine HY.out.mono ?_; rintro e w' ⟨rfl, rfl⟩))
  go_loopg [1, 18] xs.length (fun gn b i wr => ∃ (k : Nat) (zs : List Int) (Z : Option Addr) (cz : Nat), k ≤ xs.length ∧ gn + k = xs.length ∧ i = .int .i64 k ∧ b = .slice Z zs.length cz ∧ Hid (RI wr (.slice Z zs.length cz) zs ∧ Ext w wr ∧ Asc zs ∧ All64 zs ∧ ((xs.drop k).all fun x => decide (x ∈ zs)) = bb))
  case atStart => exact ⟨0, ys, B, d, Nat.zero_le _, by omega, rfl, rfl, KR.out, Ext.refl _, HMY.out, k64, HBA.out⟩
  case round =>
    obtain ⟨k, zs, Z, cz, hk, hgk, rfl, rfl, HI⟩ := hrel
    obtain ⟨wk, rfl⟩ : ∃ wk : World, wk = wr := ⟨_, rfl⟩
    by_cases hlt : k < xs.length
    · obtain ⟨ad, rfl, hx0⟩ := (HR.out.ext HI.out.2.1).row.2.2.2.int k hlt
      obtain ⟨x, hx⟩ : ∃ x, x = xs[k] := ⟨_, rfl⟩
      rw [← hx] at hx0
      have hdr : xs.drop k = x :: xs.drop (k + 1) := by rw [hx]; exact List.drop_eq_getElem_cons hlt
      have hx64 : I64 x := hx ▸ h64 _ (List.getElem_mem hlt)
      have HDR := Lib.hid hdr
      clear hdr hx
      have hzl := HI.out.2.2.1.len
      have hix : ∀ w' : World, RI w' (.slice Z zs.length cz) zs → w'.cell? ⟨wk.heap.size, 0, none⟩ = some (.int .i64 x) → Calls Tryd.prog 71 #[.slice Z zs.length cz, .func (.func 75) #[] #[.pointer (some ⟨wk.heap.size, 0, none⟩)]] w' fun e w'' => ∃ r : Int, e = .returned (.int .i64 r) ∧ Ext w' w'' ∧ IdxOf (fun j => decide (varOf x ≤ varOf (zs.getD j 0))) zs.length r := fun w' hrr hcc => by
        obtain ⟨-, g1, g2, g3⟩ := hrr.row
        have := indexFuncI 75 #[.pointer (some ⟨wk.heap.size, 0, none⟩)] fv_sub1 Z cz (zs.map (Value.int .i64)) (by rw [List.length_map]; exact g2) (fun j => decide (varOf x ≤ varOf (zs.getD j 0))) (fun _ w'' => Ext w' w'') w'
          (fun _ w'' hw => g3.ext hw)
          (fun j hj w'' hw => by
            have hj' : j < zs.length := by simpa using hj
            rw [List.getElem_map]
            refine (sub1_fn x zs[j] hx64 (HI.out.2.2.2.1 _ (List.getElem_mem hj')) wk.heap.size w'' (hw.cell hcc)).mono ?_
            rintro e w3 ⟨rfl, n, rfl⟩
            exact ⟨by rw [show zs.getD j 0 = zs[j] by simp [hj']], hw.trans (Ext.drewN _ _)⟩)
          (Ext.refl _)
        rw [List.length_map] at this
        refine this.mono ?_
        rintro e w'' ⟨r, rfl, hs⟩
        rcases hs with ⟨j, hj, hp, hn, rfl, hE⟩ | ⟨hn, rfl, hE⟩
        · exact ⟨_, rfl, hE, .inl ⟨j, hj, hp, hn, rfl⟩⟩
        · exact ⟨_, rfl, hE, .inr ⟨hn, rfl⟩⟩
      have HIX := Lib.hid hix
      clear hix
      go_upto_region 6 with fail
      generalize hW : wk.alloc _ = W1
      have HE1 : Hid (Ext wk W1) := Lib.hid (hW ▸ Ext.alloc _ _)
      have a5 : W1.cell? ⟨wk.heap.size, 0, none⟩ = some (.int .i64 x) := hW ▸ (Var1.new wk 3 (.int .i64 x)).cell
      have HZ1 := Lib.hid (HI.out.1.ext HE1.out)
      have HA5 := Lib.hid a5
      clear hW
      go_upto_region 7 with (go_at_call 71; refine (HIX.out W1 HZ1.out HA5.out).mono ?_; rintro e w2 ⟨r, rfl, hE, hs⟩; have HE2 := Lib.hid hE; have HS := Lib.hid hs; clear hE hs)
      have a6 := HE2.out.cell HA5.out
      have HE3 : Hid (Ext w w2) := Lib.hid (HI.out.2.1.trans (HE1.out.trans HE2.out))
      have HZ2 := Lib.hid (HZ1.out.ext HE2.out)
      clear a5
      rcases HS.out with ⟨j, hj, hp, hn, rfl⟩ | ⟨hn, rfl⟩
      · obtain ⟨az, rfl, hz0⟩ := HZ2.out.row.2.2.2.int j hj
        obtain ⟨z, hz⟩ : ∃ z, z = zs[j] := ⟨_, rfl⟩
        rw [← hz] at hz0
        have hjn : decide ((j : Int) < 0) = false := by rw [decide_eq_false_iff_not]; omega
        by_cases hzx : z = x
        · subst hzx
          have hxx : (z != z) = false := by simp
          have HNX := Lib.hid (sub_eq HI.out.2.2.1 (HDR.out ▸ HMX.out.drop k) hj hz.symm)
          have HSL := Lib.hid (HZ2.out.dropN (j + 1) (by omega))
          have hsc := HZ2.out.row.2.1
          clear hp hn
          go_quiet (fail)
          have HE4 := fun n => Lib.hid (HE3.out.trans (Ext.drewN w2 n))
          have HSM := fun n => Lib.hid (HSL.out.ext (Ext.drewN w2 n))
          clear HSL
          go_wp2
          all_goals
            go_roundg (xs.length - (k + 1))
            case measure => omega
            case rel =>
              refine ⟨k + 1, zs.drop (j + 1), _, _, by omega, by omega, by go_num, by rw [List.length_drop], ?_, (HE4 _).out, HI.out.2.2.1.drop _, fun y hy => HI.out.2.2.2.1 y (List.mem_of_mem_drop hy), ?_⟩
              · have := (HSM ‹Nat›).out
                rw [List.length_drop]
                first
                  | (rw [if_pos (by omega), show cz - (j + 1) = 0 by omega] at this; exact this)
                  | (rw [if_neg (by omega)] at this; exact this)
              · rw [← HNX.out, ← HDR.out, HI.out.2.2.2.2]
        · have hxx : (z != x) = true := by simpa using hzx
          have HF := Lib.hid (sub_ne (x := x) (xs := xs.drop (k + 1)) HI.out.2.2.1 hj (by simpa [hj] using hp) (fun i hi => by have := hn i hi; rw [decide_eq_false_iff_not] at this; rwa [show zs.getD i 0 = zs[i]'(by omega) by simp [show i < zs.length by omega]] at this) (fun e => hzx (hz.trans e)))
          clear hn hp
          go_quiet (fail)
          go_wp2
          go_ret
          exact ⟨ret_bool (by rw [← HI.out.2.2.2.2, HDR.out, HF.out]), HE3.out.trans (Ext.drewN _ _)⟩
      · have HF := Lib.hid (sub_none (x := x) (xs := xs.drop (k + 1)) (zs := zs) (fun j hj => by have := hn j hj; rw [decide_eq_false_iff_not] at this; rwa [show zs.getD j 0 = zs[j] by simp [hj]] at this))
        clear hn
        go_quiet (fail)
        go_wp2
        go_ret
        exact ⟨ret_bool (by rw [← HI.out.2.2.2.2, HDR.out, HF.out]), HE3.out.trans (Ext.drewN _ _)⟩
    · obtain rfl : k = xs.length := by omega
      have hb := HI.out.2.2.2.2
      rw [List.drop_length] at hb
      have HB := Lib.hid hb
      clear hb
      go_wp2
      go_ret
      exact ⟨ret_bool (by rw [← HB.out]; rfl), HI.out.2.1⟩
end Go.Proofs.YteokoaggkpjdeaaDoor
namespace Go.Proofs.YteokoaggkpjdeaaDoor

theorem emod_double (n q : Int) (hq : 0 < q) : n % (q * 2) = n % q + q * (n / q % 2) := by
  have h1 := Int.mul_ediv_add_emod n q
  have h2 := Int.mul_ediv_add_emod (n / q) 2
  have h3 := Int.emod_nonneg n (show q ≠ 0 by omega)
  have h4 := Int.emod_lt_of_pos n hq
  have h5 : n / q % 2 = 0 ∨ n / q % 2 = 1 := by omega
  generalize n / q % 2 = b at *
  generalize n % q = r at *
  generalize hm : n / q / 2 = m at *
  have e : n = (q * b + r) + q * 2 * m := by
    have : q * (n / q) = q * (2 * m + b) := by rw [h2]
    rw [Int.mul_add, ← Int.mul_assoc] at this
    omega
  have hb : 0 ≤ q * b + r ∧ q * b + r < q * 2 := by
    rcases h5 with rfl | rfl <;> omega
  rw [e, Int.add_mul_emod_self_left, Int.emod_eq_of_lt hb.1 hb.2]
  omega

theorem pow64 {k : Nat} (h : k ≤ 64) : (2 : Int) ^ k ≤ 2 ^ 64 := by
  have := Nat.pow_le_pow_right (n := 2) (by decide) h
  exact_mod_cast this

theorem pointL_len (n : Int) (vs : List Int) : (pointL n vs).length = vs.length := by unfold pointL; rw [pointP_len]
theorem pointL_at (n : Int) (xs : List Int) (i : Nat) (hi : i < xs.length) : (pointL n xs)[i]'(by rw [pointL_len]; exact hi) = if bitOf n i = 0 then -xs[i] else xs[i] := by
  unfold pointL
  rw [pointP_get n xs.length xs i hi]
  by_cases h : bitOf n i = 0
  · rw [if_pos ⟨hi, h⟩, if_pos h]
  · rw [if_neg (fun h' => h h'.2), if_neg h]
theorem pointL_var (n : Int) (vs : List Int) : (pointL n vs).map varOf = vs.map varOf := by
  refine List.ext_getElem (by simp [pointL_len]) fun i h1 h2 => ?_
  have hi : i < vs.length := by simpa using h2
  rw [List.getElem_map, List.getElem_map, pointL_at n vs i hi]
  split
  · rw [varOf_neg]
  · rfl
theorem asc_of_map {xs ys : List Int} (h : Asc ys) (e : xs.map varOf = ys.map varOf) : Asc xs := by
  have h1 := asc_vars h
  rw [← e, List.pairwise_map] at h1
  refine ⟨h1, fun x hx => ?_⟩
  have : varOf x ∈ ys.map varOf := by rw [← e]; exact List.mem_map_of_mem hx
  obtain ⟨y, hy, he⟩ := List.mem_map.1 this
  rw [← he]; exact h.2 y hy
theorem many_asc {vs : List Int} (h : manyB vs = true) : Asc vs := by
  unfold manyB at h
  simp only [Bool.and_eq_true] at h
  exact (mayB_iff _).1 h.1.2
theorem many_var {vs : List Int} (h : manyB vs = true) : vs.map varOf = vs := by
  refine List.ext_getElem (by simp) fun i h1 h2 => ?_
  rw [List.getElem_map]
  have := many_get h i h2
  unfold varOf
  rw [if_pos (by omega)]
  omega

theorem numL_point {vs : List Int} {n : Int} (hm : manyB vs = true) (h0 : 0 ≤ n) (h1 : n < 2 ^ 64) : ∀ k, k ≤ vs.length → numL (pointL n vs) k = n % 2 ^ k
  | 0, _ => by simp [numL, Int.emod_one]
  | k + 1, hk => by
    have hl := many_len hm
    have hkl : k < (pointL n vs).length := by rw [pointL_len]; omega
    obtain ⟨hx0, hx1⟩ := many_get hm k (by omega)
    have hp0 : (0 : Int) < 2 ^ k := Int.pow_pos (by decide)
    rw [numL_succ _ k (by omega), numL_point hm h0 h1 k (by omega), Int.pow_succ, emod_double n _ hp0, getD_int _ k hkl, pointL_at n vs k (by omega)]
    have hb := bitOf_mod h0 h1 k
    rw [show min k 64 = k by omega] at hb
    rcases bit_two h0 h1 k with h | h
    · rw [if_pos h, if_neg (by omega), ← hb, h]; omega
    · have hne : ¬ bitOf n k = 0 := by rw [h]; decide
      rw [if_neg hne, if_pos hx0, ← hb, h]; omega

theorem number_point {vs : List Int} {n : Int} (hm : manyB vs = true) (h0 : 0 ≤ n) (h1 : n < 2 ^ 64) (hr : n / 2 ^ vs.length = 0) : NumberV vs (pointL n vs) = (n, 0) := by
  have hp := asc_of_map (many_asc hm) (pointL_var n vs)
  have hl := many_len hm
  have hp0 : (0 : Int) < 2 ^ vs.length := Int.pow_pos (by decide)
  have hlt : n < 2 ^ vs.length := by
    by_cases h : n < 2 ^ vs.length
    · exact h
    · have := (Int.le_ediv_iff_mul_le hp0).2 (show 1 * 2 ^ vs.length ≤ n by omega)
      omega
  unfold NumberV
  rw [if_pos ⟨hm, (mayB_iff _).2 hp⟩, if_pos, pointL_len, numL_point hm h0 h1 _ (Nat.le_refl _), Int.emod_eq_of_lt h0 hlt]
  rw [eqfB_map, pointL_var, many_var hm]; simp

/-- Point and Number: the law's first half. -/
theorem back_point {vs : List Int} {n : Int} (h0 : 0 ≤ n) (h1 : n < 2 ^ 64) (h : (PointV n vs).2 = 0) :
    NumberV vs (PointV n vs).1 = (n, 0) ∧ VarsV [(PointV n vs).1] = vs ∧ All64 vs ∧ manyB vs = true := by
  unfold PointV at *
  by_cases hm : manyB vs = true
  · rw [if_pos hm] at h ⊢
    by_cases hr : n / 2 ^ vs.length = 0
    · rw [if_pos hr]
      refine ⟨number_point hm h0 h1 hr, ?_, fun x hx => ?_, hm⟩
      · rw [VarsV_one (asc_of_map (many_asc hm) (pointL_var n vs)), pointL_var, many_var hm]
      · obtain ⟨i, hi, rfl⟩ := List.getElem_of_mem hx
        have := many_get hm i hi
        exact ⟨by omega, by omega⟩
    · rw [if_neg hr] at h; simp at h
  · rw [if_neg hm] at h; simp at h
theorem point_none {vs : List Int} {n : Int} (h : (PointV n vs).2 ≠ 0) : (PointV n vs).1 = [] := by
  unfold PointV at *
  by_cases hm : manyB vs = true
  · rw [if_pos hm] at h ⊢
    by_cases hr : n / 2 ^ vs.length = 0
    · rw [if_pos hr] at h; simp at h
    · rw [if_neg hr]
  · rw [if_neg hm]
theorem back_differ {vs : List Int} {n m : Int} (h0 : 0 ≤ n) (h1 : n < 2 ^ 64) (k0 : 0 ≤ m) (k1 : m < 2 ^ 64) (h : (PointV n vs).2 = 0) (k : (PointV m vs).2 = 0) (he : (PointV n vs).1 = (PointV m vs).1) : n = m := by
  have e1 := (back_point h0 h1 h).1
  have e2 := (back_point k0 k1 k).1
  rw [he, e2] at e1
  exact (Prod.mk.inj e1).1.symm

theorem numL_div (xs : List Int) : ∀ (k i : Nat), i < k → k ≤ 64 → numL xs k / 2 ^ i % 2 = if 0 < xs.getD i 0 then 1 else 0
  | 0, i, h, _ => absurd h (Nat.not_lt_zero i)
  | k + 1, i, h, hk => by
    obtain ⟨h1, h2⟩ := numL_range xs k (by omega)
    have hp0 : (0 : Int) < 2 ^ i := Int.pow_pos (by decide)
    rw [numL_succ xs k (by omega)]
    by_cases e : i = k
    · subst e
      split
      · rw [Int.add_ediv_of_dvd_right (Int.dvd_refl _), Int.ediv_eq_zero_of_lt h1 h2, Int.ediv_self (by omega)]; decide
      · rw [Int.add_zero, Int.ediv_eq_zero_of_lt h1 h2]; decide
    · have hik : i < k := by omega
      have ih := numL_div xs k i hik (by omega)
      split
      · obtain ⟨d, hd⟩ : ∃ d, k = i + (d + 1) := ⟨k - i - 1, by omega⟩
        have hpow : (2 : Int) ^ k = 2 ^ i * (2 ^ d * 2) := by rw [hd, Int.pow_add, Int.pow_succ]
        rw [hpow, Int.add_mul_ediv_left _ _ (by omega), Int.add_mul_emod_self_right]
        exact ih
      · rw [Int.add_zero]; exact ih

theorem back_number {vs xs : List Int} (h : (NumberV vs xs).2 = 0) : PointV (NumberV vs xs).1 vs = (xs, 0) ∧ 0 ≤ (NumberV vs xs).1 ∧ (NumberV vs xs).1 < 2 ^ 64 := by
  unfold NumberV at *
  by_cases hm : manyB vs = true ∧ mayB xs = true
  · rw [if_pos hm] at h ⊢
    by_cases he : eqfB (fun v x => v == varOf x) vs xs = true
    · rw [if_pos he]
      rw [eqfB_map] at he
      have he' : vs = xs.map varOf := by simpa using he
      have hlen : vs.length = xs.length := by rw [he']; simp
      have hl := many_len hm.1
      obtain ⟨h1, h2⟩ := numL_range xs xs.length (by omega)
      have h64 := pow64 (k := xs.length) (by omega)
      have ha := (mayB_iff xs).1 hm.2
      refine ⟨?_, h1, by omega⟩
      unfold PointV
      have hz : numL xs xs.length / 2 ^ vs.length = 0 := by rw [hlen]; exact Int.ediv_eq_zero_of_lt h1 h2
      rw [if_pos hm.1, if_pos hz]
      congr 1
      refine List.ext_getElem (by rw [pointL_len]; exact hlen) fun i i1 i2 => ?_
      have hi : i < vs.length := by omega
      rw [pointL_at _ vs i hi, bitOf_mod h1 (by omega), show min i 64 = i by omega, numL_div xs xs.length i i2 (by omega), getD_int xs i i2]
      have hv : vs[i] = varOf xs[i] := by simp only [he', List.getElem_map]
      have hx := ha.2 xs[i] (List.getElem_mem i2)
      have hx' := varOf_eq (n := xs[i]) (by omega)
      rw [hv]
      by_cases hpos : 0 < xs[i]
      · rw [if_pos hpos, if_neg (by decide)]; omega
      · rw [if_neg hpos, if_pos rfl]; omega
    · rw [if_neg he] at h; simp at h
  · rw [if_neg hm] at h; simp at h
theorem number_none {vs xs : List Int} (h : (NumberV vs xs).2 ≠ 0) : (NumberV vs xs).1 = 0 := by
  unfold NumberV at *
  by_cases hm : manyB vs = true ∧ mayB xs = true
  · rw [if_pos hm] at h ⊢
    by_cases he : eqfB (fun v x => v == varOf x) vs xs = true
    · rw [if_pos he] at h; simp at h
    · rw [if_neg he]
  · rw [if_neg hm]


theorem point_len {vs : List Int} {n : Int} (h : (PointV n vs).2 = 0) : (PointV n vs).1.length = vs.length ∧ vs.length ≤ 64 := by
  unfold PointV at *
  by_cases hm : manyB vs = true
  · rw [if_pos hm] at h ⊢
    by_cases hr : n / 2 ^ vs.length = 0
    · rw [if_pos hr]
      exact ⟨pointL_len n vs, many_len hm⟩
    · rw [if_neg hr] at h; simp at h
  · rw [if_neg hm] at h; simp at h

theorem point_64 {vs : List Int} {n : Int} (hm : manyB vs = true) : All64 (PointV n vs).1 := by
  unfold PointV
  rw [if_pos hm]
  split
  · intro x hx
    obtain ⟨i, hi, rfl⟩ := List.getElem_of_mem hx
    have hi' : i < vs.length := by simpa [pointL_len] using hi
    have hg := pointL_at n vs i hi'
    have := many_get hm i hi'
    simp only
    rw [hg]
    unfold I64
    split <;> omega
  · intro x hx; cases hx

end Go.Proofs.YteokoaggkpjdeaaDoor
namespace Go.Proofs.YteokoaggkpjdeaaDoor

/-- The normal list behind some steps. -/
def nowL (a : List Int) (st : List (Int × Int)) : List Int := st.foldl (fun b p => (JoinV b [p.1]).1) a
theorem nowL_take (a : List Int) (st : List (Int × Int)) (k : Nat) (hk : k < st.length) : nowL a (st.take (k + 1)) = (JoinV (nowL a (st.take k)) [st[k].1]).1 := by
  unfold nowL
  rw [List.take_succ_eq_append_getElem hk, List.foldl_append]
  rfl

/-- What holds of a step when it is made. -/
def StepOk (f : List (List Int)) (now : List Int) (p : Int × Int) : Prop :=
  mayB now = true ∧ ∃ j, ∃ hj : j < f.length, p.2 = (j : Int) ∧ UnderV now [f[j]] = [[p.1]] ∧ ∀ d ∈ UnderV now (f.take j), 2 ≤ d.length
def EndOk (f : List (List Int)) (now : List Int) (cf : Int) : Prop := mayB now = true ∧ (cf = -1 ∨ ∃ j, ∃ hj : j < f.length, cf = (j : Int) ∧ ClauseV now f[j] = 2)

theorem mayCnfB_sub {f g : List (List Int)} (km : mayCnfB f = true) (h1 : g.length ≤ f.length) (h2 : total g ≤ total f) (h3 : ∀ c ∈ g, c ∈ f) : mayCnfB g = true := by
  rw [mayCnfB_iff] at km ⊢
  exact ⟨by omega, by omega, fun c hc => km.2.2 c (h3 c hc)⟩
theorem total_take (f : List (List Int)) (j : Nat) : total (f.take j) ≤ total f := by
  have e : total (f.take j) = lens f j := by unfold total lens; rw [List.take_length]
  rw [e]; exact lens_le f j
theorem total_mem {f : List (List Int)} {c : List Int} (h : c ∈ f) : c.length ≤ total f := by
  obtain ⟨j, hj, rfl⟩ := List.getElem_of_mem h
  have h1 := lens_succ f j hj
  have h2 := lens_le f (j + 1)
  omega
theorem total_one (c : List Int) : total [c] = c.length := by unfold total lens; simp

section
variable {f : List (List Int)} {now asg : List Int}
theorem under_one (h : Rel now asg) (km : mayCnfB f = true) {c : List Int} (hc : c ∈ f) (hn : c.any asg.contains = false) {x : Int} (ho : openL asg c = [x]) : UnderV now [c] = [[x]] := by
  have hcA := asc_all km c hc
  have km' : mayCnfB [c] = true := mayCnfB_sub km (by have := List.length_pos_of_mem hc; simp; omega) (by rw [total_one]; exact total_mem hc) (fun d hd => by rw [List.mem_singleton.1 hd]; exact hc)
  unfold UnderV
  rw [if_pos ⟨(mayB_iff now).2 h.asc, km'⟩]
  unfold underL
  have h1 : clauseV now c ≠ 1 := fun e => by
    have := (h.one hcA).1 e
    rw [hn] at this; cases this
  have h2 : (!(clauseV now c == 1)) = true := by simpa using h1
  rw [List.filter_cons, if_pos h2, List.filter_nil, List.map_cons, List.map_nil, h.rest hcA hn, ho]
theorem under_pre (h : Rel now asg) (km : mayCnfB f = true) (j : Nat) (hp : ∀ m (_ : m < j) (hm : m < f.length), f[m].any asg.contains = true ∨ 1 < (openL asg f[m]).length) : ∀ d ∈ UnderV now (f.take j), 2 ≤ d.length := by
  have km' : mayCnfB (f.take j) = true := mayCnfB_sub km (by rw [List.length_take]; omega) (total_take f j) (fun d hd => List.mem_of_mem_take hd)
  intro d hd
  unfold UnderV at hd
  rw [if_pos ⟨(mayB_iff now).2 h.asc, km'⟩] at hd
  obtain ⟨cl, h1, h2, rfl⟩ := mem_underL.1 hd
  obtain ⟨m, hm, rfl⟩ := List.getElem_of_mem h1
  rw [List.length_take] at hm
  rw [List.getElem_take] at h2 ⊢
  have hcA := asc_all km _ (List.getElem_mem (show m < f.length by omega))
  rcases hp m (by omega) (by omega) with h3 | h3
  · exact absurd ((h.one hcA).2 h3) h2
  · have hn : f[m].any asg.contains = false := by
      cases hh : f[m].any asg.contains
      · rfl
      · exact absurd ((h.one hcA).2 hh) h2
    rw [h.rest hcA hn]
    omega
theorem clause_two (h : Rel now asg) {c : List Int} (hc : Asc c) (hn : c.any asg.contains = false) (ho : openL asg c = []) : ClauseV now c = 2 := by
  unfold ClauseV
  rw [if_pos ⟨(mayB_iff now).2 h.asc, (mayB_iff c).2 hc⟩, clauseV_two]
  refine ⟨fun hx => ?_, ?_⟩
  · have := (h.one hc).1 (clauseV_one.2 hx)
    rw [hn] at this; cases this
  · rintro ⟨x, hx, e⟩
    obtain ⟨e1, e2⟩ := (lookI_zero (asc_lit hc hx)).1 e
    have : x ∈ openL asg c := by
      unfold openL
      rw [List.mem_filter]
      refine ⟨hx, ?_⟩
      have : -x ∉ asg := fun hh => e2 ((h.mem _).2 hh)
      simp [this]
    rw [ho] at this
    cases this
end

theorem decF_all {f : List (List Int)} {asg : List Int} {i : Nat} (h : decF f asg = some i) : ∃ hi : i < f.length, f[i].any asg.contains = false ∧ (openL asg f[i]).length ≤ 1 ∧ ∀ m (_ : m < i) (hm : m < f.length), f[m].any asg.contains = true ∨ 1 < (openL asg f[m]).length := by
  obtain ⟨hi, h1, h2⟩ := decF_is h
  refine ⟨hi, h1, h2, fun m hm hml => ?_⟩
  unfold decF at h
  rw [List.find?_range_eq_some] at h
  have := h.2.2 m hm
  rw [getD_of f m hml] at this
  cases hh : f[m].any asg.contains
  · right
    rw [hh] at this
    simpa using this
  · exact .inl rfl

theorem unitsL_ok {f : List (List Int)} (km : mayCnfB f = true) : ∀ k asg now, nh f asg < k → Rel now asg →
    (∀ i (hi : i < (unitsL f k asg).1.length), StepOk f (nowL now ((unitsL f k asg).1.take i)) (unitsL f k asg).1[i]) ∧
    EndOk f (nowL now (unitsL f k asg).1) (unitsL f k asg).2 ∧ Rel (nowL now (unitsL f k asg).1) (asg ++ (unitsL f k asg).1.map Prod.fst)
  | 0, asg, now, h, _ => absurd h (Nat.not_lt_zero _)
  | k + 1, asg, now, h, hR => by
    have hm := (mayB_iff now).2 hR.asc
    obtain ⟨r, hr⟩ : ∃ r, r = unitsL f (k + 1) asg := ⟨_, rfl⟩
    rw [← hr]
    rw [unitsL] at hr
    cases hd : decF f asg with
    | none =>
      simp only [hd] at hr
      subst hr
      exact ⟨fun i hi => absurd hi (Nat.not_lt_zero i), ⟨hm, .inl rfl⟩, by simpa [nowL] using hR⟩
    | some i =>
      obtain ⟨hi, hn, hle, hp⟩ := decF_all hd
      simp only [hd, getD_of f i hi] at hr
      have hcA := asc_all km _ (List.getElem_mem hi)
      cases ho : openL asg f[i] with
      | nil =>
        simp only [ho] at hr
        subst hr
        exact ⟨fun i hi => absurd hi (Nat.not_lt_zero i), ⟨hm, .inr ⟨i, hi, rfl, clause_two hR hcA hn ho⟩⟩, by simpa [nowL] using hR⟩
      | cons x r' =>
        have hr0 : r' = [] := by
          rw [ho] at hle
          exact List.length_eq_zero_iff.1 (by simpa using hle)
        subst hr0
        simp only [ho] at hr
        subst hr
        have hnl := nh_lt hi (open_mem ho).1 hn
        obtain ⟨-, hR'⟩ := hR.join hcA hn ho
        obtain ⟨q1, q2, q3⟩ := unitsL_ok km k (asg ++ [x]) (JoinV now [x]).1 (by omega) hR'
        refine ⟨fun t ht => ?_, q2, by simpa [nowL] using q3⟩
        cases t with
        | zero => exact ⟨hm, i, hi, rfl, under_one hR km (List.getElem_mem hi) hn ho, under_pre hR km i hp⟩
        | succ t =>
          have := q1 t (by simpa using ht)
          simpa [nowL] using this

/-- A model lies beyond all that follows. -/
theorem fol_model {f : List (List Int)} {a p : List Int} (hp : Asc p) (ha : ∀ x ∈ a, x ∈ p) (hc : ∀ c ∈ f, ∃ y ∈ c, y ∈ p) {x : Int} (h : Fol f a x) : x ∈ p := by
  induction h with
  | start h1 => exact ha _ h1
  | @one x c h1 h2 _ ih =>
    obtain ⟨y, hy, hyp⟩ := hc c h1
    by_cases hyx : y = x
    · exact hyx ▸ hyp
    · exact (hp.clash hyp (ih y hy hyx)).elim

theorem cnf_one {p : List Int} {f : List (List Int)} (h : CnfV p f = 1) : mayB p = true ∧ mayCnfB f = true ∧ ∀ c ∈ f, ∃ y ∈ c, y ∈ p := by
  unfold CnfV at h
  by_cases hm : mayB p = true ∧ mayCnfB f = true
  · rw [if_pos hm, cnfV_eq] at h
    refine ⟨hm.1, hm.2, fun c hc => ?_⟩
    by_cases h2 : ∃ c ∈ f, clauseV p c = 2
    · rw [if_pos h2] at h; simp at h
    · rw [if_neg h2] at h
      by_cases h0 : ∃ c ∈ f, clauseV p c = 0
      · rw [if_pos h0] at h; simp at h
      · have h1 : clauseV p c = 1 := by
          have e := clauseV_eq p c
          have n2 : clauseV p c ≠ 2 := fun e => h2 ⟨c, hc, e⟩
          have n0 : clauseV p c ≠ 0 := fun e => h0 ⟨c, hc, e⟩
          split at e
          · exact e
          · split at e
            · exact absurd e n0
            · exact absurd e n2
        obtain ⟨y, hy, e⟩ := clauseV_one.1 h1
        exact ⟨y, hy, (lookI_one (asc_lit (asc_all hm.2 c hc) hy)).1 e⟩
  · rw [if_neg hm] at h
    simp at h

/-- Models and unit propagation. -/
theorem sound_model {f : List (List Int)} {a p : List Int} (hm : mayB a = true) (km : mayCnfB f = true) (h1 : subB a p = true) (h2 : CnfV p f = 1) :
    (unitsL f (f.length + 1) a).2 = -1 ∧ subB (nowL a (unitsL f (f.length + 1) a).1) p = true := by
  obtain ⟨mp, -, hc⟩ := cnf_one h2
  have hpA := (mayB_iff p).1 mp
  have ha : ∀ x ∈ a, x ∈ p := (subB_iff.1 h1).2.2
  obtain ⟨e1, e2⟩ := unitsL_end (f := f) (a := a) (f.length + 1) a (by have := nh_le f a; omega) (fun x hx => .start hx)
  obtain ⟨-, ⟨hmn, -⟩, hR⟩ := unitsL_ok km (f.length + 1) a a (by have := nh_le f a; omega) ⟨(mayB_iff a).1 hm, fun _ => Iff.rfl⟩
  have hall : ∀ x, Fol f a x → x ∈ p := fun x hx => fol_model hpA ha hc hx
  refine ⟨?_, subB_iff.2 ⟨hmn, mp, fun x hx => hall x (e1 x ((hR.mem x).1 hx))⟩⟩
  rcases e2 with ⟨e3, -⟩ | ⟨i, hi, -, h4, h5⟩
  · exact e3
  · exfalso
    obtain ⟨y, hy, hyp⟩ := hc _ (List.getElem_mem hi)
    have : -y ∈ a ++ (unitsL f (f.length + 1) a).1.map Prod.fst := by
      cases hcc : (a ++ (unitsL f (f.length + 1) a).1.map Prod.fst).contains (-y)
      · have : y ∈ openL (a ++ (unitsL f (f.length + 1) a).1.map Prod.fst) f[i] := by unfold openL; rw [List.mem_filter]; exact ⟨hy, by rw [hcc]; rfl⟩
        rw [h5] at this
        cases this
      · simpa using hcc
    exact hpA.clash hyp (hall _ (e1 _ this))
end Go.Proofs.YteokoaggkpjdeaaDoor
namespace Go.Proofs.YteokoaggkpjdeaaDoor
open Go.RowKit

/-- The cells when k from each end have been exchanged. -/
def RevSt (vs cu : List Value) (k : Nat) : Prop := ∀ m (hm : m < vs.length), cu[m]? = some (if m < k ∨ vs.length ≤ m + k then vs[vs.length - 1 - m]'(by omega) else vs[m])

theorem RevSt.start {vs cu : List Value} (h : cu.take vs.length = vs) : RevSt vs cu 0 := fun m hm => by
  rw [if_neg (by omega)]
  have := congrArg (fun l => l[m]?) h
  simp only [List.getElem?_take, if_pos hm] at this
  rw [this, List.getElem?_eq_getElem hm]
theorem RevSt.next {vs cu : List Value} {k j : Nat} (h : RevSt vs cu k) (hk : k < j) (hj : j + k + 1 = vs.length) (hl : vs.length ≤ cu.length) : RevSt vs ((cu.set k (vs[j]'(by omega))).set j (vs[k]'(by omega))) (k + 1) := fun m hm => by
  by_cases h1 : m = j
  · subst h1
    rw [List.getElem?_set_self (by rw [List.length_set]; omega), if_pos (by omega)]
    congr 2
    omega
  · rw [List.getElem?_set_ne (by omega)]
    by_cases h2 : m = k
    · subst h2
      rw [List.getElem?_set_self (by omega), if_pos (by omega)]
      congr 2
      omega
    · rw [List.getElem?_set_ne (by omega), h m hm]
      by_cases h3 : m < k ∨ vs.length ≤ m + k
      · rw [if_pos h3, if_pos (by omega)]
      · rw [if_neg h3, if_neg (by omega)]
theorem RevSt.done {vs cu : List Value} {k : Nat} (h : RevSt vs cu k) (hk : vs.length ≤ 2 * k + 1) : cu.take vs.length = vs.reverse := by
  apply List.ext_getElem?
  intro m
  rw [List.getElem?_take]
  by_cases hm : m < vs.length
  · rw [if_pos hm, h m hm, List.getElem?_reverse hm]
    by_cases h3 : m < k ∨ vs.length ≤ m + k
    · rw [if_pos h3, List.getElem?_eq_getElem (by omega)]
    · rw [if_neg h3, List.getElem?_eq_getElem (by omega)]
      congr 2
      omega
  · rw [if_neg hm, List.getElem?_eq_none (by simp; omega)]

def PostRev (w : World) (base : Nat) (v : Value) (vs : List Value) (e : Ending) (w' : World) : Prop := e = .returned (.tuple #[]) ∧ w'.ownsRow base 22 1 v vs.length vs.reverse ∧ w.grownBy w' v.ownBlock

set_option maxHeartbeats 1000000 in
theorem reverse_own (vs : List Value) (v : Value) (base : Nat) (w : World) (hs : ∀ u ∈ vs, ∃ A n c, u = .slice A n c) (h : w.ownsRow base 22 1 v vs.length vs) :
    Calls Tryd.prog 40 #[v] w (PostRev w base v vs) := by
  by_cases h0 : 0 < vs.length
  · obtain ⟨g, c, cur, rfl, hb, hB, hlc, hcm, hcl, htk⟩ := own_blk h h0
    have HS := Lib.hid hs
    have HCL := Lib.hid hcl
    have hst := RevSt.start htk
    unfold maxLen at hcm
    obtain ⟨n, hn⟩ : ∃ n, n = vs.length := ⟨_, rfl⟩
    rw [← hn] at hlc h0
    clear htk h hcl hs
    unfold PostRev
    rw [← hn]
    have HN := Lib.hid hn
    have HB := Lib.hid hB
    have HST := Lib.hid hst
    clear hn hB hst
    go_enter Tryd.func40, Tryd.ntmps40
    go_wp2_with fail
    go_loopg [2, 3] n (fun gn i j wr => ∃ (k : Nat) (jj : Int) (cu : List Value), 2 * k ≤ n ∧ gn + k = n ∧ i = .int .i64 k ∧ j = .int .i64 jj ∧ Hid (jj = (n : Int) - 1 - k) ∧ Hid (Upd g w wr ∧ Blk wr g 22 cu ∧ cu.length = c ∧ RevSt vs cu k))
    case atStart => exact ⟨0, _, cur, by omega, by omega, rfl, rfl, Lib.hid (by omega), Upd.refl g w, HB.out, HCL.out, HST.out⟩
    case round =>
      obtain ⟨k, jj, cu, hk, hgk, rfl, rfl, HJJ, HI⟩ := hrel
      have hjj := HJJ.out
      by_cases hlt : (k : Int) < jj
      · obtain ⟨j, rfl⟩ : ∃ j : Nat, jj = (j : Int) := ⟨jj.toNat, by omega⟩
        have hkj : k < j := by omega
        have hjn : j + k + 1 = vs.length := by have := HN.out; omega
        obtain ⟨wk, rfl⟩ : ∃ wk : World, wk = wr := ⟨_, rfl⟩
        obtain ⟨A1, n1, c1, e1⟩ := HS.out _ (List.getElem_mem (show k < vs.length by omega))
        obtain ⟨A2, n2, c2, e2⟩ := HS.out _ (List.getElem_mem (show j < vs.length by omega))
        have q1 := HI.out.2.2.2 k (by omega)
        have q2 := HI.out.2.2.2 j (by omega)
        rw [if_neg (by omega), e1, ← HI.out.2.1.cell] at q1
        rw [if_neg (by omega), e2, ← HI.out.2.1.cell] at q2
        have f1 := HI.out.2.1.free k
        have f2 := HI.out.2.1.free j
        have i0 : (0 : Int) ≤ k := by omega
        have i1 : (k : Int) < n := by omega
        have j0 : (0 : Int) ≤ j := by omega
        have j1 : (j : Int) < n := by omega
        have hnx := HI.out.2.2.2.next hkj hjn (by rw [HI.out.2.2.1, ← HN.out]; exact hlc)
        rw [e1, e2] at hnx
        have HNX := Lib.hid hnx
        have HJN := Lib.hid hjn
        obtain ⟨u, hu⟩ : ∃ u, (wk.setCell ⟨g, k, none⟩ (.slice A2 n2 c2)).cell? ⟨g, j, none⟩ = some u := by
          rw [(HI.out.2.1.set k _).cell]
          exact ⟨_, List.getElem?_eq_getElem (by rw [List.length_set, HI.out.2.2.1]; omega)⟩
        clear hnx e1 e2 hjn hjj hlt
        have hlt : (k : Int) < j := by omega
        go_wp2
        go_region
        go_wp2
        go_roundg (n - (k + 1))
        case measure => omega
        case rel => exact ⟨k + 1, (j : Int) - 1, _, by have := HJN.out; have := HN.out; omega, by omega, by go_num, by go_num, Lib.hid (by have := HJN.out; have := HN.out; omega), ((HI.out.1.trans (Upd.set wk g k _)).trans (Upd.set _ g j _)).trans ((Ext.drew _).upd g), ((HI.out.2.1.set k _).set j _).ext (Ext.drew _), by simpa using HI.out.2.2.1, HNX.out⟩
      · clear hjj
        go_wp2
        go_end0
        have hjj := HJJ.out
        refine ⟨rfl, ?_, HI.out.1⟩
        have hd := HI.out.2.2.2.done (by have := HN.out; omega)
        have := blk_own (vs := vs.reverse) hb HI.out.2.1 (by rw [List.length_reverse, ← HN.out]; exact hlc) (by unfold maxLen; exact hcm) HI.out.2.2.1 (by rw [List.length_reverse]; exact hd)
        rw [List.length_reverse, ← HN.out] at this
        exact this
  · have hv0 : vs = [] := List.length_eq_zero_iff.1 (by omega)
    subst hv0
    have HO := Lib.hid h
    obtain ⟨A, c, rfl, -⟩ := own_row h
    clear h
    go_enter Tryd.func40, Tryd.ntmps40
    go_wp2_with fail
    go_loopg [2, 3] 0 (fun gn i j wr => i = .int .i64 0 ∧ j = .int .i64 (-1) ∧ w = wr)
    case atStart => exact ⟨rfl, rfl, rfl⟩
    case round =>
      obtain ⟨rfl, rfl, rfl⟩ := hrel
      go_wp2
      go_end0
      exact ⟨rfl, HO.out, rfl, rfl, rfl, Nat.le_refl _, fun _ _ _ => rfl⟩
end Go.Proofs.YteokoaggkpjdeaaDoor
namespace Go.Proofs.YteokoaggkpjdeaaDoor
open Go.RowKit

theorem RLL.pairs {w : World} {v : Value} {f : List (List Int)} (h : RLL w v f) : ∃ A c, ∃ ps : List (Value × List Int), v = .slice A ps.length c ∧ ps.length ≤ c ∧ ps.length ≤ 9223372036854775807 ∧ Row w A (ps.map Prod.fst) ∧ f = ps.map Prod.snd ∧ ∀ p ∈ ps, RI w p.1 p.2 := by
  obtain ⟨A, c, vs, rfl, h1, h2, h3, h4, h5⟩ := h
  have hz : (vs.zip f).length = vs.length := by rw [List.length_zip]; omega
  refine ⟨A, c, vs.zip f, by rw [hz], by rw [hz]; exact h1, by rw [hz]; exact h2, ?_, ?_, fun p hp => ?_⟩
  · rw [List.map_fst_zip (by omega)]; exact h3
  · rw [List.map_snd_zip (by omega)]
  · obtain ⟨j, hj, rfl⟩ := List.getElem_of_mem hp
    rw [List.getElem_zip]
    obtain ⟨E, ce, e1, e2, e3, e4⟩ := h5 j (by omega) (by omega)
    exact ⟨E, ce, e1, e2, e3, e4⟩
theorem RLL.of_pairs {w : World} {A : Option Addr} {c : Nat} {ps : List (Value × List Int)} (h1 : ps.length ≤ c) (h2 : ps.length ≤ 9223372036854775807) (h3 : Row w A (ps.map Prod.fst)) (h4 : ∀ p ∈ ps, RI w p.1 p.2) : RLL w (.slice A ps.length c) (ps.map Prod.snd) := by
  refine ⟨A, c, ps.map Prod.fst, by rw [List.length_map], by rw [List.length_map]; exact h1, by rw [List.length_map]; exact h2, h3, by rw [List.length_map, List.length_map], fun j hj hj' => ?_⟩
  have hj0 : j < ps.length := by rw [List.length_map] at hj; exact hj
  obtain ⟨E, ce, e1, e2, e3, e4⟩ := h4 _ (List.getElem_mem hj0)
  refine ⟨E, ce, ?_, ?_, ?_, ?_⟩
  · rw [List.getElem_map, List.getElem_map]; exact e1
  · rw [List.getElem_map]; exact e2
  · rw [List.getElem_map]; exact e3
  · rw [List.getElem_map]; exact e4
theorem RLL.of_own {w : World} {base : Nat} {v : Value} {ps : List (Value × List Int)} (h : w.ownsRow base 22 1 v ps.length (ps.map Prod.fst)) (h4 : ∀ p ∈ ps, RI w p.1 p.2) : RLL w v (ps.map Prod.snd) := by
  have hl : (ps.map Prod.fst).length = ps.length := List.length_map _
  obtain ⟨A, c, rfl, h1, h2, h3⟩ := own_row (show w.ownsRow base 22 1 v (ps.map Prod.fst).length (ps.map Prod.fst) by rw [hl]; exact h)
  rw [hl] at h1 h2 ⊢
  exact RLL.of_pairs h1 h2 h3 h4

/-- append(out, xs...), both of slices of integers, at one operation. -/
theorem appLL_w {o : Oper} {a : Act} {K : Act → World → Prop} {Q : Exit → Act → World → Prop} {w : World} (s x : Operand)
    (ho : o.op = .call { callee := .builtin .append, args := #[s, x], argTypes := #[23, 23] })
    {base c m n : Nat} {v : Value} {vs us : List Value} {A : Option Addr} (hs : a.eval s = v) (hx : a.eval x = .slice A m c) (hn : n = vs.length) (hm : m = us.length) (hown : w.ownsRow base 22 1 v n vs) (hsrc : Row w A us) (h1 : ∀ u ∈ us, u.oneCell' = true) (hl : n + m ≤ 1000000) (hbase : base ≤ w.heap.size)
    (h : ∀ v' w', w'.ownsRow base 22 1 v' (n + m) (vs ++ us) → w.grownBy w' v.ownBlock → K (a.put o.dst v') w') : o.wp Tryd.prog a w K Q := by
  obtain ⟨i0, hi, hz0, hz1, hz2⟩ := info_parts info_ints
  subst hn hm
  cases A with
  | none =>
    have h5 := hsrc.nil
    subst h5
    have hrun := run_append_none (ty := o.type) Tryd.underlying23 hi hown c
    unfold Oper.wp
    simp [execOp, ho, resolve, invoke, builtin, hs, hx, hrun, Result.andThen]
    exact h v w (by rw [List.append_nil]; exact hown) ⟨rfl, rfl, rfl, Nat.le_refl _, fun _ _ _ => rfl⟩
  | some ad =>
    refine wp_append_own w s x 23 ho base 22 i0 (.slice none 0 0) 1 24 Tryd.underlying23 hi hz0 hz1 hz2 rfl (by decide) v vs.length vs hs hown ad us.length c us hx (by simp) hsrc.cells h1 (by unfold maxLen; omega) (by omega) hbase ?_
    intro v' w' ho' hg _
    exact h v' w' ho' hg
theorem step_appLL {ops : Array Oper} {o : Oper} {a : Act} {K : Act → World → Prop} {Q : Exit → Act → World → Prop} {E : Prop} {w : World} (hgd : o.guard = none) (s x : Operand)
    (ho : o.op = .call { callee := .builtin .append, args := #[s, x], argTypes := #[23, 23] })
    {base c m n : Nat} {v : Value} {vs us : List Value} {A : Option Addr} (hs : a.eval s = v) (hx : a.eval x = .slice A m c) (hn : n = vs.length) (hm : m = us.length) (hown : w.ownsRow base 22 1 v n vs) (hsrc : Row w A us) (h1 : ∀ u ∈ us, u.oneCell' = true) (hl : n + m ≤ 1000000) (hbase : base ≤ w.heap.size)
    (h : ∀ v' w', w'.ownsRow base 22 1 v' (n + m) (vs ++ us) → w.grownBy w' v.ownBlock → K (a.put o.dst v') w') :
    if Region.wanted o (yielded ops a.tmps) = true then Oper.wp Tryd.prog o a w K Q else E := by
  have hw : Region.wanted o (yielded ops a.tmps) = true := by simp [Region.wanted, hgd]
  rw [if_pos hw]
  exact appLL_w s x ho hs hx hn hm hown hsrc h1 hl hbase h
theorem ri_one {w : World} {v : Value} {xs : List Int} (h : RI w v xs) : v.oneCell' = true := by obtain ⟨A, c, rfl, -⟩ := h; rfl
theorem Row.take {w : World} {A : Option Addr} {vs : List Value} (h : Row w A vs) (k : Nat) : Row w A (vs.take k) := fun j hj => by
  rw [List.length_take] at hj
  obtain ⟨ad, e, hc⟩ := h j (by omega)
  exact ⟨ad, e, by rw [hc, List.getElem_take]⟩
theorem Row.drop {w : World} {A : Option Addr} {vs : List Value} (h : Row w A vs) (k c : Nat) (hc : vs.length ≤ c) : Row w (if c = k then A else A.map (·.add (k * 1))) (vs.drop k) := fun j hj => by
  rw [List.length_drop] at hj
  obtain ⟨ad, rfl, he⟩ := h (k + j) (by omega)
  rw [if_neg (by omega)]
  refine ⟨ad.add (k * 1), rfl, ?_⟩
  rw [show (ad.add (k * 1)).add j = ad.add (k + j) by unfold Addr.add; split <;> split <;> split <;> simp_all <;> omega, he]
  simp
end Go.Proofs.YteokoaggkpjdeaaDoor
namespace Go.Proofs.YteokoaggkpjdeaaDoor
open Go.RowKit

theorem Same_refl (r : List Int) (v u : Value) (w : World) (hr : RI w v r) (kr : RI w u r) : Calls Tryd.prog 49 #[v, u] w fun e w' => e = .returned (.bool true) ∧ Ext w w' := by
  have := Same_any r r v u w hr kr
  rw [decide_eq_true rfl] at this
  exact this

theorem JoinV_64 {a b : List Int} (ha : All64 a) (hb : All64 b) : All64 (JoinV a b).1 := by
  by_cases h : (JoinV a b).2 = 0
  · obtain ⟨h1, h2, h3⟩ := JoinV_ok h
    obtain ⟨hB, _⟩ := joinV_both ((mayB_iff a).1 h1) ((mayB_iff b).1 h2) h3
    intro x hx
    exact ((hB.mem x).1 hx).elim (ha x) (hb x)
  · intro x hx
    have : (JoinV a b).1 = [] := by
      unfold JoinV at h ⊢
      split
      · rename_i hm
        rw [if_pos hm] at h
        cases hj : joinV a b with
        | none => rfl
        | some c => rw [hj] at h; simp at h
      · rfl
    rw [this] at hx
    cases hx

theorem cell_new2' (w : World) (x y : Value) (t : TypeId) : (w.alloc (.cells #[x, y] t)).cell? ⟨w.heap.size, 1, none⟩ = some y := by
  unfold World.alloc
  simp [World.cell?]

/-- xs[j:h] -/
theorem slice_mid {P : Program} {t e : TypeId} (ht : P.underlying t = some (.slice e)) {z : Value} {n b : Nat} (hi : (P.info? e).map (fun i => (i.zero, i.size, i.bytes)) = some (some z, n, b)) (A : Option Addr) (l c j : Nat) (hm : j + 1 ≤ c) :
    ∀ W : World, (Instr.slice t (.slice A l c) (some (.int .i64 (j : Int))) (some (.int .i64 ((j : Int) + 1))) none).run P W = .ok (.slice (A.map (·.add (j * n))) 1 (c - j)) W := by
  intro W
  obtain ⟨i, hi, _, hs, _⟩ := info_parts hi
  have hel : P.elem t = e := by simp [Program.elem, ht]
  have hu : P.underlying t = some (.slice (P.elem t)) := by rw [hel]; exact ht
  rw [run_slice_lh W t A l c hu .i64 .i64 (j : Int) ((j : Int) + 1) (Int.natCast_nonneg _) (by omega) (by omega), hel]
  simp [sizeOf, typeInfo, hi, hs, sliced, Result.andThen]
  omega

theorem RLL.mid {w : World} {F : Option Addr} {fc : Nat} {ps : List (Value × List Int)} (h1 : ps.length ≤ fc) (h3 : Row w F (ps.map Prod.fst)) (h4 : ∀ p ∈ ps, RI w p.1 p.2) (j : Nat) (hj : j < ps.length) : RLL w (.slice (F.map (·.add (j * 1))) 1 (fc - j)) [ps[j].2] := by
  have := RLL.of_pairs (w := w) (A := F.map (·.add (j * 1))) (c := fc - j) (ps := [ps[j]]) (by simp; omega) (by simp) (fun m hm => by
    have hm0 : m = 0 := by simpa using hm
    subst hm0
    obtain ⟨ad, rfl, he⟩ := h3 j (by simpa using hj)
    refine ⟨ad.add (j * 1), rfl, ?_⟩
    rw [show (ad.add (j * 1)).add 0 = ad.add j by unfold Addr.add; split <;> simp_all, he]
    simp) (fun p hp => by rw [List.mem_singleton.1 hp]; exact h4 _ (List.getElem_mem hj))
  exact this
theorem RLL.takeN {w : World} {F : Option Addr} {fc : Nat} {ps : List (Value × List Int)} (h1 : ps.length ≤ fc) (h2 : ps.length ≤ 9223372036854775807) (h3 : Row w F (ps.map Prod.fst)) (h4 : ∀ p ∈ ps, RI w p.1 p.2) (j : Nat) (hj : j ≤ ps.length) : RLL w (.slice F j fc) ((ps.map Prod.snd).take j) := by
  have hl : (ps.take j).length = j := by rw [List.length_take]; omega
  have := RLL.of_pairs (w := w) (A := F) (c := fc) (ps := ps.take j) (by omega) (by omega) (by rw [List.map_take]; exact h3.take j) (fun p hp => h4 p (List.mem_of_mem_take hp))
  rw [hl, List.map_take] at this
  exact this

/-- A list of one list of one number. -/
theorem RLL.single {w : World} {v : Value} {x : Int} (h : RLL w v [[x]]) : ∃ ad c E ce, v = .slice (some ad) 1 c ∧ 1 ≤ c ∧ w.cell? ad = some (.slice E 1 ce) ∧ w.cell? (ad.add 0) = some (.slice E 1 ce) ∧ RI w (.slice E 1 ce) [x] := by
  obtain ⟨A, c, vs, rfl, h1, h2, h3, h4, h5⟩ := h
  have hl : vs.length = 1 := h4
  obtain ⟨E, ce, e1, e2, e3, e4⟩ := h5 0 (by omega) (by simp)
  obtain ⟨ad, rfl, he⟩ := h3 0 (by omega)
  rw [e1] at he
  refine ⟨ad, c, E, ce, by rw [hl], by omega, ?_, he, E, ce, rfl, e2, e3, e4⟩
  rwa [show ad.add 0 = ad by unfold Addr.add; split <;> simp_all] at he

theorem point_64' {vs : List Int} {n : Int} : All64 (PointV n vs).1 := by
  by_cases hm : manyB vs = true
  · exact point_64 hm
  · unfold PointV
    rw [if_neg hm]
    intro x hx
    cases hx

set_option maxRecDepth 100000 in
set_option maxHeartbeats 20000000 in
theorem sound_law (f : List (List Int)) (xs : List Int) (q v : Value) (w : World) (f64 : All64L f) (h64 : All64 xs) (fr : RLL w q f) (hr : RI w v xs) (hnil : ∀ c, q = .slice none 0 c → c = 0)
    (hfl : f.length ≤ 5864062014634) (hfb : ∀ c ∈ f, c.length ≤ 17592186043904) (hb : xs.length ≤ 17592186043904) (hG : HasSame w) :
    Calls Tryd.prog 10 #[q, v] w fun e w' => e = .returned (.bool true) ∧ Ext w w' := by
  have ht : f.length ≤ 200 → total ([xs] ++ f) ≤ 9223372036854775807 := fun h200 => by
    have h3 := total_le' (l := [xs] ++ f) (M := 17592186043904) (fun c hc => by
      rcases List.mem_append.1 hc with h | h
      · rw [List.mem_singleton.1 h]; exact hb
      · exact hfb c h)
    have h4 : ([xs] ++ f).length ≤ 202 := by simp; omega
    have h5 : ([xs] ++ f).length * 17592186043904 ≤ 202 * 17592186043904 := Nat.mul_le_mul_right _ h4
    omega
  have hlg := large_any [xs] f [v] w.heap.size q w (w.alloc (.cells #[v] 22)) (Ext.alloc w _) (Nat.le_refl _) (Blk.new w _ [v]) rfl (by simp) (by simp)
    (fun j h h' => by
      match j, h, h' with
      | 0, _, _ => exact hr
      | j + 1, _, h' => exact absurd h' (by simp))
    (fun q hq => by
      obtain ⟨A, c, rfl, -⟩ := hr
      rw [List.mem_singleton.1 hq]; rfl) fr hnil ht hfl
  have HLG := Lib.hid hlg
  have HR := Lib.hid hr
  have FR := Lib.hid fr
  have HG := Lib.hid hG
  have F64 := Lib.hid f64
  obtain ⟨A, c, rfl, h1, h2, h3⟩ := hr
  obtain ⟨F, fc, ps, rfl, f1, f2, f3, f4, f5⟩ := fr.pairs
  clear hlg hG h3 fr ht hfl hfb hnil f64
  have HF3 := Lib.hid f3
  have HF4 := Lib.hid f4
  have HF5 := Lib.hid f5
  cases hlb : largeB [xs] f
  · rw [hlb] at HLG
    have htf : f.length ≤ 200 ∧ total ([xs] ++ f) ≤ 2000 ∧ total f ≤ 2000 := by
      unfold largeB at hlb
      rw [Bool.or_eq_false_iff, decide_eq_false_iff_not, decide_eq_false_iff_not] at hlb
      have h2 : total ([xs] ++ f) = xs.length + total f := by unfold total lens; simp
      omega
    have hpl : ps.length ≤ 200 := by have := congrArg List.length f4; rw [List.length_map] at this; omega
    have HTF := Lib.hid htf
    clear hlb htf f3 f4 f5
    have HU := Lib.hid (fun (w' : World) (he : Ext w w') => Units_any f xs _ _ w' h64 F64.out (HR.out.ext he) (FR.out.ext' he) (fun _ => by have := HTF.out; omega))
    have HM := Lib.hid (fun (w' : World) (he : Ext w w') => refMay_any xs _ w' h64 (HR.out.ext he))
    have HMC := Lib.hid (fun (w' : World) (he : Ext w w') => refMayCnf_any f _ w' F64.out (FR.out.ext' he) (by have := HTF.out; omega))
    by_cases hmk : mayB xs = true ∧ mayCnfB f = true
    · obtain ⟨hm, km⟩ := hmk
      rw [hm] at HM
      rw [km] at HMC
      have hUV : UnitsV f xs = ((unitsL f (f.length + 1) xs).1, (unitsL f (f.length + 1) xs).2, 0) := by unfold UnitsV; rw [if_pos ⟨hm, km⟩]
      rw [hUV] at HU
      obtain ⟨q1, q2, q3⟩ := unitsL_ok km (f.length + 1) xs xs (by have := nh_le f xs; omega) ⟨(mayB_iff xs).1 hm, fun _ => Iff.rfl⟩
      have HMD := Lib.hid (fun p => sound_model (f := f) (a := xs) (p := p) hm km)
      have N64 : ∀ i, All64 (nowL xs ((unitsL f (f.length + 1) xs).1.take i)) := by
        have hst := unitsL_64 F64.out (f.length + 1) xs
        intro i
        induction i with
        | zero => exact h64
        | succ i ih =>
          by_cases hi : i < (unitsL f (f.length + 1) xs).1.length
          · rw [nowL_take _ _ _ hi]
            exact JoinV_64 ih (fun y hy => by rw [List.mem_singleton.1 hy]; exact hst _ (List.mem_map.2 ⟨_, List.getElem_mem hi, rfl⟩))
          · rw [List.take_of_length_le (by omega)]
            rw [List.take_of_length_le (by omega)] at ih
            exact ih
      have hx64 : All64 ((unitsL f (f.length + 1) xs).1.map Prod.fst) := unitsL_64 F64.out (f.length + 1) xs
      have hsl : (unitsL f (f.length + 1) xs).1.length ≤ 1000 := by have := unitsL_len (f := f) (f.length + 1) xs; have := HTF.out.1; omega
      have hxl : xs.length ≤ 65536 := may_len hm
      generalize unitsL f (f.length + 1) xs = U at HU q1 q2 q3 HMD N64 hx64 hsl
      obtain ⟨st, cf⟩ := U
      simp only at HU q1 q2 q3 HMD N64 hx64 hsl
      have HQ1 := Lib.hid q1
      have HQ2 := Lib.hid q2
      have HN64 := Lib.hid N64
      have HX64 := Lib.hid hx64
      have HKM := Lib.hid km
      clear q1 q2 q3 N64 hx64 hUV hm km
      go_enter Tryd.func10, Tryd.ntmps10
      go_wp2_with (first
        | (go_at_call 11; refine HLG.out.mono ?_; rintro e w1 ⟨rfl, hE⟩; have HE1 := Lib.hid hE; clear hE)
        | (go_at_call 34
           refine (HU.out _ HE1.out).mono ?_
           rintro e w2 ⟨v2, rfl, ho, hE⟩
           obtain ⟨SA, sc, rfl, hh⟩ := own_RSt ho
           have HS2 : Hid (RSt w2 (.slice SA st.length sc) st) := Lib.hid (own_RSt ho)
           have HE2 := Lib.hid (HE1.out.trans hE)
           clear ho hE hh)
        | (go_at_call 42
           refine (HM.out _ HE2.out).mono ?_
           rintro e w3 ⟨rfl, hE⟩
           have HE3 := Lib.hid (HE2.out.trans hE)
           have HS3 := Lib.hid (HS2.out.ext hE)
           clear hE)
        | (go_at_call 31
           refine (HMC.out _ HE3.out).mono ?_
           rintro e w4 ⟨rfl, hE⟩
           have HE4 := Lib.hid (HE3.out.trans hE)
           have HS4 := Lib.hid (HS3.out.ext hE)
           clear hE)
        | (go_at_call 13
           refine (cloneI_any _ xs _ (HR.out.ext HE4.out) (by omega)).mono ?_
           rintro e w5 ⟨v5, rfl, ho, hE⟩
           obtain ⟨A5, c5, rfl, -⟩ := ho.reads
           have HN5 := Lib.hid ho.reads
           have HE5 := Lib.hid (HE4.out.trans hE)
           have HS5 := Lib.hid (HS4.out.ext hE)
           clear ho hE))
      go_loopg [8, 56] st.length (fun gn o i wr => ∃ (k : Nat) (Z : Option Addr) (cz : Nat), k ≤ st.length ∧ gn + k = st.length ∧ i = .int .i64 k ∧ o = .slice Z (nowL xs (st.take k)).length cz ∧ Hid (Ext w5 wr ∧ RI wr (.slice Z (nowL xs (st.take k)).length cz) (nowL xs (st.take k))))
      case atStart => exact ⟨0, A5, c5, Nat.zero_le _, by omega, rfl, rfl, Ext.refl _, HN5.out⟩
      case round =>
        obtain ⟨k, Z, cz, hk, hgk, rfl, rfl, HI⟩ := hrel
        obtain ⟨wk, rfl⟩ : ∃ wk : World, wk = wr := ⟨_, rfl⟩
        by_cases hlt : k < st.length
        · obtain ⟨ad, rfl, hc0, hc1⟩ := (HS5.out.ext HI.out.1).at k hlt
          rw [addr_two] at hc1
          obtain ⟨hmn, j, hjf, hp2, hu1, hu2⟩ := HQ1.out k hlt
          have hjp : j < ps.length := by have := congrArg List.length HF4.out; rw [List.length_map] at this; omega
          have hfj : f[j] = ps[j].2 := by
            have : (ps.map Prod.snd)[j]? = some ps[j].2 := by simp [hjp]
            rw [← HF4.out, List.getElem?_eq_getElem hjf] at this
            exact Option.some.inj this
          rw [hp2] at hc1
          obtain ⟨x, hx⟩ : ∃ x, x = st[k].1 := ⟨_, rfl⟩
          rw [← hx] at hc0 hu1
          have hx64 : I64 x := hx ▸ HX64.out _ (List.mem_map.2 ⟨_, List.getElem_mem hlt, rfl⟩)
          have HNX := Lib.hid (nowL_take xs st k hlt)
          rw [← hx] at HNX
          have HW64 := Lib.hid (HN64.out k)
          have HWN := Lib.hid (HN64.out (k + 1))
          rw [HNX.out] at HWN
          generalize hnw : nowL xs (st.take k) = now at HI hu1 hu2 HNX HW64 HWN
          rw [hfj] at hu1
          have HU1 := Lib.hid hu1
          have HU2 := Lib.hid hu2
          have hjb : decide ((j : Int) < 0) = false := by rw [decide_eq_false_iff_not]; omega
          have hjl : decide ((ps.length : Int) ≤ j) = false := by rw [decide_eq_false_iff_not]; omega
          have hs1 := slice_mid Tryd.underlying23 info_ints F ps.length fc j (by omega)
          have hs2 := slice_to Tryd.underlying23 info_ints F ps.length fc j (by omega)
          have HMID : Hid (∀ w', Ext w w' → RLL w' (.slice (F.map (·.add (j * 1))) 1 (fc - j)) [ps[j].2]) := Lib.hid (fun w' he => (RLL.mid (by omega) HF3.out HF5.out j hjp).ext' he)
          have HTAK : Hid (∀ w', Ext w w' → RLL w' (.slice F j fc) (f.take j)) := Lib.hid (fun w' he => by have := (RLL.takeN (fc := fc) (by omega) (by omega) HF3.out HF5.out j (by omega)).ext' he; rw [HF4.out]; exact this)
          obtain ⟨F1, hF1⟩ : ∃ F1, F1 = F.map (·.add (j * 1)) := ⟨_, rfl⟩
          rw [← hF1] at hs1 HMID
          clear hmn hjf hp2 hu1 hu2 hfj hx hF1 hnw
          go_upto_region 10 with fail
          generalize hW : wk.alloc _ = W1
          have a0 : W1.cell? ⟨wk.heap.size, 0, none⟩ = some (.int .i64 x) := by rw [← hW]; exact cell_new2 wk _ _ _
          have a1 : W1.cell? ⟨wk.heap.size, 1, none⟩ = some (.int .i64 j) := by rw [← hW]; exact cell_new2' wk _ _ _
          have HEW : Hid (Ext wk W1) := Lib.hid (hW ▸ Ext.alloc _ _)
          have HE6 : Hid (Ext w W1) := Lib.hid (HE5.out.trans (HI.out.1.trans HEW.out))
          have HNW := Lib.hid (HI.out.2.ext HEW.out)
          have HUA := Lib.hid (fun (w' : World) (he : Ext W1 w') => Under_any now [ps[j].2] _ _ w' HW64.out (fun c hc => by rw [List.mem_singleton.1 hc]; exact F64.out _ (by rw [HF4.out]; exact List.mem_map.2 ⟨_, List.getElem_mem hjp, rfl⟩)) (HNW.out.ext he) (HMID.out _ (HE6.out.trans he)) (fun _ => by
            have h9 := HTF.out.2.2
            have h8 : ps[j].2.length ≤ total f := total_mem (by rw [HF4.out]; exact List.mem_map.2 ⟨_, List.getElem_mem hjp, rfl⟩)
            rw [total_one]
            omega))
          have HUB := Lib.hid (fun (w' : World) (he : Ext W1 w') => Under_any now (f.take j) _ _ w' HW64.out (fun c hc => F64.out c (List.mem_of_mem_take hc)) (HNW.out.ext he) (HTAK.out _ (HE6.out.trans he)) (fun _ => by have := HTF.out.2.2; have := total_take f j; omega))
          rw [HU1.out] at HUA
          have HA0 := Lib.hid a0
          have HA1 := Lib.hid a1
          clear hW HMID HTAK HU1
          go_upto_region 13 with (go_at_call 14
                                  refine (HUA.out _ (Ext.refl _)).mono ?_
                                  rintro e w6 ⟨v6, rfl, ho, hE⟩
                                  obtain ⟨bd, c6, E, ce, rfl, hc6, hb0, hb1, hre⟩ := ho.reads.single
                                  have HRE := Lib.hid hre
                                  have HB0 := Lib.hid hb0
                                  have HB1 := Lib.hid hb1
                                  have HE16 := Lib.hid hE
                                  clear ho hE hb0 hb1 hre)
          have HE7 := Lib.hid (HE6.out.trans HE16.out)
          have hxa : Ext w6 ((w6.alloc (.cells #[.int .i64 x] 3)).drew) := (Ext.alloc w6 _).trans (Ext.drew _)
          have HXA := Lib.hid hxa
          have HNB : Hid (RI ((w6.alloc (.cells #[.int .i64 x] 3)).drew) (.slice (some ⟨w6.heap.size, 0, none⟩) 1 1) [x]) := Lib.hid (((Blk.new w6 3 [.int .i64 x]).RI (xs := [x]) (by simp)).ext (Ext.drew _))
          clear hxa a0 a1
          go_cut [92] from 79 to 92 (fun s wy => s = .bool false ∧ Hid (Ext w6 wy))
          case first =>
            have k1 : w6.cell? ⟨0, 0, none⟩ = some (.func (.func 49) #[] #[]) ∧ w6.cell? bd = some (.slice E 1 ce) ∧ w6.cell? ⟨wk.heap.size, 0, none⟩ = some (.int .i64 x) := ⟨HG.out.ext HE7.out, HB0.out, HE16.out.cell HA0.out⟩
            have k2 : ((w6.alloc (.cells #[.int .i64 x] 3)).drew).cell? ⟨0, 0, none⟩ = some (.func (.func 49) #[] #[]) ∧ ((w6.alloc (.cells #[.int .i64 x] 3)).drew).cell? bd = some (.slice E 1 ce) ∧ ((w6.alloc (.cells #[.int .i64 x] 3)).drew).cell? ⟨wk.heap.size, 0, none⟩ = some (.int .i64 x) := ⟨HXA.out.cell k1.1, HXA.out.cell k1.2.1, HXA.out.cell k1.2.2⟩
            go_region_held3 (fun w' => w'.cell? ⟨0, 0, none⟩ = some (.func (.func 49) #[] #[]) ∧ w'.cell? bd = some (.slice E 1 ce) ∧ w'.cell? ⟨wk.heap.size, 0, none⟩ = some (.int .i64 x)) (first | exact k1 | exact k2 | exact k3 | go_keep) (first
              | (go_simp
                 refine (Same_refl [x] _ _ _ (HRE.out.ext HXA.out) HNB.out).mono ?_
                 rintro e w8 ⟨rfl, hE⟩
                 have HE8 := Lib.hid (HXA.out.trans hE)
                 have k3 : w8.cell? ⟨0, 0, none⟩ = some (.func (.func 49) #[] #[]) ∧ w8.cell? bd = some (.slice E 1 ce) ∧ w8.cell? ⟨wk.heap.size, 0, none⟩ = some (.int .i64 x) := ⟨hE.cell k2.1, hE.cell k2.2.1, hE.cell k2.2.2⟩
                 clear hE))
            go_wp2
            go_meet
            exact ⟨rfl, HE8.out⟩
          case rest =>
            obtain ⟨rfl, HCT⟩ := hcut
            have ca1 : wc.cell? ⟨wk.heap.size, 1, none⟩ = some (.int .i64 j) := HCT.out.cell (HE16.out.cell HA1.out)
            have HW1C : Hid (Ext W1 wc) := Lib.hid (HE16.out.trans HCT.out)
            clear HRE HB0 HB1 HXA HNB HUA
            go_wp2_with (go_at_call 14
                         refine (HUB.out _ HW1C.out).mono ?_
                         rintro e w9 ⟨v9, rfl, ho, hE⟩
                         obtain ⟨A9, c9, ts, rfl, t1, t2, t3, t4, t5⟩ := ho.reads
                         have HT3 := Lib.hid t3
                         have HT4 := Lib.hid t4
                         have HT5 := Lib.hid t5
                         have HE9 := Lib.hid (HW1C.out.trans hE)
                         clear ho hE t3 t4 t5 ca1)
            go_loopg [100] ts.length (fun gn i wr => ∃ m : Nat, m ≤ ts.length ∧ gn + m = ts.length ∧ i = .int .i64 m ∧ w9 = wr)
            case atStart => exact ⟨0, Nat.zero_le _, by omega, rfl, rfl⟩
            case round =>
              obtain ⟨m, hm, hgm, rfl, rfl⟩ := hrel
              by_cases hml : m < ts.length
              · have hmu : m < (UnderV now (f.take j)).length := by have := HT4.out; omega
                obtain ⟨td, rfl, hvm⟩ := HT3.out m hml
                obtain ⟨T, ct, he, e1, e2, -⟩ := HT5.out m hml hmu
                have hl2 := HU2.out _ (List.getElem_mem hmu)
                rw [he] at hvm
                obtain ⟨L, hL⟩ : ∃ L, L = (UnderV now (f.take j))[m].length := ⟨_, rfl⟩
                rw [← hL] at hvm hl2
                have hlb : decide ((L : Int) ≤ 1) = false := by rw [decide_eq_false_iff_not]; omega
                have hlc : ¬ (L : Int) ≤ 1 := by omega
                clear hL he e1 e2
                go_wp2
                go_roundg (ts.length - (m + 1))
                case measure => omega
                case rel => exact ⟨m + 1, by omega, by omega, by go_num, rfl⟩
              · obtain rfl : m = ts.length := by omega
                have ca0 : w9.cell? ⟨wk.heap.size, 0, none⟩ = some (.int .i64 x) := HE9.out.cell HA0.out
                have HE10 : Hid (Ext w9 (w9.alloc (.cells #[.int .i64 x] 3))) := Lib.hid (Ext.alloc w9 _)
                have HNJ : Hid (RI (w9.alloc (.cells #[.int .i64 x] 3)) (.slice (some ⟨w9.heap.size, 0, none⟩) 1 1) [x]) := Lib.hid ((Blk.new w9 3 [.int .i64 x]).RI (xs := [x]) (by simp))
                go_wp2_with (go_at_call 32
                             refine (Join_any now [x] _ _ _ HW64.out (fun y hy => by rw [List.mem_singleton.1 hy]; exact hx64) (HNW.out.ext (HE9.out.trans HE10.out)) HNJ.out).mono ?_
                             rintro e w11 ⟨v11, rfl, ho, hE⟩
                             obtain ⟨A11, c11, rfl, -⟩ := ho.reads
                             have HO11 := Lib.hid ho.reads
                             have HE11 := Lib.hid (HI.out.1.trans (HEW.out.trans (HE9.out.trans (HE10.out.trans hE))))
                             clear ho hE)
                go_roundg (st.length - (k + 1))
                case measure => omega
                case rel => exact ⟨k + 1, A11, c11, by omega, by omega, by go_num, by rw [HNX.out], by rw [HNX.out]; exact ⟨HE11.out, HO11.out⟩⟩
        · obtain rfl : k = st.length := by omega
          have hN := HN64.out st.length
          rw [List.take_length] at HI hN ⊢
          have HW64 := Lib.hid hN
          generalize nowL xs st = now at HI HW64 HQ2 HMD
          have HE6 : Hid (Ext w wk) := Lib.hid (HE5.out.trans HI.out.1)
          have HEND := Lib.hid HQ2.out.2
          have HFIN : Hid (cf = -1 ∨ ¬ cf < 0) := Lib.hid (by rcases HQ2.out.2 with h | ⟨j, _, h, _⟩; exact .inl h; exact .inr (by omega))
          clear hN HQ2 HQ1 HN64
          go_upto_region 23 with fail
          go_cut [133] from 117 to 133 (fun s wy => s = .bool false ∧ Hid (Ext wk wy))
          case first =>
            rcases HEND.out with rfl | ⟨j, hjf, rfl, hcl⟩
            · have b1 : decide ((ps.length : Int) ≤ -1) = false := by rw [decide_eq_false_iff_not]; omega
              go_wp2
              go_meet
              exact ⟨rfl, Ext.refl _⟩
            · have hjp : j < ps.length := by have := congrArg List.length HF4.out; rw [List.length_map] at this; omega
              have hfj : f[j] = ps[j].2 := by
                have : (ps.map Prod.snd)[j]? = some ps[j].2 := by simp [hjp]
                rw [← HF4.out, List.getElem?_eq_getElem hjf] at this
                exact Option.some.inj this
              rw [hfj] at hcl
              obtain ⟨ad, rfl, hvj⟩ := (HF3.out.ext HE6.out) j (by simpa using hjp)
              rw [List.getElem_map] at hvj
              have HRJ := Lib.hid ((HF5.out _ (List.getElem_mem hjp)).ext HE6.out)
              obtain ⟨E, ce, he, -⟩ := HF5.out _ (List.getElem_mem hjp)
              have HCLV := Lib.hid (Clause_any now ps[j].2 _ ps[j].1 wk HW64.out (F64.out _ (by rw [HF4.out]; exact List.mem_map.2 ⟨_, List.getElem_mem hjp, rfl⟩)) HI.out.2 HRJ.out)
              rw [hcl, he] at HCLV
              rw [he] at hvj
              have b1 : decide ((ps.length : Int) ≤ j) = false := by rw [decide_eq_false_iff_not]; omega
              have b2 : decide ((0 : Int) ≤ j) = true := by rw [decide_eq_true_eq]; omega
              clear hfj he hcl hjf
              go_wp2_with (go_at_call 25; refine HCLV.out.mono ?_; rintro e w7 ⟨rfl, hE⟩; have HE7 := Lib.hid hE; clear hE)
              go_meet
              exact ⟨congrArg Value.bool (decide_eq_false (by omega)), HE7.out⟩
          case rest =>
            obtain ⟨rfl, HCT⟩ := hcut
            have HE7 : Hid (Ext w wc) := Lib.hid (HE6.out.trans HCT.out)
            have HNC := Lib.hid (HI.out.2.ext HCT.out)
            have HOV : Hid ((wc.alloc (.cells #[.slice A xs.length c] 22)).ownsRow wc.heap.size 22 1 (.slice (some ⟨wc.heap.size, 0, none⟩) 1 1) 1 [.slice A xs.length c]) := Lib.hid (blk_own (vs := [.slice A xs.length c]) (cur := [.slice A xs.length c]) (c := 1) (Nat.le_refl _) (Blk.new wc 22 [.slice A xs.length c]) (by simp) (by simp [maxLen]) rfl rfl)
            have HOE : Hid (Ext w (wc.alloc (.cells #[.slice A xs.length c] 22))) := Lib.hid (HE7.out.trans (Ext.alloc _ _))
            have HO1 : Hid (∀ u ∈ ps.map Prod.fst, u.oneCell' = true) := Lib.hid (fun u hu => by
              obtain ⟨p, hp, rfl⟩ := List.mem_map.1 hu
              exact ri_one (HF5.out p hp))
            obtain ⟨V, hV⟩ : ∃ V, V = VarsV ([xs] ++ f) := ⟨_, rfl⟩
            have HV64 : Hid (All64 V) := Lib.hid (fun y hy => by
              rw [hV] at hy
              obtain ⟨-, c, _, x, _, e⟩ := (mem_VarsV _ y).1 hy
              rw [← e]
              unfold I64 varOf
              split <;> omega)
            have HVS := Lib.hid (fun (w' : World) (u : Value) (hu : RLL w' u ([xs] ++ f)) => Vars_any ([xs] ++ f) u w' (fun c hc => by
              rcases List.mem_append.1 hc with h | h
              · rw [List.mem_singleton.1 h]; exact h64
              · exact F64.out c h) hu (by have := HTF.out.2.1; omega))
            rw [← hV] at HVS
            clear hV
            have hpf : (ps.map Prod.fst).length = ps.length := List.length_map _
            have HPF := Lib.hid hpf
            clear hpf
            go_upto_region 26 with (first
              | (at_builtin
                 refine wpList_plain rfl fun K hK => appLL_w (.tmp 135) (.tmp 136) rfl (base := wc.heap.size) rfl rfl (n := 1) rfl HPF.out.symm HOV.out (HF3.out.ext HOE.out) HO1.out (by omega) (Ext.alloc wc _).size ?_
                 intro v' w8 hown hg
                 refine hK _ _ ?_
                 have HE8 := Lib.hid (HOE.out.grown hg (fun _ hk => Nat.le_trans HE7.out.size (own_typed HOV.out hk).1))
                 have HRV : Hid (RLL w8 v' ([xs] ++ f)) := Lib.hid (by
                   have := RLL.of_own (ps := (.slice A xs.length c, xs) :: ps) (by simpa [Nat.add_comm] using hown) (fun p hp => by
                     rcases List.mem_cons.1 hp with rfl | hp
                     · exact HR.out.ext HE8.out
                     · exact (HF5.out p hp).ext HE8.out)
                   rw [HF4.out]
                   exact this)
                 have HNC8 := Lib.hid (HNC.out.ext ((Ext.alloc wc _).grown hg (fun _ hk => (own_typed HOV.out hk).1)))
                 clear hown hg hK K)
              | (go_at_call 33
                 refine (HVS.out _ _ HRV.out).mono ?_
                 rintro e w10 ⟨v10, rfl, ho, hE⟩
                 obtain ⟨A10, c10, rfl, -⟩ := ho.reads
                 have HV10 := Lib.hid ho.reads
                 have HE10 := Lib.hid (HE8.out.trans hE)
                 have HN10 := Lib.hid (HNC8.out.ext hE)
                 clear ho hE))
            by_cases hv8 : V.length ≤ 8
            · have b8 : decide ((8 : Int) < V.length) = false := by rw [decide_eq_false_iff_not]; omega
              have hv8' : ¬ (8 : Int) < V.length := by omega
              obtain ⟨N, hN⟩ : ∃ N : Nat, N = 2 ^ V.length := ⟨_, rfl⟩
              have hN2 : N ≤ 256 := by
                rw [hN]
                exact Nat.pow_le_pow_right (n := 2) (by omega) hv8
              have hsh : IntKind.u64.wrap (2 ^ V.length) = (N : Int) := by
                rw [show ((2 : Int) ^ V.length) = ((2 ^ V.length : Nat) : Int) by simp, ← hN]
                exact wraps_u64 _ (by omega) (by omega)
              clear hN
              go_wp2_with fail
              go_loopg [146] N (fun gn i wr => ∃ k : Nat, k ≤ N ∧ gn + k = N ∧ i = .int .u64 k ∧ Hid (Ext w10 wr))
              case atStart => exact ⟨0, Nat.zero_le _, by omega, rfl, Ext.refl _⟩
              case round =>
                clear hsh
                obtain ⟨k, hk, hgk, rfl, HK⟩ := hrel
                obtain ⟨wn, rfl⟩ : ∃ wn : World, wn = wr := ⟨_, rfl⟩
                by_cases hlt : k < N
                · have HPT := Lib.hid (Point_any V k (by omega) (by omega) (.slice A10 V.length c10) wn HV64.out (HV10.out.ext HK.out))
                  have hP64 := point_64' (vs := V) (n := k)
                  generalize PointV k V = PV at HPT hP64
                  obtain ⟨P, pe⟩ := PV
                  simp only at HPT hP64
                  have HP64 := Lib.hid hP64
                  clear hP64
                  have HSA := Lib.hid (fun (w' : World) (u : Value) (he : Ext w w') (hu : RI w' u P) => Sub_any xs P _ u w' h64 HP64.out (HR.out.ext he) hu)
                  have HSN := Lib.hid (fun (w' : World) (u : Value) (he : Ext w10 w') (hu : RI w' u P) => Sub_any now P _ u w' HW64.out HP64.out (HN10.out.ext he) hu)
                  have HCN := Lib.hid (fun (w' : World) (u : Value) (he : Ext w w') (hu : RI w' u P) => Cnf_any P f u _ w' HP64.out F64.out hu (FR.out.ext' he) (fun _ => by have := HTF.out.2.2; omega))
                  have HMP := Lib.hid (HMD.out P)
                  cases hs1 : subB xs P
                  · rw [hs1] at HSA
                    clear hs1
                    go_wp2_with (first
                      | (go_at_call 19
                         refine HPT.out.mono ?_
                         rintro e w12 ⟨v12, rfl, ho, hE⟩
                         have HO12 := Lib.hid ho.reads
                         have HE12 := Lib.hid (HK.out.trans hE)
                         clear ho hE)
                      | (go_at_call 41
                         refine (HSA.out _ _ (HE10.out.trans HE12.out) HO12.out).mono ?_
                         rintro e w13 ⟨rfl, hE⟩
                         have HE13 := Lib.hid (HE12.out.trans hE)
                         clear hE))
                    go_roundg (N - (k + 1))
                    case measure => omega
                    case rel => exact ⟨k + 1, by omega, by omega, by go_num, HE13.out⟩
                  · rw [hs1] at HSA
                    cases hc1 : (CnfV P f == 1)
                    · have HCC := Lib.hid hc1
                      clear hs1 hc1
                      go_wp2_with (first
                        | (go_at_call 19
                           refine HPT.out.mono ?_
                           rintro e w12 ⟨v12, rfl, ho, hE⟩
                           have HO12 := Lib.hid ho.reads
                           have HE12 := Lib.hid (HK.out.trans hE)
                           clear ho hE)
                        | (go_at_call 41
                           refine (HSA.out _ _ (HE10.out.trans HE12.out) HO12.out).mono ?_
                           rintro e w13 ⟨rfl, hE⟩
                           have HE13 := Lib.hid (HE12.out.trans hE)
                           have HO13 := Lib.hid (HO12.out.ext hE)
                           clear hE)
                        | (go_at_call 17
                           refine (HCN.out _ _ (HE10.out.trans HE13.out) HO13.out).mono ?_
                           rintro e w14 ⟨rfl, hE⟩
                           have HE14 := Lib.hid (HE13.out.trans hE)
                           have hcc := HCC.out
                           clear hE))
                      go_roundg (N - (k + 1))
                      case measure => omega
                      case rel => exact ⟨k + 1, by omega, by omega, by go_num, HE14.out⟩
                    · have hcv : CnfV P f = 1 := by simpa using hc1
                      rw [hcv] at HCN
                      obtain ⟨rfl, hsn⟩ := HMP.out hs1 hcv
                      rw [hsn] at HSN
                      clear hs1 hc1 hcv hsn
                      go_wp2_with (first
                        | (go_at_call 19
                           refine HPT.out.mono ?_
                           rintro e w12 ⟨v12, rfl, ho, hE⟩
                           have HO12 := Lib.hid ho.reads
                           have HE12 := Lib.hid (HK.out.trans hE)
                           clear ho hE)
                        | (go_at_call_of 41 (Value.slice A xs.length c)
                           refine (HSA.out _ _ (HE10.out.trans HE12.out) HO12.out).mono ?_
                           rintro e w13 ⟨rfl, hE⟩
                           have HE13 := Lib.hid (HE12.out.trans hE)
                           have HO13 := Lib.hid (HO12.out.ext hE)
                           clear hE)
                        | (go_at_call 17
                           refine (HCN.out _ _ (HE10.out.trans HE13.out) HO13.out).mono ?_
                           rintro e w14 ⟨rfl, hE⟩
                           have HE14 := Lib.hid (HE13.out.trans hE)
                           have HO14 := Lib.hid (HO13.out.ext hE)
                           clear hE)
                        | (go_at_call 41
                           refine (HSN.out _ _ HE14.out HO14.out).mono ?_
                           rintro e w15 ⟨rfl, hE⟩
                           have HE15 := Lib.hid (HE14.out.trans hE)
                           clear hE))
                      go_roundg (N - (k + 1))
                      case measure => omega
                      case rel => exact ⟨k + 1, by omega, by omega, by go_num, HE15.out⟩
                · obtain rfl : k = N := by omega
                  have HE11 := Lib.hid (HE10.out.trans HK.out)
                  go_wp2_with (go_at_call 12; refine (awake_any _ (HG.out.ext HE11.out)).mono ?_; rintro e w16 ⟨rfl, hE⟩; have HE16 := Lib.hid (HE11.out.trans hE); clear hE)
                  go_ret
                  exact ⟨rfl, HE16.out⟩
            · have b8 : decide ((8 : Int) < V.length) = true := by rw [decide_eq_true_eq]; omega
              have hv8' : (8 : Int) < V.length := by omega
              go_wp2_with (go_at_call 12; refine (awake_any _ (HG.out.ext HE10.out)).mono ?_; rintro e w11 ⟨rfl, hE⟩; have HE11 := Lib.hid (HE10.out.trans hE); clear hE)
              go_ret
              exact ⟨rfl, HE11.out⟩
    · have hUV : UnitsV f xs = ([], -1, 2) := by unfold UnitsV; rw [if_neg hmk]
      rw [hUV] at HU
      clear hUV
      cases hm : mayB xs
      · rw [hm] at HM
        clear hm hmk
        go_enter Tryd.func10, Tryd.ntmps10
        go_wp2_with (first
          | (go_at_call 11; refine HLG.out.mono ?_; rintro e w1 ⟨rfl, hE⟩; have HE1 := Lib.hid hE; clear hE)
          | (go_at_call 34
             refine (HU.out _ HE1.out).mono ?_
             rintro e w2 ⟨v2, rfl, ho, hE⟩
             obtain ⟨SA, sc, rfl, hh⟩ := own_RSt ho
             have HE2 := Lib.hid (HE1.out.trans hE)
             clear ho hE hh)
          | (go_at_call 42
             refine (HM.out _ HE2.out).mono ?_
             rintro e w3 ⟨rfl, hE⟩
             have HE3 := Lib.hid (HE2.out.trans hE)
             clear hE)
          | (go_at_call 12; refine (awake_any _ (HG.out.ext HE3.out)).mono ?_; rintro e w16 ⟨rfl, hE⟩; have HE16 := Lib.hid (HE3.out.trans hE); clear hE))
        go_ret
        exact ⟨rfl, HE16.out⟩
      · have km : mayCnfB f = false := by
          cases hk : mayCnfB f
          · rfl
          · exact absurd ⟨hm, hk⟩ hmk
        rw [hm] at HM
        rw [km] at HMC
        clear hm km hmk
        go_enter Tryd.func10, Tryd.ntmps10
        go_wp2_with (first
          | (go_at_call 11; refine HLG.out.mono ?_; rintro e w1 ⟨rfl, hE⟩; have HE1 := Lib.hid hE; clear hE)
          | (go_at_call 34
             refine (HU.out _ HE1.out).mono ?_
             rintro e w2 ⟨v2, rfl, ho, hE⟩
             obtain ⟨SA, sc, rfl, hh⟩ := own_RSt ho
             have HE2 := Lib.hid (HE1.out.trans hE)
             clear ho hE hh)
          | (go_at_call 42
             refine (HM.out _ HE2.out).mono ?_
             rintro e w3 ⟨rfl, hE⟩
             have HE3 := Lib.hid (HE2.out.trans hE)
             clear hE)
          | (go_at_call 31
             refine (HMC.out _ HE3.out).mono ?_
             rintro e w4 ⟨rfl, hE⟩
             have HE4 := Lib.hid (HE3.out.trans hE)
             clear hE)
          | (go_at_call 12; refine (awake_any _ (HG.out.ext HE4.out)).mono ?_; rintro e w16 ⟨rfl, hE⟩; have HE16 := Lib.hid (HE4.out.trans hE); clear hE))
        go_ret
        exact ⟨rfl, HE16.out⟩
  · rw [hlb] at HLG
    clear hlb
    go_enter Tryd.func10, Tryd.ntmps10
    go_wp2_with (first
      | (go_at_call 11; refine HLG.out.mono ?_; rintro e w1 ⟨rfl, hE⟩; have HE1 := Lib.hid hE; clear hE)
      | (go_at_call 12; refine (awake_any _ (HG.out.ext HE1.out)).mono ?_; rintro e w2 ⟨rfl, hE⟩; have HE2 := Lib.hid (HE1.out.trans hE); clear hE))
    go_ret
    exact ⟨rfl, HE2.out⟩
end Go.Proofs.YteokoaggkpjdeaaDoor
