/- Plain facts on a sorted list from which equal neighbours are struck. Sorting and compacting rows of the call's own; walk of lits.Vars. Plain law: points and numbers are inverse. The walk of the law AsgBack. -/
import Derived.Test.YteokoaggkpjdeaaDoorGa
import Derived.Lib.SlicesCompact
import Derived.Sort.Statements
import Derived.Test.YteokoaggkpjdeaaDoorShelf
import Derived.Test.YteokoaggkpjdeaaDoorGf
import Derived.Test.YteokoaggkpjdeaaDoorGe
import Derived.Sort.OwnSortedInts
import Derived.Lib.RowBridge
import Derived.Test.YteokoaggkpjdeaaDoorGgAsgBack
import Derived.Deep.CutRange
import Derived.Deep.RegionHeld3
namespace Go.Proofs.YteokoaggkpjdeaaDoor

theorem compact_upto {lt : Int → Int → Prop} (tri : ∀ a b, lt a b ∨ a = b ∨ lt b a) (trans : ∀ a b c, lt a b → lt b c → lt a c) (zs : List Int) (hs : zs.Pairwise fun a b => ¬ lt b a) :
    ∀ m, m ≤ zs.length → (Lib.compactUpTo zs.toArray m).Pairwise lt ∧ (∀ x, x ∈ Lib.compactUpTo zs.toArray m ↔ x ∈ zs.take m) ∧ ∀ h : 0 < m, ∀ hm : m - 1 < zs.length, ∀ x ∈ Lib.compactUpTo zs.toArray m, x = zs[m - 1] ∨ lt x zs[m - 1]
  | 0, _ => ⟨by simp [Lib.compactUpTo], fun x => by simp [Lib.compactUpTo], fun h => absurd h (Nat.lt_irrefl _)⟩
  | m + 1, hm => by
    obtain ⟨h1, h2, h3⟩ := compact_upto tri trans zs hs m (by omega)
    have hml : m < zs.length := by omega
    have hg : ∀ j (hj : j < zs.length), zs.toArray[j]! = zs[j] := fun j hj => by simp [getElem!_pos, hj]
    rw [Lib.compactUpTo_succ]
    have hlast : ∀ x ∈ Lib.compactUpTo zs.toArray m, x = zs[m] ∨ lt x zs[m] := fun x hx => by
      rcases Nat.eq_zero_or_pos m with h0 | h0
      · subst h0; simp [Lib.compactUpTo] at hx
      · have hm1 : m - 1 < zs.length := by omega
        have hle : ¬ lt zs[m] zs[m - 1] := List.pairwise_iff_getElem.1 hs (m - 1) m hm1 hml (by omega)
        have hle' : zs[m - 1] = zs[m] ∨ lt zs[m - 1] zs[m] := by
          rcases tri zs[m - 1] zs[m] with h | h | h
          · exact .inr h
          · exact .inl h
          · exact absurd h hle
        rcases h3 h0 hm1 x hx with rfl | h4
        · exact hle'
        · rcases hle' with h5 | h5
          · rw [← h5]; exact .inr h4
          · exact .inr (trans _ _ _ h4 h5)
    by_cases hk : Lib.keeps zs.toArray m = true
    · rw [if_pos hk, hg m hml]
      have hne : ∀ x ∈ Lib.compactUpTo zs.toArray m, lt x zs[m] := fun x hx => by
        rcases hlast x hx with rfl | h
        · unfold Lib.keeps at hk
          rw [decide_eq_true_eq] at hk
          rcases hk with h0 | h0
          · subst h0; simp [Lib.compactUpTo] at hx
          · rcases Nat.eq_zero_or_pos m with hz | hz
            · subst hz; simp [Lib.compactUpTo] at hx
            · have hm1 : m - 1 < zs.length := by omega
              rw [hg m hml, hg (m - 1) hm1] at h0
              have hle : ¬ lt zs[m] zs[m - 1] := List.pairwise_iff_getElem.1 hs (m - 1) m hm1 hml (by omega)
              rcases h3 hz hm1 _ hx with h6 | h6
              · exact absurd h6 h0
              · exact absurd h6 hle
        · exact h
      refine ⟨List.pairwise_append.2 ⟨h1, by simp, fun x hx y hy => ?_⟩, fun x => ?_, fun _ _ x hx => ?_⟩
      · rw [List.mem_singleton.1 hy]; exact hne x hx
      · rw [List.mem_append, h2, List.take_succ_eq_append_getElem hml, List.mem_append]
      · simp only [Nat.add_sub_cancel]
        rcases List.mem_append.1 hx with h | h
        · exact .inr (hne x h)
        · exact .inl (List.mem_singleton.1 h)
    · rw [if_neg hk, List.append_nil]
      have hk' : m ≠ 0 ∧ zs.toArray[m]! = zs.toArray[m - 1]! := by
        unfold Lib.keeps at hk
        rw [decide_eq_true_eq, not_or, Classical.not_not] at hk
        exact hk
      have hm1 : m - 1 < zs.length := by omega
      rw [hg m hml, hg (m - 1) hm1] at hk'
      refine ⟨h1, fun x => ?_, fun _ _ x hx => ?_⟩
      · rw [h2, List.take_succ_eq_append_getElem hml, List.mem_append, List.mem_singleton]
        constructor
        · exact .inl
        · rintro (h | rfl)
          · exact h
          · rw [hk'.2, List.mem_take_iff_getElem]
            exact ⟨m - 1, by omega, rfl⟩
      · simp only [Nat.add_sub_cancel]
        exact hlast x hx

theorem compact_strict {lt : Int → Int → Prop} (tri : ∀ a b, lt a b ∨ a = b ∨ lt b a) (trans : ∀ a b c, lt a b → lt b c → lt a c) (zs : List Int) (hs : zs.Pairwise fun a b => ¬ lt b a) :
    (Lib.compact zs).Pairwise lt ∧ ∀ x, x ∈ Lib.compact zs ↔ x ∈ zs := by
  obtain ⟨h1, h2, _⟩ := compact_upto tri trans zs hs zs.length (Nat.le_refl _)
  exact ⟨h1, fun x => by rw [show Lib.compact zs = Lib.compactUpTo zs.toArray zs.length from rfl, h2, List.take_length]⟩

theorem mergeSort_sorted (xs : List Int) : (xs.mergeSort fun x y => decide (x ≤ y)).Pairwise (fun a b => ¬ b < a) :=
  (List.pairwise_mergeSort (le := fun x y => decide (x ≤ y)) (fun a b c h1 h2 => by simp at *; omega) (fun a b => by simp; omega) xs).imp fun h => by simp at h; omega
theorem mem_mergeSort' (xs : List Int) (x : Int) : x ∈ (xs.mergeSort fun x y => decide (x ≤ y)) ↔ x ∈ xs := List.mem_mergeSort

/-- Sorted ascending, each once. -/
def sortC (xs : List Int) : List Int := Lib.compact (xs.mergeSort fun x y => decide (x ≤ y))
theorem sortC_spec (xs : List Int) : (sortC xs).Pairwise (fun a b : Int => a < b) ∧ ∀ x, x ∈ sortC xs ↔ x ∈ xs := by
  obtain ⟨h1, h2⟩ := compact_strict (lt := fun a b : Int => a < b) (fun a b => by omega) (fun a b c h k => by omega) _ (mergeSort_sorted xs)
  exact ⟨h1, fun x => by rw [sortC, h2, mem_mergeSort']⟩
end Go.Proofs.YteokoaggkpjdeaaDoor
namespace Go.Proofs.YteokoaggkpjdeaaDoor
open Go.RowKit

theorem grow_none (w : World) : Sort.grow w #[] = w := by simp [Sort.grow]

theorem Sort_own (xs : List Int) (v : Value) (base : Nat) (w : World) (h : OwnI w base v xs) (hl : xs.length ≤ 100000000) :
    Calls Tryd.prog 66 #[v] w fun e w' => e = .returned (.tuple #[]) ∧ OwnI w' base v (xs.mergeSort fun x y => decide (x ≤ y)) ∧ w.grownBy w' v.ownBlock := by
  have hlen : (xs.mergeSort fun x y => decide (x ≤ y)).length = xs.length := List.length_mergeSort _
  unfold OwnI at h ⊢
  rw [hlen]
  obtain ⟨-, ⟨rfl, h0⟩ | ⟨g, cap, cur, rfl, hb, hg, hn, hm, hs, ht⟩⟩ := h
  · have : xs = [] := List.length_eq_zero_iff.1 h0
    subst this
    refine (Tryd.slices_Sort_int_none none 0 w).mono ?_
    rintro e w' ⟨rfl, rfl⟩
    exact ⟨rfl, by simp [World.ownsRow_nil], ⟨rfl, rfl, rfl, Nat.le_refl _, fun _ _ _ => rfl⟩⟩
  · refine (Tryd.slices_Sort_int g 0 cap xs w (holds_of_blockI hg (by rw [Nat.mul_one] at ht; exact ht)) (Array.getElem?_eq_some_iff.1 hg).1 (by omega)).mono ?_
    rintro e w' ⟨rfl, n, os, rfl⟩
    exact ⟨rfl, ownsRow_sortedI (ss := xs) hlen hb hg hn hm hs, grownBy_sortedI _⟩

theorem own_shorter {w : World} {base : Nat} {e : TypeId} {A : Option Addr} {n m c : Nat} {xs : List Value} (h : w.ownsRow base e 1 (.slice A n c) n xs) (hm : m ≤ n) (hA : A = none → c = 0) : w.ownsRow base e 1 (.slice A m c) m (xs.take m) := by
  obtain ⟨h0, ⟨he, h1⟩ | ⟨g, cap, cur, he, hb, hg, hn, hmx, hs, ht⟩⟩ := h
  · injection he with e1 e2 e3
    subst e1 e2 e3
    have : m = 0 := by omega
    subst this
    exact ⟨by simp, .inl ⟨rfl, rfl⟩⟩
  · injection he with e1 _ e3
    subst e1 e3
    refine ⟨by rw [List.length_take]; omega, .inr ⟨g, c, cur, rfl, hb, hg, by omega, hmx, hs, ?_⟩⟩
    rw [← ht, List.take_take]
    congr 1
    omega

theorem Compact_own (xs : List Int) (v : Value) (base : Nat) (w : World) (h : OwnI w base v xs) (hl : xs.length ≤ 100000000) :
    Calls Tryd.prog 67 #[v] w fun e w' => ∃ v', e = .returned v' ∧ OwnI w' base v' (Lib.compact xs) ∧ w.grownBy w' v.ownBlock ∧ v'.ownBlock = v.ownBlock := by
  have hle := Lib.compact_length_le xs
  unfold OwnI at h ⊢
  obtain ⟨-, ⟨rfl, h0⟩ | ⟨g, cap, cur, rfl, hb, hg, hn, hm, hs, ht⟩⟩ := h
  · have : xs = [] := List.length_eq_zero_iff.1 h0
    subst this
    refine (Tryd.slices_Compact_int_empty none 0 w).mono ?_
    rintro e w' ⟨rfl, rfl⟩
    exact ⟨_, rfl, World.ownsRow_nil _ _ _ 1, ⟨rfl, rfl, rfl, Nat.le_refl _, fun _ _ _ => rfl⟩, rfl⟩
  · have hmx : cap ≤ 9223372036854775807 := by unfold maxLen at hm; exact hm
    refine (Tryd.slices_Compact_int g 0 cap xs w (holds_of_blockI hg (by rw [Nat.mul_one] at ht; exact ht)) (by omega) hn).mono ?_
    rintro e w' ⟨rfl, q, rfl⟩
    have hl2 : (Lib.compact xs ++ List.replicate (xs.length - (Lib.compact xs).length) 0).length = xs.length := by simp; omega
    have h1 := ownsRow_sortedI (n := q) (os := #[]) (ts := Lib.compact xs ++ List.replicate (xs.length - (Lib.compact xs).length) 0) (ss := xs) hl2 hb hg hn hm hs
    rw [grow_none] at h1
    have h2 := own_shorter h1 hle (fun h => by cases h)
    rw [List.map_append, List.take_append_of_le_length (by simp), List.take_of_length_le (by simp)] at h2
    have h3 := grownBy_sortedI (w := w) (g := g) (n := q) (os := #[]) (Lib.compact xs ++ List.replicate (xs.length - (Lib.compact xs).length) 0).toArray
    rw [grow_none] at h3
    exact ⟨_, rfl, h2, h3, rfl⟩

/-- The variables of lists, in the order of the text. -/
def varsOf (c : List Int) : List Int := (c.map varOf).filter fun v => decide (0 < v)
def varsAll (f : List (List Int)) : List Int := f.flatMap varsOf
theorem varsOf_len (c : List Int) : (varsOf c).length ≤ c.length := by
  unfold varsOf
  exact Nat.le_trans (List.length_filter_le _ _) (by simp)
theorem varsAll_len (f : List (List Int)) : (varsAll f).length ≤ total f := by
  unfold varsAll total lens
  rw [List.take_length]
  induction f with
  | nil => simp
  | cons c f ih =>
    rw [List.flatMap_cons, List.length_append, List.map_cons, List.sum_cons]
    have := varsOf_len c
    omega
theorem varsAll_succ (f : List (List Int)) (k : Nat) (hk : k < f.length) : varsAll (f.take (k + 1)) = varsAll (f.take k) ++ varsOf f[k] := by
  unfold varsAll
  rw [List.take_succ_eq_append_getElem hk, List.flatMap_append]; simp
theorem varsOf_succ (c : List Int) (m : Nat) (hm : m < c.length) : varsOf (c.take (m + 1)) = varsOf (c.take m) ++ if 0 < varOf c[m] then [varOf c[m]] else [] := by
  unfold varsOf
  rw [List.take_succ_eq_append_getElem hm, List.map_append, List.filter_append]
  by_cases h : 0 < varOf c[m] <;> simp [h]
theorem sortC_vars (f : List (List Int)) : sortC (varsAll f) = VarsV f := by
  obtain ⟨h1, h2⟩ := sortC_spec (varsAll f)
  refine sorted_ext (r := fun a b : Int => a < b) (fun a b h k => by omega) h1 (varsTo_sorted _ _) fun y => ?_
  rw [h2, mem_VarsV]
  unfold varsAll varsOf
  simp only [List.mem_flatMap, List.mem_filter, List.mem_map, decide_eq_true_eq]
  constructor
  · rintro ⟨c, hc, ⟨x, hx, he⟩, h0⟩
    exact ⟨h0, c, hc, x, hx, he⟩
  · rintro ⟨h0, c, hc, x, hx, he⟩
    exact ⟨c, hc, ⟨x, hx, he⟩, h0⟩

def PostVars' (w : World) (r : List Int) (e : Ending) (w' : World) : Prop := ∃ v', e = .returned v' ∧ OwnI w' w.heap.size v' r ∧ Ext w w'

set_option maxRecDepth 100000 in
set_option maxHeartbeats 4000000 in
theorem Vars_any (f : List (List Int)) (u : Value) (w : World) (h64 : All64L f) (kr : RLL w u f) (ht : total f ≤ 1000000) : Calls Tryd.prog 33 #[u] w (PostVars' w (VarsV f)) := by
  obtain ⟨A, c, vs, rfl, h1, h2, h3, h4, h5⟩ := kr
  have H4 := Lib.hid h4
  have H5 := Lib.hid h5
  have H3 := Lib.hid h3
  have HT := Lib.hid ht
  clear h4 h5 h3 ht
  go_enter Tryd.func33, Tryd.ntmps33
  go_wp2_with fail
  go_loopg [3, 11] vs.length (fun gn o i wr => ∃ k : Nat, k ≤ vs.length ∧ gn + k = vs.length ∧ i = .int .i64 k ∧ Hid (OwnI wr w.heap.size o (varsAll (f.take k)) ∧ Ext w wr))
  case atStart => exact ⟨0, Nat.zero_le _, by omega, rfl, OwnI.nil _ _, Ext.refl _⟩
  case round =>
    obtain ⟨k, hk, hgk, rfl, HS⟩ := hrel
    by_cases hlt : k < vs.length
    · have hkf : k < f.length := by rw [← H4.out]; exact hlt
      obtain ⟨w1, rfl⟩ : ∃ w1 : World, w1 = wr := ⟨_, rfl⟩
      obtain ⟨E, ce, he, he1, he2, he3⟩ := H5.out k hlt hkf
      obtain ⟨L, hL⟩ : ∃ L, L = f[k].length := ⟨_, rfl⟩
      rw [← hL] at he he1 he2
      have HE3 := Lib.hid he3
      have HL := Lib.hid hL
      have hk64 := h64 _ (List.getElem_mem hkf)
      obtain ⟨ad, rfl, hrow⟩ := (H3.out.ext HS.out.2) k hlt
      rw [he] at hrow
      have hbd : (varsAll (f.take k)).length + L ≤ 1000000 := by
        have := lens_succ f k hkf
        have := lens_le f (k + 1)
        have h9 := varsAll_len (f.take k)
        have h10 : total (f.take k) = lens f k := by unfold total lens; rw [List.take_length]
        have := HT.out
        omega
      clear he3 he hL
      go_wp2_with fail
      go_loopg [3, 17] L (fun gn o j wr => ∃ m : Nat, m ≤ L ∧ gn + m = L ∧ j = .int .i64 m ∧ Hid (OwnI wr w.heap.size o (varsAll (f.take k) ++ varsOf (f[k].take m)) ∧ Ext w wr))
      case atStart => exact ⟨0, Nat.zero_le _, by omega, rfl, by simpa [varsOf] using HS.out.1, HS.out.2⟩
      case round =>
        obtain ⟨m, hm, hgm, rfl, HS2⟩ := hrel
        by_cases hml : m < L
        · have hmf : m < f[k].length := by rw [← HL.out]; exact hml
          obtain ⟨bd, rfl, hy⟩ := (HE3.out.ext HS2.out.2).int m hmf
          have hx := hk64 _ (List.getElem_mem hmf)
          have hvs := varsOf_succ f[k] m hmf
          have hvl : (varsAll (f.take k) ++ varsOf (f[k].take m)).length ≤ 10000000 := by
            rw [List.length_append]
            have := varsOf_len (f[k].take m)
            rw [List.length_take] at this
            omega
          obtain ⟨x, hxe⟩ : ∃ x, x = f[k][m] := ⟨_, rfl⟩
          rw [← hxe] at hy hx hvs
          have HX := Lib.hid hxe
          clear hxe
          obtain ⟨w2, rfl⟩ : ∃ w2 : World, w2 = wr := ⟨_, rfl⟩
          by_cases hp : 0 < varOf x
          · rw [if_pos hp] at hvs
            have HVS := Lib.hid hvs
            clear hvs
            go_wp2_with (first
              | (go_at_call 57; refine (var_any x hx _).mono ?_; rintro e w' ⟨rfl, rfl⟩)
              | (at_builtin
                 refine app_1 rfl (.tmp 25) (.tmp 27) rfl (base := w.heap.size) (xs := varsAll (f.take k) ++ varsOf (f[k].take m)) (y := varOf x) rfl rfl HS2.out.1 hvl HS2.out.2.size ?_
                 intro v' w3 hown hg
                 have HOW := Lib.hid hown
                 have HE4 := Lib.hid (hg.toExt HS2.out.2 (fun i hi => (own_typed HS2.out.1 hi.symm).1))
                 clear hown hg))
            go_roundg (L - (m + 1))
            case measure => omega
            case rel => exact ⟨m + 1, by omega, by omega, by go_num, by rw [HVS.out, ← List.append_assoc]; exact HOW.out, HE4.out⟩
          · rw [if_neg hp, List.append_nil] at hvs
            have HVS := Lib.hid hvs
            clear hvs
            go_wp2_with (go_at_call 57; refine (var_any x hx _).mono ?_; rintro e w' ⟨rfl, rfl⟩)
            go_roundg (L - (m + 1))
            case measure => omega
            case rel => exact ⟨m + 1, by omega, by omega, by go_num, by rw [HVS.out]; exact HS2.out.1, HS2.out.2⟩
        · obtain rfl : m = L := by omega
          go_wp2
          go_roundg (vs.length - (k + 1))
          case measure => omega
          case rel => exact ⟨k + 1, by omega, by omega, by go_num, by rw [varsAll_succ f k hkf]; have := HS2.out.1; rw [HL.out, List.take_length] at this; exact this, HS2.out.2⟩
    · obtain rfl : k = vs.length := by omega
      have hsv : OwnI wr w.heap.size u3 (varsAll f) := by have := HS.out.1; rw [H4.out, List.take_length] at this; exact this
      have hE := HS.out.2
      have hvl : (varsAll f).length ≤ 100000000 := by have := varsAll_len f; have := HT.out; omega
      have hml : ((varsAll f).mergeSort fun x y => decide (x ≤ y)).length ≤ 100000000 := by rw [List.length_mergeSort]; exact hvl
      have HSV := Lib.hid hsv
      have HE := Lib.hid hE
      have HSC := Lib.hid (sortC_vars f)
      clear hsv hE HS hgk hk
      go_wp2_with (first
        | (go_at_call 66
           refine (Sort_own _ _ _ _ HSV.out hvl).mono ?_
           rintro e w2 ⟨rfl, ho, hg⟩
           have HO := Lib.hid ho
           have HE2 := Lib.hid (grow_ext HE.out HSV.out hg)
           clear ho hg)
        | (go_at_call 67
           refine (Compact_own _ _ _ _ HO.out hml).mono ?_
           rintro e w3 ⟨v3, rfl, ho, hg, -⟩
           have HO3 := Lib.hid ho
           have HE3 := Lib.hid (grow_ext HE2.out HO.out hg)
           clear ho hg))
      go_ret
      exact ⟨_, rfl, by rw [← HSC.out]; exact HO3.out, HE3.out⟩
end Go.Proofs.YteokoaggkpjdeaaDoor
namespace Go.Proofs.YteokoaggkpjdeaaDoor

theorem emod_double (n q : Int) (hq : 0 < q) : n % (q * 2) = n % q + q * (n / q % 2) := by
  have h1 := Int.mul_ediv_add_emod n q
  have h2 := Int.mul_ediv_add_emod (n / q) 2
  have h3 := Int.emod_nonneg n (show q ≠ 0 by omega)
  have h4 := Int.emod_lt_of_pos n hq
  have h5 : n / q % 2 = 0 ∨ n / q % 2 = 1 := by omega
  generalize n / q % 2 = b at *
  generalize n % q = r at *
  generalize hm : n / q / 2 = m at *
  have e : n = (q * b + r) + q * 2 * m := by
    have : q * (n / q) = q * (2 * m + b) := by rw [h2]
    rw [Int.mul_add, ← Int.mul_assoc] at this
    omega
  have hb : 0 ≤ q * b + r ∧ q * b + r < q * 2 := by
    rcases h5 with rfl | rfl <;> omega
  rw [e, Int.add_mul_emod_self_left, Int.emod_eq_of_lt hb.1 hb.2]
  omega

theorem pow64 {k : Nat} (h : k ≤ 64) : (2 : Int) ^ k ≤ 2 ^ 64 := by
  have := Nat.pow_le_pow_right (n := 2) (by decide) h
  exact_mod_cast this

theorem pointL_len (n : Int) (vs : List Int) : (pointL n vs).length = vs.length := by unfold pointL; rw [pointP_len]
theorem pointL_at (n : Int) (xs : List Int) (i : Nat) (hi : i < xs.length) : (pointL n xs)[i]'(by rw [pointL_len]; exact hi) = if bitOf n i = 0 then -xs[i] else xs[i] := by
  unfold pointL
  rw [pointP_get n xs.length xs i hi]
  by_cases h : bitOf n i = 0
  · rw [if_pos ⟨hi, h⟩, if_pos h]
  · rw [if_neg (fun h' => h h'.2), if_neg h]
theorem pointL_var (n : Int) (vs : List Int) : (pointL n vs).map varOf = vs.map varOf := by
  refine List.ext_getElem (by simp [pointL_len]) fun i h1 h2 => ?_
  have hi : i < vs.length := by simpa using h2
  rw [List.getElem_map, List.getElem_map, pointL_at n vs i hi]
  split
  · rw [varOf_neg]
  · rfl
theorem asc_of_map {xs ys : List Int} (h : Asc ys) (e : xs.map varOf = ys.map varOf) : Asc xs := by
  have h1 := asc_vars h
  rw [← e, List.pairwise_map] at h1
  refine ⟨h1, fun x hx => ?_⟩
  have : varOf x ∈ ys.map varOf := by rw [← e]; exact List.mem_map_of_mem hx
  obtain ⟨y, hy, he⟩ := List.mem_map.1 this
  rw [← he]; exact h.2 y hy
theorem many_asc {vs : List Int} (h : manyB vs = true) : Asc vs := by
  unfold manyB at h
  simp only [Bool.and_eq_true] at h
  exact (mayB_iff _).1 h.1.2
theorem many_var {vs : List Int} (h : manyB vs = true) : vs.map varOf = vs := by
  refine List.ext_getElem (by simp) fun i h1 h2 => ?_
  rw [List.getElem_map]
  have := many_get h i h2
  unfold varOf
  rw [if_pos (by omega)]
  omega

theorem numL_point {vs : List Int} {n : Int} (hm : manyB vs = true) (h0 : 0 ≤ n) (h1 : n < 2 ^ 64) : ∀ k, k ≤ vs.length → numL (pointL n vs) k = n % 2 ^ k
  | 0, _ => by simp [numL, Int.emod_one]
  | k + 1, hk => by
    have hl := many_len hm
    have hkl : k < (pointL n vs).length := by rw [pointL_len]; omega
    obtain ⟨hx0, hx1⟩ := many_get hm k (by omega)
    have hp0 : (0 : Int) < 2 ^ k := Int.pow_pos (by decide)
    rw [numL_succ _ k (by omega), numL_point hm h0 h1 k (by omega), Int.pow_succ, emod_double n _ hp0, getD_int _ k hkl, pointL_at n vs k (by omega)]
    have hb := bitOf_mod h0 h1 k
    rw [show min k 64 = k by omega] at hb
    rcases bit_two h0 h1 k with h | h
    · rw [if_pos h, if_neg (by omega), ← hb, h]; omega
    · have hne : ¬ bitOf n k = 0 := by rw [h]; decide
      rw [if_neg hne, if_pos hx0, ← hb, h]; omega

theorem number_point {vs : List Int} {n : Int} (hm : manyB vs = true) (h0 : 0 ≤ n) (h1 : n < 2 ^ 64) (hr : n / 2 ^ vs.length = 0) : NumberV vs (pointL n vs) = (n, 0) := by
  have hp := asc_of_map (many_asc hm) (pointL_var n vs)
  have hl := many_len hm
  have hp0 : (0 : Int) < 2 ^ vs.length := Int.pow_pos (by decide)
  have hlt : n < 2 ^ vs.length := by
    by_cases h : n < 2 ^ vs.length
    · exact h
    · have := (Int.le_ediv_iff_mul_le hp0).2 (show 1 * 2 ^ vs.length ≤ n by omega)
      omega
  unfold NumberV
  rw [if_pos ⟨hm, (mayB_iff _).2 hp⟩, if_pos, pointL_len, numL_point hm h0 h1 _ (Nat.le_refl _), Int.emod_eq_of_lt h0 hlt]
  rw [eqfB_map, pointL_var, many_var hm]; simp

/-- Point and Number: the law's first half. -/
theorem back_point {vs : List Int} {n : Int} (h0 : 0 ≤ n) (h1 : n < 2 ^ 64) (h : (PointV n vs).2 = 0) :
    NumberV vs (PointV n vs).1 = (n, 0) ∧ VarsV [(PointV n vs).1] = vs ∧ All64 vs ∧ manyB vs = true := by
  unfold PointV at *
  by_cases hm : manyB vs = true
  · rw [if_pos hm] at h ⊢
    by_cases hr : n / 2 ^ vs.length = 0
    · rw [if_pos hr]
      refine ⟨number_point hm h0 h1 hr, ?_, fun x hx => ?_, hm⟩
      · rw [VarsV_one (asc_of_map (many_asc hm) (pointL_var n vs)), pointL_var, many_var hm]
      · obtain ⟨i, hi, rfl⟩ := List.getElem_of_mem hx
        have := many_get hm i hi
        exact ⟨by omega, by omega⟩
    · rw [if_neg hr] at h; simp at h
  · rw [if_neg hm] at h; simp at h
theorem point_none {vs : List Int} {n : Int} (h : (PointV n vs).2 ≠ 0) : (PointV n vs).1 = [] := by
  unfold PointV at *
  by_cases hm : manyB vs = true
  · rw [if_pos hm] at h ⊢
    by_cases hr : n / 2 ^ vs.length = 0
    · rw [if_pos hr] at h; simp at h
    · rw [if_neg hr]
  · rw [if_neg hm]
theorem back_differ {vs : List Int} {n m : Int} (h0 : 0 ≤ n) (h1 : n < 2 ^ 64) (k0 : 0 ≤ m) (k1 : m < 2 ^ 64) (h : (PointV n vs).2 = 0) (k : (PointV m vs).2 = 0) (he : (PointV n vs).1 = (PointV m vs).1) : n = m := by
  have e1 := (back_point h0 h1 h).1
  have e2 := (back_point k0 k1 k).1
  rw [he, e2] at e1
  exact (Prod.mk.inj e1).1.symm

theorem numL_div (xs : List Int) : ∀ (k i : Nat), i < k → k ≤ 64 → numL xs k / 2 ^ i % 2 = if 0 < xs.getD i 0 then 1 else 0
  | 0, i, h, _ => absurd h (Nat.not_lt_zero i)
  | k + 1, i, h, hk => by
    obtain ⟨h1, h2⟩ := numL_range xs k (by omega)
    have hp0 : (0 : Int) < 2 ^ i := Int.pow_pos (by decide)
    rw [numL_succ xs k (by omega)]
    by_cases e : i = k
    · subst e
      split
      · rw [Int.add_ediv_of_dvd_right (Int.dvd_refl _), Int.ediv_eq_zero_of_lt h1 h2, Int.ediv_self (by omega)]; decide
      · rw [Int.add_zero, Int.ediv_eq_zero_of_lt h1 h2]; decide
    · have hik : i < k := by omega
      have ih := numL_div xs k i hik (by omega)
      split
      · obtain ⟨d, hd⟩ : ∃ d, k = i + (d + 1) := ⟨k - i - 1, by omega⟩
        have hpow : (2 : Int) ^ k = 2 ^ i * (2 ^ d * 2) := by rw [hd, Int.pow_add, Int.pow_succ]
        rw [hpow, Int.add_mul_ediv_left _ _ (by omega), Int.add_mul_emod_self_right]
        exact ih
      · rw [Int.add_zero]; exact ih

theorem back_number {vs xs : List Int} (h : (NumberV vs xs).2 = 0) : PointV (NumberV vs xs).1 vs = (xs, 0) ∧ 0 ≤ (NumberV vs xs).1 ∧ (NumberV vs xs).1 < 2 ^ 64 := by
  unfold NumberV at *
  by_cases hm : manyB vs = true ∧ mayB xs = true
  · rw [if_pos hm] at h ⊢
    by_cases he : eqfB (fun v x => v == varOf x) vs xs = true
    · rw [if_pos he]
      rw [eqfB_map] at he
      have he' : vs = xs.map varOf := by simpa using he
      have hlen : vs.length = xs.length := by rw [he']; simp
      have hl := many_len hm.1
      obtain ⟨h1, h2⟩ := numL_range xs xs.length (by omega)
      have h64 := pow64 (k := xs.length) (by omega)
      have ha := (mayB_iff xs).1 hm.2
      refine ⟨?_, h1, by omega⟩
      unfold PointV
      have hz : numL xs xs.length / 2 ^ vs.length = 0 := by rw [hlen]; exact Int.ediv_eq_zero_of_lt h1 h2
      rw [if_pos hm.1, if_pos hz]
      congr 1
      refine List.ext_getElem (by rw [pointL_len]; exact hlen) fun i i1 i2 => ?_
      have hi : i < vs.length := by omega
      rw [pointL_at _ vs i hi, bitOf_mod h1 (by omega), show min i 64 = i by omega, numL_div xs xs.length i i2 (by omega), getD_int xs i i2]
      have hv : vs[i] = varOf xs[i] := by simp only [he', List.getElem_map]
      have hx := ha.2 xs[i] (List.getElem_mem i2)
      have hx' := varOf_eq (n := xs[i]) (by omega)
      rw [hv]
      by_cases hpos : 0 < xs[i]
      · rw [if_pos hpos, if_neg (by decide)]; omega
      · rw [if_neg hpos, if_pos rfl]; omega
    · rw [if_neg he] at h; simp at h
  · rw [if_neg hm] at h; simp at h
theorem number_none {vs xs : List Int} (h : (NumberV vs xs).2 ≠ 0) : (NumberV vs xs).1 = 0 := by
  unfold NumberV at *
  by_cases hm : manyB vs = true ∧ mayB xs = true
  · rw [if_pos hm] at h ⊢
    by_cases he : eqfB (fun v x => v == varOf x) vs xs = true
    · rw [if_pos he] at h; simp at h
    · rw [if_neg he]
  · rw [if_neg hm]


theorem point_len {vs : List Int} {n : Int} (h : (PointV n vs).2 = 0) : (PointV n vs).1.length = vs.length ∧ vs.length ≤ 64 := by
  unfold PointV at *
  by_cases hm : manyB vs = true
  · rw [if_pos hm] at h ⊢
    by_cases hr : n / 2 ^ vs.length = 0
    · rw [if_pos hr]
      exact ⟨pointL_len n vs, many_len hm⟩
    · rw [if_neg hr] at h; simp at h
  · rw [if_neg hm] at h; simp at h

theorem point_64 {vs : List Int} {n : Int} (hm : manyB vs = true) : All64 (PointV n vs).1 := by
  unfold PointV
  rw [if_pos hm]
  split
  · intro x hx
    obtain ⟨i, hi, rfl⟩ := List.getElem_of_mem hx
    have hi' : i < vs.length := by simpa [pointL_len] using hi
    have hg := pointL_at n vs i hi'
    have := many_get hm i hi'
    simp only
    rw [hg]
    unfold I64
    split <;> omega
  · intro x hx; cases hx

end Go.Proofs.YteokoaggkpjdeaaDoor
namespace Go.Proofs.YteokoaggkpjdeaaDoor
open Go.RowKit

theorem Same_is (r q : List Int) (b : Bool) (hb : decide (r = q) = b) (v u : Value) (w : World) (hr : RI w v r) (kr : RI w u q) : Calls Tryd.prog 49 #[v, u] w fun e w' => e = .returned (.bool b) ∧ Ext w w' := by
  have := Same_any r q v u w hr kr
  rw [hb] at this
  exact this

set_option maxRecDepth 100000 in
set_option maxHeartbeats 10000000 in
theorem back_law (vs xs : List Int) (n m : Int) (v u : Value) (w : World) (h64 : All64 vs) (k64 : All64 xs) (hr : RI w v vs) (kr : RI w u xs) (hn0 : 0 ≤ n) (hn1 : n < 18446744073709551616) (hm0 : 0 ≤ m) (hm1 : m < 18446744073709551616) (hG : HasSame w) :
    Calls Tryd.prog 7 #[v, u, .int .u64 n, .int .u64 m] w fun e w' => e = .returned (.bool true) ∧ Ext w w' := by
  have HR := Lib.hid hr
  have KR := Lib.hid kr
  have HG := Lib.hid hG
  have HN0 := Lib.hid hn0
  have HM0 := Lib.hid hm0
  have HN1 := Lib.hid (show n < 2 ^ 64 by omega)
  have HM1 := Lib.hid (show m < 2 ^ 64 by omega)
  obtain ⟨A, c, rfl, h1, h2, h3⟩ := hr
  obtain ⟨B, d, rfl, k1, k2, k3⟩ := kr
  clear hG h3 k3 hn0 hn1 hm0 hm1
  by_cases hv : vs.length ≤ 200
  · have hv' : ¬ (200 : Int) < vs.length := by omega
    by_cases hx : xs.length ≤ 200
    · have hx' : ¬ (200 : Int) < xs.length := by omega
      have HP1 := Lib.hid (Point_any vs n HN0.out (by have := HN1.out; omega) _ w h64 HR.out)
      have HP2 := Lib.hid (fun (w' : World) (he : Ext w w') => Point_any vs m HM0.out (by have := HM1.out; omega) _ w' h64 (HR.out.ext he))
      have HN2 := Lib.hid (fun (w' : World) (he : Ext w w') => Number_any vs xs _ _ w' h64 k64 (HR.out.ext he) (KR.out.ext he))
      by_cases he : (PointV n vs).2 = 0
      · obtain ⟨b1, b2, b3, b4⟩ := back_point HN0.out HN1.out he
        have P64 := point_64 (n := n) b4
        have HPL := Lib.hid (show (PointV n vs).1.length ≤ 1000000 by have := point_len he; omega)
        have HNU := Lib.hid (fun (w' : World) (v1 : Value) (he : Ext w w') (h : RI w' v1 (PointV n vs).1) => Number_any vs (PointV n vs).1 _ v1 w' h64 P64 (HR.out.ext he) h)
        rw [b1] at HNU
        have HB2 := Lib.hid b2
        have hnn : (n != n) = false := by simp
        by_cases hf : (PointV m vs).2 = 0
        · by_cases hnm : n = m
          · subst hnm
            rw [he] at HP1
            rw [he] at HP2
            generalize (PointV n vs).1 = P at HP1 HNU HB2 P64 HPL HP2
            clear he hf b1 b2 b3 b4
            go_enter Tryd.func7, Tryd.ntmps7
            go_upto_region 4 with (go_at_call 19
                                   refine HP1.out.mono ?_
                                   rintro e w1 ⟨v1, rfl, ho, hE⟩
                                   obtain ⟨A1, c1, rfl, -⟩ := ho.reads
                                   have HO1 := Lib.hid ho.reads
                                   have HE1 := Lib.hid hE
                                   clear ho hE)
            go_upto_region 7 with (first
              | (go_at_call 19
                 refine (HP2.out _ HE1.out).mono ?_
                 rintro e w2 ⟨v2, rfl, ho, hE⟩
                 obtain ⟨A2, c2, rfl, -⟩ := ho.reads
                 have HO2 := Lib.hid ho.reads
                 have HE12 := Lib.hid hE
                 have HE2 := Lib.hid (HE1.out.trans hE)
                 clear ho hE)
              | (go_at_call 21
                 refine (HNU.out _ _ HE2.out (HO1.out.ext HE12.out)).mono ?_
                 rintro e w3 ⟨rfl, rfl⟩))
            go_cut [78] from 48 to 78 (fun s wc => s = .bool false ∧ Hid (Ext w2 wc))
            case first =>
              have cg : w2.cell? ⟨0, 0, Option.none⟩ = some (.func (.func 49) #[] #[]) := HG.out.ext HE2.out
              refine wp_region_held_drew (S := (fun w' : World => w'.cell? ⟨0, 0, Option.none⟩ = some (.func (.func 49) #[] #[]))) (by kernel_rfl) ((Ext.drew _).cell cg) (fun hHeld => ?_)
              refine wpAnyH_take (i := 0) (oi := { dst := some 48, op := Go.Op.move (Go.Operand.tmp 14), type := 33, pos := "law.go:176", after := #[], guard := none }) (v := ?v0B) rfl (by kernel_rfl) (by kernel_rfl) (by kernel_rfl) (fun _ _ _ h => h) (Or.inl ⟨by rfl, ?h0B⟩) hHeld ?_
              case h0B => (intro w hSw; (try dsimp only at hSw); go_simp; (try with_reducible rfl))
              try simp only [Act.put, List.setIfInBounds_toArray, List.set_cons_zero, List.set_cons_succ]
              refine wpAnyH_take (i := 1) (oi := { dst := some 49, op := Go.Op.binOp Go.BinOp.neq 33 (Go.Operand.tmp 48) (Go.Operand.const (Go.Value.int Go.IntKind.i64 0)) 33, type := 4, pos := "law.go:176", after := #[{ on := 0, ground := Go.Ground.data }], guard := none }) (v := ?v1B) rfl (by kernel_rfl) (by kernel_rfl) (by kernel_rfl) (fun _ _ _ h => h) (Or.inl ⟨by rfl, ?h1B⟩) hHeld ?_
              case h1B => (intro w hSw; (try dsimp only at hSw); go_simp; (try with_reducible rfl))
              try simp only [Act.put, List.setIfInBounds_toArray, List.set_cons_zero, List.set_cons_succ]
              refine wpAnyH_take (i := 2) (oi := { dst := some 50, op := Go.Op.move (Go.Operand.tmp 49), type := 4, pos := "law.go:176", after := #[{ on := 1, ground := Go.Ground.data }], guard := none }) (v := ?v2B) rfl (by kernel_rfl) (by kernel_rfl) (by kernel_rfl) (fun _ _ _ h => h) (Or.inl ⟨by rfl, ?h2B⟩) hHeld ?_
              case h2B => (intro w hSw; (try dsimp only at hSw); go_simp; (try with_reducible rfl))
              try simp only [Act.put, List.setIfInBounds_toArray, List.set_cons_zero, List.set_cons_succ]
              refine wpAnyH_take (i := 3) (oi := { dst := some 51, op := Go.Op.move (Go.Operand.tmp 13), type := 32, pos := "law.go:176", after := #[{ on := 2, ground := Go.Ground.guard }], guard := some (2, false) }) (v := ?v3B) rfl (by kernel_rfl) (by kernel_rfl) (by kernel_rfl) (fun _ _ _ h => h) (Or.inl ⟨by rfl, ?h3B⟩) hHeld ?_
              case h3B => (intro w hSw; (try dsimp only at hSw); go_simp; (try with_reducible rfl))
              try simp only [Act.put, List.setIfInBounds_toArray, List.set_cons_zero, List.set_cons_succ]
              refine wpAnyH_take (i := 4) (oi := { dst := some 52, op := Go.Op.move (Go.Operand.tmp 2), type := 32, pos := "law.go:176", after := #[{ on := 2, ground := Go.Ground.guard }], guard := some (2, false) }) (v := ?v4B) rfl (by kernel_rfl) (by kernel_rfl) (by kernel_rfl) (fun _ _ _ h => h) (Or.inl ⟨by rfl, ?h4B⟩) hHeld ?_
              case h4B => (intro w hSw; (try dsimp only at hSw); go_simp; (try with_reducible rfl))
              try simp only [Act.put, List.setIfInBounds_toArray, List.set_cons_zero, List.set_cons_succ]
              refine wpAnyH_take (i := 5) (oi := { dst := some 53, op := Go.Op.binOp Go.BinOp.neq 32 (Go.Operand.tmp 51) (Go.Operand.tmp 52) 32, type := 4, pos := "law.go:176", after := #[{ on := 3, ground := Go.Ground.data }, { on := 4, ground := Go.Ground.data }, { on := 2, ground := Go.Ground.guard }], guard := some (2, false) }) (v := ?v5B) rfl (by kernel_rfl) (by kernel_rfl) (by kernel_rfl) (fun _ _ _ h => h) (Or.inl ⟨by rfl, ?h5B⟩) hHeld ?_
              case h5B => (intro w hSw; (try dsimp only at hSw); go_simp; (try with_reducible rfl))
              try simp only [Act.put, List.setIfInBounds_toArray, List.set_cons_zero, List.set_cons_succ]
              refine wpAnyH_take (i := 6) (oi := { dst := some 54, op := Go.Op.pick (Go.Operand.tmp 50) (Go.Operand.const (Go.Value.bool true)) (Go.Operand.tmp 53), type := 4, pos := "law.go:176", after := #[{ on := 2, ground := Go.Ground.data }, { on := 5, ground := Go.Ground.data }], guard := none }) (v := ?v6B) rfl (by kernel_rfl) (by kernel_rfl) (by kernel_rfl) (fun _ _ _ h => h) (Or.inl ⟨by rfl, ?h6B⟩) hHeld ?_
              case h6B => (intro w hSw; (try dsimp only at hSw); go_simp; (try with_reducible rfl))
              try simp only [Act.put, List.setIfInBounds_toArray, List.set_cons_zero, List.set_cons_succ]
              refine wpAnyH_take (i := 7) (oi := { dst := some 55, op := Go.Op.move (Go.Operand.tmp 54), type := 4, pos := "law.go:176", after := #[{ on := 6, ground := Go.Ground.data }, { on := 2, ground := Go.Ground.chain }], guard := none }) (v := ?v7B) rfl (by kernel_rfl) (by kernel_rfl) (by kernel_rfl) (fun _ _ _ h => h) (Or.inl ⟨by rfl, ?h7B⟩) hHeld ?_
              case h7B => (intro w hSw; (try dsimp only at hSw); go_simp; (try with_reducible rfl))
              try simp only [Act.put, List.setIfInBounds_toArray, List.set_cons_zero, List.set_cons_succ]
              refine wpAnyH_take (i := 8) (oi := { dst := some 56, op := Go.Op.load 38 (Go.Operand.global 0), type := 38, pos := "law.go:176", after := #[{ on := 7, ground := Go.Ground.guard }], guard := some (7, false) }) (v := ?v8B) rfl (by kernel_rfl) (by kernel_rfl) (by kernel_rfl) (fun _ _ _ h => h) (Or.inl ⟨by rfl, ?h8B⟩) hHeld ?_
              case h8B => (intro w hSw; (try dsimp only at hSw); go_simp; (try with_reducible rfl))
              try simp only [Act.put, List.setIfInBounds_toArray, List.set_cons_zero, List.set_cons_succ]
              refine wpAnyH_take (i := 9) (oi := { dst := some 57, op := Go.Op.move (Go.Operand.tmp 9), type := 22, pos := "law.go:176", after := #[{ on := 7, ground := Go.Ground.guard }], guard := some (7, false) }) (v := ?v9B) rfl (by kernel_rfl) (by kernel_rfl) (by kernel_rfl) (fun _ _ _ h => h) (Or.inl ⟨by rfl, ?h9B⟩) hHeld ?_
              case h9B => (intro w hSw; (try dsimp only at hSw); go_simp; (try with_reducible rfl))
              try simp only [Act.put, List.setIfInBounds_toArray, List.set_cons_zero, List.set_cons_succ]
              refine wpAnyH_take (i := 12) (oi := { dst := some 60, op := Go.Op.move (Go.Operand.tmp 0), type := 22, pos := "law.go:176", after := #[{ on := 7, ground := Go.Ground.guard }], guard := some (7, false) }) (v := ?v12B) rfl (by kernel_rfl) (by kernel_rfl) (by kernel_rfl) (fun _ _ _ h => h) (Or.inl ⟨by rfl, ?h12B⟩) hHeld ?_
              case h12B => (intro w hSw; (try dsimp only at hSw); go_simp; (try with_reducible rfl))
              try simp only [Act.put, List.setIfInBounds_toArray, List.set_cons_zero, List.set_cons_succ]
              refine wpAnyH_ready (rs := [10]) (by kernel_rfl) (by simp) ?_
              refine AllReadyH.cons (o := { dst := some 58, op := Go.Op.buildSlice 23 1 #[(0, Go.Operand.tmp 57)], type := 23, pos := "law.go:176", after := #[{ on := 9, ground := Go.Ground.data }, { on := 7, ground := Go.Ground.guard }], guard := some (7, false) }) rfl (fun K hK => ?_) AllReadyH.nil
              go_simp
              refine hK.out _ _ (by exact ((Ext.alloc w2 _).trans (Ext.drew _)).cell cg) (fun hHeld => ?_)
              clear hK K
              try simp only [Act.put, List.setIfInBounds_toArray, List.set_cons_zero, List.set_cons_succ]
              refine wpAnyH_ready (rs := [11]) (by kernel_rfl) (by simp) ?_
              refine AllReadyH.cons (o := { dst := some 59, op := Go.Op.call { callee := Go.Callee.value (Go.Operand.func 33), args := #[Go.Operand.tmp 58], argTypes := #[23] }, type := 22, pos := "law.go:176", after := #[{ on := 10, ground := Go.Ground.data }, { on := 7, ground := Go.Ground.chain }, { on := 7, ground := Go.Ground.guard }], guard := some (7, false) }) rfl (fun K hK => ?_) AllReadyH.nil
              go_simp
              refine (Vars_any [P] _ _ (fun c hc => by rw [List.mem_singleton.1 hc]; exact P64) (RLL.ext' (RLL.one (Blk.new w2 22 [.slice A1 P.length c1]) (HO1.out.ext (HE12.out.trans (Ext.alloc _ _)))) (Ext.drew _)) (by simp [total, lens]; have := HPL.out; omega)).mono ?_
              rintro e w4 ⟨v4, rfl, ho, hE⟩
              obtain ⟨A4, c4, rfl, -⟩ := ho.reads
              have HO4 := Lib.hid ho.reads
              have HE24 := Lib.hid (((Ext.alloc w2 _).trans (Ext.drew _)).trans hE)
              clear ho hE
              dsimp only
              refine hK.out _ _ (HG.out.ext (HE2.out.trans HE24.out)) (fun hHeld => ?_)
              clear hK K
              try simp only [Act.put, List.setIfInBounds_toArray, List.set_cons_zero, List.set_cons_succ]
              refine wpAnyH_ready (rs := [13]) (by kernel_rfl) (by simp) ?_
              refine AllReadyH.cons (o := { dst := some 61, op := Go.Op.call { callee := Go.Callee.value (Go.Operand.tmp 56), args := #[Go.Operand.tmp 59, Go.Operand.tmp 60], argTypes := #[22, 22] }, type := 4, pos := "law.go:176", after := #[{ on := 8, ground := Go.Ground.data }, { on := 11, ground := Go.Ground.data }, { on := 12, ground := Go.Ground.data }, { on := 11, ground := Go.Ground.chain }, { on := 7, ground := Go.Ground.guard }], guard := some (7, false) }) rfl (fun K hK => ?_) AllReadyH.nil
              go_simp
              refine (Same_is (VarsV [P]) vs true (by rw [HB2.out]; simp) _ _ _ HO4.out (HR.out.ext (HE2.out.trans HE24.out))).mono ?_
              rintro e w5 ⟨rfl, hE⟩
              have HE25 := Lib.hid (HE24.out.trans hE)
              clear hE
              dsimp only
              refine hK.out _ _ (HG.out.ext (HE2.out.trans HE25.out)) (fun hHeld => ?_)
              clear hK K
              try simp only [Act.put, List.setIfInBounds_toArray, List.set_cons_zero, List.set_cons_succ]
              refine wpAnyH_take (i := 14) (oi := { dst := some 62, op := Go.Op.unOp Go.UnOp.not 4 (Go.Operand.tmp 61), type := 4, pos := "law.go:176", after := #[{ on := 13, ground := Go.Ground.data }, { on := 7, ground := Go.Ground.guard }], guard := some (7, false) }) (v := ?v14B) rfl (by kernel_rfl) (by kernel_rfl) (by kernel_rfl) (fun _ _ _ h => h) (Or.inl ⟨by rfl, ?h14B⟩) hHeld ?_
              case h14B => (intro w hSw; (try dsimp only at hSw); go_simp; (try with_reducible rfl))
              try simp only [Act.put, List.setIfInBounds_toArray, List.set_cons_zero, List.set_cons_succ]
              refine wpAnyH_take (i := 15) (oi := { dst := some 63, op := Go.Op.pick (Go.Operand.tmp 55) (Go.Operand.const (Go.Value.bool true)) (Go.Operand.tmp 62), type := 4, pos := "law.go:176", after := #[{ on := 7, ground := Go.Ground.data }, { on := 14, ground := Go.Ground.data }], guard := none }) (v := ?v15B) rfl (by kernel_rfl) (by kernel_rfl) (by kernel_rfl) (fun _ _ _ h => h) (Or.inl ⟨by rfl, ?h15B⟩) hHeld ?_
              case h15B => (intro w hSw; (try dsimp only at hSw); go_simp; (try with_reducible rfl))
              try simp only [Act.put, List.setIfInBounds_toArray, List.set_cons_zero, List.set_cons_succ]
              refine wpAnyH_take (i := 16) (oi := { dst := some 64, op := Go.Op.move (Go.Operand.tmp 63), type := 4, pos := "law.go:176", after := #[{ on := 15, ground := Go.Ground.data }, { on := 13, ground := Go.Ground.chain }], guard := none }) (v := ?v16B) rfl (by kernel_rfl) (by kernel_rfl) (by kernel_rfl) (fun _ _ _ h => h) (Or.inl ⟨by rfl, ?h16B⟩) hHeld ?_
              case h16B => (intro w hSw; (try dsimp only at hSw); go_simp; (try with_reducible rfl))
              try simp only [Act.put, List.setIfInBounds_toArray, List.set_cons_zero, List.set_cons_succ]
              refine wpAnyH_take (i := 17) (oi := { dst := some 65, op := Go.Op.move (Go.Operand.tmp 12), type := 33, pos := "law.go:176", after := #[{ on := 16, ground := Go.Ground.guard }], guard := some (16, false) }) (v := ?v17B) rfl (by kernel_rfl) (by kernel_rfl) (by kernel_rfl) (fun _ _ _ h => h) (Or.inl ⟨by rfl, ?h17B⟩) hHeld ?_
              case h17B => (intro w hSw; (try dsimp only at hSw); go_simp; (try with_reducible rfl))
              try simp only [Act.put, List.setIfInBounds_toArray, List.set_cons_zero, List.set_cons_succ]
              refine wpAnyH_take (i := 18) (oi := { dst := some 66, op := Go.Op.binOp Go.BinOp.eql 33 (Go.Operand.tmp 65) (Go.Operand.const (Go.Value.int Go.IntKind.i64 0)) 33, type := 4, pos := "law.go:176", after := #[{ on := 17, ground := Go.Ground.data }, { on := 16, ground := Go.Ground.guard }], guard := some (16, false) }) (v := ?v18B) rfl (by kernel_rfl) (by kernel_rfl) (by kernel_rfl) (fun _ _ _ h => h) (Or.inl ⟨by rfl, ?h18B⟩) hHeld ?_
              case h18B => (intro w hSw; (try dsimp only at hSw); go_simp; (try with_reducible rfl))
              try simp only [Act.put, List.setIfInBounds_toArray, List.set_cons_zero, List.set_cons_succ]
              refine wpAnyH_take (i := 19) (oi := { dst := some 67, op := Go.Op.move (Go.Operand.tmp 66), type := 4, pos := "law.go:176", after := #[{ on := 18, ground := Go.Ground.data }, { on := 16, ground := Go.Ground.chain }, { on := 16, ground := Go.Ground.guard }], guard := some (16, false) }) (v := ?v19B) rfl (by kernel_rfl) (by kernel_rfl) (by kernel_rfl) (fun _ _ _ h => h) (Or.inl ⟨by rfl, ?h19B⟩) hHeld ?_
              case h19B => (intro w hSw; (try dsimp only at hSw); go_simp; (try with_reducible rfl))
              try simp only [Act.put, List.setIfInBounds_toArray, List.set_cons_zero, List.set_cons_succ]
              refine wpAnyH_take (i := 20) (oi := { dst := some 68, op := Go.Op.move (Go.Operand.tmp 2), type := 32, pos := "law.go:176", after := #[{ on := 19, ground := Go.Ground.guard }], guard := some (19, true) }) (v := ?v20B) rfl (by kernel_rfl) (by kernel_rfl) (by kernel_rfl) (fun _ _ _ h => h) (Or.inl ⟨by rfl, ?h20B⟩) hHeld ?_
              case h20B => (intro w hSw; (try dsimp only at hSw); go_simp; (try with_reducible rfl))
              try simp only [Act.put, List.setIfInBounds_toArray, List.set_cons_zero, List.set_cons_succ]
              refine wpAnyH_take (i := 21) (oi := { dst := some 69, op := Go.Op.move (Go.Operand.tmp 3), type := 32, pos := "law.go:176", after := #[{ on := 19, ground := Go.Ground.guard }], guard := some (19, true) }) (v := ?v21B) rfl (by kernel_rfl) (by kernel_rfl) (by kernel_rfl) (fun _ _ _ h => h) (Or.inl ⟨by rfl, ?h21B⟩) hHeld ?_
              case h21B => (intro w hSw; (try dsimp only at hSw); go_simp; (try with_reducible rfl))
              try simp only [Act.put, List.setIfInBounds_toArray, List.set_cons_zero, List.set_cons_succ]
              refine wpAnyH_take (i := 22) (oi := { dst := some 70, op := Go.Op.binOp Go.BinOp.neq 32 (Go.Operand.tmp 68) (Go.Operand.tmp 69) 32, type := 4, pos := "law.go:176", after := #[{ on := 20, ground := Go.Ground.data }, { on := 21, ground := Go.Ground.data }, { on := 19, ground := Go.Ground.guard }], guard := some (19, true) }) (v := ?v22B) rfl (by kernel_rfl) (by kernel_rfl) (by kernel_rfl) (fun _ _ _ h => h) (Or.inl ⟨by rfl, ?h22B⟩) hHeld ?_
              case h22B => (intro w hSw; (try dsimp only at hSw); go_simp; (try with_reducible rfl))
              try simp only [Act.put, List.setIfInBounds_toArray, List.set_cons_zero, List.set_cons_succ]
              refine wpAnyH_take (i := 23) (oi := { dst := some 71, op := Go.Op.pick (Go.Operand.tmp 67) (Go.Operand.tmp 70) (Go.Operand.const (Go.Value.bool false)), type := 4, pos := "law.go:176", after := #[{ on := 19, ground := Go.Ground.data }, { on := 22, ground := Go.Ground.data }, { on := 16, ground := Go.Ground.guard }], guard := some (16, false) }) (v := ?v23B) rfl (by kernel_rfl) (by kernel_rfl) (by kernel_rfl) (fun _ _ _ h => h) (Or.inl ⟨by rfl, ?h23B⟩) hHeld ?_
              case h23B => (intro w hSw; (try dsimp only at hSw); go_simp; (try with_reducible rfl))
              try simp only [Act.put, List.setIfInBounds_toArray, List.set_cons_zero, List.set_cons_succ]
              refine wpAnyH_take (i := 24) (oi := { dst := some 72, op := Go.Op.move (Go.Operand.tmp 71), type := 4, pos := "law.go:176", after := #[{ on := 23, ground := Go.Ground.data }, { on := 19, ground := Go.Ground.chain }, { on := 16, ground := Go.Ground.guard }], guard := some (16, false) }) (v := ?v24B) rfl (by kernel_rfl) (by kernel_rfl) (by kernel_rfl) (fun _ _ _ h => h) (Or.inl ⟨by rfl, ?h24B⟩) hHeld ?_
              case h24B => (intro w hSw; (try dsimp only at hSw); go_simp; (try with_reducible rfl))
              try simp only [Act.put, List.setIfInBounds_toArray, List.set_cons_zero, List.set_cons_succ]
              refine wpAnyH_take (i := 25) (oi := { dst := some 73, op := Go.Op.load 38 (Go.Operand.global 0), type := 38, pos := "law.go:176", after := #[{ on := 24, ground := Go.Ground.guard }], guard := some (24, true) }) (v := undef) rfl (by kernel_rfl) (by kernel_rfl) (by kernel_rfl) (fun _ _ _ h => h) (Or.inr ⟨by rfl, rfl⟩) hHeld ?_
              try simp only [Act.put, List.setIfInBounds_toArray, List.set_cons_zero, List.set_cons_succ]
              refine wpAnyH_take (i := 26) (oi := { dst := some 74, op := Go.Op.move (Go.Operand.tmp 9), type := 22, pos := "law.go:176", after := #[{ on := 24, ground := Go.Ground.guard }], guard := some (24, true) }) (v := undef) rfl (by kernel_rfl) (by kernel_rfl) (by kernel_rfl) (fun _ _ _ h => h) (Or.inr ⟨by rfl, rfl⟩) hHeld ?_
              try simp only [Act.put, List.setIfInBounds_toArray, List.set_cons_zero, List.set_cons_succ]
              refine wpAnyH_take (i := 27) (oi := { dst := some 75, op := Go.Op.move (Go.Operand.tmp 11), type := 22, pos := "law.go:176", after := #[{ on := 24, ground := Go.Ground.guard }], guard := some (24, true) }) (v := undef) rfl (by kernel_rfl) (by kernel_rfl) (by kernel_rfl) (fun _ _ _ h => h) (Or.inr ⟨by rfl, rfl⟩) hHeld ?_
              try simp only [Act.put, List.setIfInBounds_toArray, List.set_cons_zero, List.set_cons_succ]
              refine wpAnyH_take (i := 28) (oi := { dst := some 76, op := Go.Op.call { callee := Go.Callee.value (Go.Operand.tmp 73), args := #[Go.Operand.tmp 74, Go.Operand.tmp 75], argTypes := #[22, 22] }, type := 4, pos := "law.go:176", after := #[{ on := 25, ground := Go.Ground.data }, { on := 26, ground := Go.Ground.data }, { on := 27, ground := Go.Ground.data }, { on := 24, ground := Go.Ground.chain }, { on := 24, ground := Go.Ground.guard }], guard := some (24, true) }) (v := undef) rfl (by kernel_rfl) (by kernel_rfl) (by kernel_rfl) (fun _ _ _ h => h) (Or.inr ⟨by rfl, rfl⟩) hHeld ?_
              try simp only [Act.put, List.setIfInBounds_toArray, List.set_cons_zero, List.set_cons_succ]
              refine wpAnyH_take (i := 29) (oi := { dst := some 77, op := Go.Op.pick (Go.Operand.tmp 72) (Go.Operand.tmp 76) (Go.Operand.const (Go.Value.bool false)), type := 4, pos := "law.go:176", after := #[{ on := 24, ground := Go.Ground.data }, { on := 28, ground := Go.Ground.data }, { on := 16, ground := Go.Ground.guard }], guard := some (16, false) }) (v := ?v29B) rfl (by kernel_rfl) (by kernel_rfl) (by kernel_rfl) (fun _ _ _ h => h) (Or.inl ⟨by rfl, ?h29B⟩) hHeld ?_
              case h29B => (intro w hSw; (try dsimp only at hSw); go_simp; (try with_reducible rfl))
              try simp only [Act.put, List.setIfInBounds_toArray, List.set_cons_zero, List.set_cons_succ]
              refine wpAnyH_take (i := 30) (oi := { dst := some 78, op := Go.Op.pick (Go.Operand.tmp 64) (Go.Operand.const (Go.Value.bool true)) (Go.Operand.tmp 77), type := 4, pos := "law.go:176", after := #[{ on := 16, ground := Go.Ground.data }, { on := 29, ground := Go.Ground.data }], guard := none }) (v := ?v30B) rfl (by kernel_rfl) (by kernel_rfl) (by kernel_rfl) (fun _ _ _ h => h) (Or.inl ⟨by rfl, ?h30B⟩) hHeld ?_
              case h30B => (intro w hSw; (try dsimp only at hSw); go_simp; (try with_reducible rfl))
              try simp only [Act.put, List.setIfInBounds_toArray, List.set_cons_zero, List.set_cons_succ]
              refine wpAnyH_done (by kernel_rfl) ?_ _
              go_wp2_with fail
              go_meet
              exact ⟨rfl, HE25⟩
            case rest =>
            obtain ⟨rfl, HC⟩ := hcut
            have HE5 := Lib.hid (HE2.out.trans HC.out)
            clear HC
            by_cases hk : (NumberV vs xs).2 = 0
            · obtain ⟨e1, e2, e3⟩ := back_number hk
              have HP3 := Lib.hid (fun (w' : World) (he : Ext w w') => Point_any vs (NumberV vs xs).1 e2 (by omega) _ w' h64 (HR.out.ext he))
              rw [e1] at HP3
              rw [hk] at HN2
              generalize (NumberV vs xs).1 = kk at HP3 HN2
              clear e1 e2 e3 hk
              go_wp2_with (first
                | (go_at_call 21; refine (HN2.out _ HE5.out).mono ?_; rintro e w' ⟨rfl, rfl⟩)
                | (go_at_call 19
                   refine (HP3.out _ HE5.out).mono ?_
                   rintro e w7 ⟨v7, rfl, ho, hE⟩
                   have HO7 := Lib.hid ho.reads
                   have HE7 := Lib.hid (HE5.out.trans hE)
                   have cg7 : w7.cell? ⟨0, 0, Option.none⟩ = some (.func (.func 49) #[] #[]) := HG.out.ext HE7.out
                   clear ho hE)
                | (go_at_call 49; refine (Same_is xs xs true (by simp) _ _ _ (KR.out.ext HE7.out) HO7.out).mono ?_; rintro e w8 ⟨rfl, hE⟩; have HE8 := Lib.hid (HE7.out.trans hE); clear hE)
                | (go_at_call 12; refine (awake_any _ (HG.out.ext HE8.out)).mono ?_; rintro e w9 ⟨rfl, hE⟩; have HE9 := Lib.hid (HE8.out.trans hE); clear hE))
              go_ret
              exact ⟨rfl, HE9.out⟩
            · have hkb : ((NumberV vs xs).2 != 0) = true := by simpa using hk
              have hk0 := number_none hk
              rw [hk0] at HN2
              generalize (NumberV vs xs).2 = kk at HN2 hkb
              clear hk hk0
              go_wp2_with (first
                | (go_at_call 21; refine (HN2.out _ HE5.out).mono ?_; rintro e w' ⟨rfl, rfl⟩)
                | (go_at_call 12; refine (awake_any _ (HG.out.ext HE5.out)).mono ?_; rintro e w9 ⟨rfl, hE⟩; have HE9 := Lib.hid (HE5.out.trans hE); clear hE))
              go_ret
              exact ⟨rfl, HE9.out⟩
          · have hdf : decide ((PointV n vs).1 = (PointV m vs).1) = false := by
              rw [decide_eq_false_iff_not]
              exact fun e => hnm (back_differ HN0.out HN1.out HM0.out HM1.out he hf e)
            have hnmb : (n != m) = true := by simpa using hnm
            have HDF := Lib.hid hdf
            rw [he] at HP1
            rw [hf] at HP2
            generalize (PointV n vs).1 = P at HP1 HNU HB2 HDF P64 HPL
            generalize (PointV m vs).1 = R at HP2 HDF
            clear hdf hnm he hf b1 b2 b3 b4
            go_enter Tryd.func7, Tryd.ntmps7
            go_upto_region 4 with (go_at_call 19
                                   refine HP1.out.mono ?_
                                   rintro e w1 ⟨v1, rfl, ho, hE⟩
                                   obtain ⟨A1, c1, rfl, -⟩ := ho.reads
                                   have HO1 := Lib.hid ho.reads
                                   have HE1 := Lib.hid hE
                                   clear ho hE)
            go_upto_region 7 with (first
              | (go_at_call 19
                 refine (HP2.out _ HE1.out).mono ?_
                 rintro e w2 ⟨v2, rfl, ho, hE⟩
                 obtain ⟨A2, c2, rfl, -⟩ := ho.reads
                 have HO2 := Lib.hid ho.reads
                 have HE12 := Lib.hid hE
                 have HE2 := Lib.hid (HE1.out.trans hE)
                 clear ho hE)
              | (go_at_call 21
                 refine (HNU.out _ _ HE2.out (HO1.out.ext HE12.out)).mono ?_
                 rintro e w3 ⟨rfl, rfl⟩))
            go_cut [78] from 48 to 78 (fun s wc => s = .bool false ∧ Hid (Ext w2 wc))
            case first =>
              have cg : w2.cell? ⟨0, 0, Option.none⟩ = some (.func (.func 49) #[] #[]) := HG.out.ext HE2.out
              refine wp_region_held_drew (S := (fun w' : World => w'.cell? ⟨0, 0, Option.none⟩ = some (.func (.func 49) #[] #[]))) (by kernel_rfl) ((Ext.drew _).cell cg) (fun hHeld => ?_)
              refine wpAnyH_take (i := 0) (oi := { dst := some 48, op := Go.Op.move (Go.Operand.tmp 14), type := 33, pos := "law.go:176", after := #[], guard := none }) (v := ?v0C) rfl (by kernel_rfl) (by kernel_rfl) (by kernel_rfl) (fun _ _ _ h => h) (Or.inl ⟨by rfl, ?h0C⟩) hHeld ?_
              case h0C => (intro w hSw; (try dsimp only at hSw); go_simp; (try with_reducible rfl))
              try simp only [Act.put, List.setIfInBounds_toArray, List.set_cons_zero, List.set_cons_succ]
              refine wpAnyH_take (i := 1) (oi := { dst := some 49, op := Go.Op.binOp Go.BinOp.neq 33 (Go.Operand.tmp 48) (Go.Operand.const (Go.Value.int Go.IntKind.i64 0)) 33, type := 4, pos := "law.go:176", after := #[{ on := 0, ground := Go.Ground.data }], guard := none }) (v := ?v1C) rfl (by kernel_rfl) (by kernel_rfl) (by kernel_rfl) (fun _ _ _ h => h) (Or.inl ⟨by rfl, ?h1C⟩) hHeld ?_
              case h1C => (intro w hSw; (try dsimp only at hSw); go_simp; (try with_reducible rfl))
              try simp only [Act.put, List.setIfInBounds_toArray, List.set_cons_zero, List.set_cons_succ]
              refine wpAnyH_take (i := 2) (oi := { dst := some 50, op := Go.Op.move (Go.Operand.tmp 49), type := 4, pos := "law.go:176", after := #[{ on := 1, ground := Go.Ground.data }], guard := none }) (v := ?v2C) rfl (by kernel_rfl) (by kernel_rfl) (by kernel_rfl) (fun _ _ _ h => h) (Or.inl ⟨by rfl, ?h2C⟩) hHeld ?_
              case h2C => (intro w hSw; (try dsimp only at hSw); go_simp; (try with_reducible rfl))
              try simp only [Act.put, List.setIfInBounds_toArray, List.set_cons_zero, List.set_cons_succ]
              refine wpAnyH_take (i := 3) (oi := { dst := some 51, op := Go.Op.move (Go.Operand.tmp 13), type := 32, pos := "law.go:176", after := #[{ on := 2, ground := Go.Ground.guard }], guard := some (2, false) }) (v := ?v3C) rfl (by kernel_rfl) (by kernel_rfl) (by kernel_rfl) (fun _ _ _ h => h) (Or.inl ⟨by rfl, ?h3C⟩) hHeld ?_
              case h3C => (intro w hSw; (try dsimp only at hSw); go_simp; (try with_reducible rfl))
              try simp only [Act.put, List.setIfInBounds_toArray, List.set_cons_zero, List.set_cons_succ]
              refine wpAnyH_take (i := 4) (oi := { dst := some 52, op := Go.Op.move (Go.Operand.tmp 2), type := 32, pos := "law.go:176", after := #[{ on := 2, ground := Go.Ground.guard }], guard := some (2, false) }) (v := ?v4C) rfl (by kernel_rfl) (by kernel_rfl) (by kernel_rfl) (fun _ _ _ h => h) (Or.inl ⟨by rfl, ?h4C⟩) hHeld ?_
              case h4C => (intro w hSw; (try dsimp only at hSw); go_simp; (try with_reducible rfl))
              try simp only [Act.put, List.setIfInBounds_toArray, List.set_cons_zero, List.set_cons_succ]
              refine wpAnyH_take (i := 5) (oi := { dst := some 53, op := Go.Op.binOp Go.BinOp.neq 32 (Go.Operand.tmp 51) (Go.Operand.tmp 52) 32, type := 4, pos := "law.go:176", after := #[{ on := 3, ground := Go.Ground.data }, { on := 4, ground := Go.Ground.data }, { on := 2, ground := Go.Ground.guard }], guard := some (2, false) }) (v := ?v5C) rfl (by kernel_rfl) (by kernel_rfl) (by kernel_rfl) (fun _ _ _ h => h) (Or.inl ⟨by rfl, ?h5C⟩) hHeld ?_
              case h5C => (intro w hSw; (try dsimp only at hSw); go_simp; (try with_reducible rfl))
              try simp only [Act.put, List.setIfInBounds_toArray, List.set_cons_zero, List.set_cons_succ]
              refine wpAnyH_take (i := 6) (oi := { dst := some 54, op := Go.Op.pick (Go.Operand.tmp 50) (Go.Operand.const (Go.Value.bool true)) (Go.Operand.tmp 53), type := 4, pos := "law.go:176", after := #[{ on := 2, ground := Go.Ground.data }, { on := 5, ground := Go.Ground.data }], guard := none }) (v := ?v6C) rfl (by kernel_rfl) (by kernel_rfl) (by kernel_rfl) (fun _ _ _ h => h) (Or.inl ⟨by rfl, ?h6C⟩) hHeld ?_
              case h6C => (intro w hSw; (try dsimp only at hSw); go_simp; (try with_reducible rfl))
              try simp only [Act.put, List.setIfInBounds_toArray, List.set_cons_zero, List.set_cons_succ]
              refine wpAnyH_take (i := 7) (oi := { dst := some 55, op := Go.Op.move (Go.Operand.tmp 54), type := 4, pos := "law.go:176", after := #[{ on := 6, ground := Go.Ground.data }, { on := 2, ground := Go.Ground.chain }], guard := none }) (v := ?v7C) rfl (by kernel_rfl) (by kernel_rfl) (by kernel_rfl) (fun _ _ _ h => h) (Or.inl ⟨by rfl, ?h7C⟩) hHeld ?_
              case h7C => (intro w hSw; (try dsimp only at hSw); go_simp; (try with_reducible rfl))
              try simp only [Act.put, List.setIfInBounds_toArray, List.set_cons_zero, List.set_cons_succ]
              refine wpAnyH_take (i := 8) (oi := { dst := some 56, op := Go.Op.load 38 (Go.Operand.global 0), type := 38, pos := "law.go:176", after := #[{ on := 7, ground := Go.Ground.guard }], guard := some (7, false) }) (v := ?v8C) rfl (by kernel_rfl) (by kernel_rfl) (by kernel_rfl) (fun _ _ _ h => h) (Or.inl ⟨by rfl, ?h8C⟩) hHeld ?_
              case h8C => (intro w hSw; (try dsimp only at hSw); go_simp; (try with_reducible rfl))
              try simp only [Act.put, List.setIfInBounds_toArray, List.set_cons_zero, List.set_cons_succ]
              refine wpAnyH_take (i := 9) (oi := { dst := some 57, op := Go.Op.move (Go.Operand.tmp 9), type := 22, pos := "law.go:176", after := #[{ on := 7, ground := Go.Ground.guard }], guard := some (7, false) }) (v := ?v9C) rfl (by kernel_rfl) (by kernel_rfl) (by kernel_rfl) (fun _ _ _ h => h) (Or.inl ⟨by rfl, ?h9C⟩) hHeld ?_
              case h9C => (intro w hSw; (try dsimp only at hSw); go_simp; (try with_reducible rfl))
              try simp only [Act.put, List.setIfInBounds_toArray, List.set_cons_zero, List.set_cons_succ]
              refine wpAnyH_take (i := 12) (oi := { dst := some 60, op := Go.Op.move (Go.Operand.tmp 0), type := 22, pos := "law.go:176", after := #[{ on := 7, ground := Go.Ground.guard }], guard := some (7, false) }) (v := ?v12C) rfl (by kernel_rfl) (by kernel_rfl) (by kernel_rfl) (fun _ _ _ h => h) (Or.inl ⟨by rfl, ?h12C⟩) hHeld ?_
              case h12C => (intro w hSw; (try dsimp only at hSw); go_simp; (try with_reducible rfl))
              try simp only [Act.put, List.setIfInBounds_toArray, List.set_cons_zero, List.set_cons_succ]
              refine wpAnyH_ready (rs := [10]) (by kernel_rfl) (by simp) ?_
              refine AllReadyH.cons (o := { dst := some 58, op := Go.Op.buildSlice 23 1 #[(0, Go.Operand.tmp 57)], type := 23, pos := "law.go:176", after := #[{ on := 9, ground := Go.Ground.data }, { on := 7, ground := Go.Ground.guard }], guard := some (7, false) }) rfl (fun K hK => ?_) AllReadyH.nil
              go_simp
              refine hK.out _ _ (by exact ((Ext.alloc w2 _).trans (Ext.drew _)).cell cg) (fun hHeld => ?_)
              clear hK K
              try simp only [Act.put, List.setIfInBounds_toArray, List.set_cons_zero, List.set_cons_succ]
              refine wpAnyH_ready (rs := [11]) (by kernel_rfl) (by simp) ?_
              refine AllReadyH.cons (o := { dst := some 59, op := Go.Op.call { callee := Go.Callee.value (Go.Operand.func 33), args := #[Go.Operand.tmp 58], argTypes := #[23] }, type := 22, pos := "law.go:176", after := #[{ on := 10, ground := Go.Ground.data }, { on := 7, ground := Go.Ground.chain }, { on := 7, ground := Go.Ground.guard }], guard := some (7, false) }) rfl (fun K hK => ?_) AllReadyH.nil
              go_simp
              refine (Vars_any [P] _ _ (fun c hc => by rw [List.mem_singleton.1 hc]; exact P64) (RLL.ext' (RLL.one (Blk.new w2 22 [.slice A1 P.length c1]) (HO1.out.ext (HE12.out.trans (Ext.alloc _ _)))) (Ext.drew _)) (by simp [total, lens]; have := HPL.out; omega)).mono ?_
              rintro e w4 ⟨v4, rfl, ho, hE⟩
              obtain ⟨A4, c4, rfl, -⟩ := ho.reads
              have HO4 := Lib.hid ho.reads
              have HE24 := Lib.hid (((Ext.alloc w2 _).trans (Ext.drew _)).trans hE)
              clear ho hE
              dsimp only
              refine hK.out _ _ (HG.out.ext (HE2.out.trans HE24.out)) (fun hHeld => ?_)
              clear hK K
              try simp only [Act.put, List.setIfInBounds_toArray, List.set_cons_zero, List.set_cons_succ]
              refine wpAnyH_ready (rs := [13]) (by kernel_rfl) (by simp) ?_
              refine AllReadyH.cons (o := { dst := some 61, op := Go.Op.call { callee := Go.Callee.value (Go.Operand.tmp 56), args := #[Go.Operand.tmp 59, Go.Operand.tmp 60], argTypes := #[22, 22] }, type := 4, pos := "law.go:176", after := #[{ on := 8, ground := Go.Ground.data }, { on := 11, ground := Go.Ground.data }, { on := 12, ground := Go.Ground.data }, { on := 11, ground := Go.Ground.chain }, { on := 7, ground := Go.Ground.guard }], guard := some (7, false) }) rfl (fun K hK => ?_) AllReadyH.nil
              go_simp
              refine (Same_is (VarsV [P]) vs true (by rw [HB2.out]; simp) _ _ _ HO4.out (HR.out.ext (HE2.out.trans HE24.out))).mono ?_
              rintro e w5 ⟨rfl, hE⟩
              have HE25 := Lib.hid (HE24.out.trans hE)
              clear hE
              dsimp only
              refine hK.out _ _ (HG.out.ext (HE2.out.trans HE25.out)) (fun hHeld => ?_)
              clear hK K
              try simp only [Act.put, List.setIfInBounds_toArray, List.set_cons_zero, List.set_cons_succ]
              refine wpAnyH_take (i := 14) (oi := { dst := some 62, op := Go.Op.unOp Go.UnOp.not 4 (Go.Operand.tmp 61), type := 4, pos := "law.go:176", after := #[{ on := 13, ground := Go.Ground.data }, { on := 7, ground := Go.Ground.guard }], guard := some (7, false) }) (v := ?v14C) rfl (by kernel_rfl) (by kernel_rfl) (by kernel_rfl) (fun _ _ _ h => h) (Or.inl ⟨by rfl, ?h14C⟩) hHeld ?_
              case h14C => (intro w hSw; (try dsimp only at hSw); go_simp; (try with_reducible rfl))
              try simp only [Act.put, List.setIfInBounds_toArray, List.set_cons_zero, List.set_cons_succ]
              refine wpAnyH_take (i := 15) (oi := { dst := some 63, op := Go.Op.pick (Go.Operand.tmp 55) (Go.Operand.const (Go.Value.bool true)) (Go.Operand.tmp 62), type := 4, pos := "law.go:176", after := #[{ on := 7, ground := Go.Ground.data }, { on := 14, ground := Go.Ground.data }], guard := none }) (v := ?v15C) rfl (by kernel_rfl) (by kernel_rfl) (by kernel_rfl) (fun _ _ _ h => h) (Or.inl ⟨by rfl, ?h15C⟩) hHeld ?_
              case h15C => (intro w hSw; (try dsimp only at hSw); go_simp; (try with_reducible rfl))
              try simp only [Act.put, List.setIfInBounds_toArray, List.set_cons_zero, List.set_cons_succ]
              refine wpAnyH_take (i := 16) (oi := { dst := some 64, op := Go.Op.move (Go.Operand.tmp 63), type := 4, pos := "law.go:176", after := #[{ on := 15, ground := Go.Ground.data }, { on := 13, ground := Go.Ground.chain }], guard := none }) (v := ?v16C) rfl (by kernel_rfl) (by kernel_rfl) (by kernel_rfl) (fun _ _ _ h => h) (Or.inl ⟨by rfl, ?h16C⟩) hHeld ?_
              case h16C => (intro w hSw; (try dsimp only at hSw); go_simp; (try with_reducible rfl))
              try simp only [Act.put, List.setIfInBounds_toArray, List.set_cons_zero, List.set_cons_succ]
              refine wpAnyH_take (i := 17) (oi := { dst := some 65, op := Go.Op.move (Go.Operand.tmp 12), type := 33, pos := "law.go:176", after := #[{ on := 16, ground := Go.Ground.guard }], guard := some (16, false) }) (v := ?v17C) rfl (by kernel_rfl) (by kernel_rfl) (by kernel_rfl) (fun _ _ _ h => h) (Or.inl ⟨by rfl, ?h17C⟩) hHeld ?_
              case h17C => (intro w hSw; (try dsimp only at hSw); go_simp; (try with_reducible rfl))
              try simp only [Act.put, List.setIfInBounds_toArray, List.set_cons_zero, List.set_cons_succ]
              refine wpAnyH_take (i := 18) (oi := { dst := some 66, op := Go.Op.binOp Go.BinOp.eql 33 (Go.Operand.tmp 65) (Go.Operand.const (Go.Value.int Go.IntKind.i64 0)) 33, type := 4, pos := "law.go:176", after := #[{ on := 17, ground := Go.Ground.data }, { on := 16, ground := Go.Ground.guard }], guard := some (16, false) }) (v := ?v18C) rfl (by kernel_rfl) (by kernel_rfl) (by kernel_rfl) (fun _ _ _ h => h) (Or.inl ⟨by rfl, ?h18C⟩) hHeld ?_
              case h18C => (intro w hSw; (try dsimp only at hSw); go_simp; (try with_reducible rfl))
              try simp only [Act.put, List.setIfInBounds_toArray, List.set_cons_zero, List.set_cons_succ]
              refine wpAnyH_take (i := 19) (oi := { dst := some 67, op := Go.Op.move (Go.Operand.tmp 66), type := 4, pos := "law.go:176", after := #[{ on := 18, ground := Go.Ground.data }, { on := 16, ground := Go.Ground.chain }, { on := 16, ground := Go.Ground.guard }], guard := some (16, false) }) (v := ?v19C) rfl (by kernel_rfl) (by kernel_rfl) (by kernel_rfl) (fun _ _ _ h => h) (Or.inl ⟨by rfl, ?h19C⟩) hHeld ?_
              case h19C => (intro w hSw; (try dsimp only at hSw); go_simp; (try with_reducible rfl))
              try simp only [Act.put, List.setIfInBounds_toArray, List.set_cons_zero, List.set_cons_succ]
              refine wpAnyH_take (i := 20) (oi := { dst := some 68, op := Go.Op.move (Go.Operand.tmp 2), type := 32, pos := "law.go:176", after := #[{ on := 19, ground := Go.Ground.guard }], guard := some (19, true) }) (v := ?v20C) rfl (by kernel_rfl) (by kernel_rfl) (by kernel_rfl) (fun _ _ _ h => h) (Or.inl ⟨by rfl, ?h20C⟩) hHeld ?_
              case h20C => (intro w hSw; (try dsimp only at hSw); go_simp; (try with_reducible rfl))
              try simp only [Act.put, List.setIfInBounds_toArray, List.set_cons_zero, List.set_cons_succ]
              refine wpAnyH_take (i := 21) (oi := { dst := some 69, op := Go.Op.move (Go.Operand.tmp 3), type := 32, pos := "law.go:176", after := #[{ on := 19, ground := Go.Ground.guard }], guard := some (19, true) }) (v := ?v21C) rfl (by kernel_rfl) (by kernel_rfl) (by kernel_rfl) (fun _ _ _ h => h) (Or.inl ⟨by rfl, ?h21C⟩) hHeld ?_
              case h21C => (intro w hSw; (try dsimp only at hSw); go_simp; (try with_reducible rfl))
              try simp only [Act.put, List.setIfInBounds_toArray, List.set_cons_zero, List.set_cons_succ]
              refine wpAnyH_take (i := 22) (oi := { dst := some 70, op := Go.Op.binOp Go.BinOp.neq 32 (Go.Operand.tmp 68) (Go.Operand.tmp 69) 32, type := 4, pos := "law.go:176", after := #[{ on := 20, ground := Go.Ground.data }, { on := 21, ground := Go.Ground.data }, { on := 19, ground := Go.Ground.guard }], guard := some (19, true) }) (v := ?v22C) rfl (by kernel_rfl) (by kernel_rfl) (by kernel_rfl) (fun _ _ _ h => h) (Or.inl ⟨by rfl, ?h22C⟩) hHeld ?_
              case h22C => (intro w hSw; (try dsimp only at hSw); go_simp; (try with_reducible rfl))
              try simp only [Act.put, List.setIfInBounds_toArray, List.set_cons_zero, List.set_cons_succ]
              refine wpAnyH_take (i := 23) (oi := { dst := some 71, op := Go.Op.pick (Go.Operand.tmp 67) (Go.Operand.tmp 70) (Go.Operand.const (Go.Value.bool false)), type := 4, pos := "law.go:176", after := #[{ on := 19, ground := Go.Ground.data }, { on := 22, ground := Go.Ground.data }, { on := 16, ground := Go.Ground.guard }], guard := some (16, false) }) (v := ?v23C) rfl (by kernel_rfl) (by kernel_rfl) (by kernel_rfl) (fun _ _ _ h => h) (Or.inl ⟨by rfl, ?h23C⟩) hHeld ?_
              case h23C => (intro w hSw; (try dsimp only at hSw); go_simp; (try with_reducible rfl))
              try simp only [Act.put, List.setIfInBounds_toArray, List.set_cons_zero, List.set_cons_succ]
              refine wpAnyH_take (i := 24) (oi := { dst := some 72, op := Go.Op.move (Go.Operand.tmp 71), type := 4, pos := "law.go:176", after := #[{ on := 23, ground := Go.Ground.data }, { on := 19, ground := Go.Ground.chain }, { on := 16, ground := Go.Ground.guard }], guard := some (16, false) }) (v := ?v24C) rfl (by kernel_rfl) (by kernel_rfl) (by kernel_rfl) (fun _ _ _ h => h) (Or.inl ⟨by rfl, ?h24C⟩) hHeld ?_
              case h24C => (intro w hSw; (try dsimp only at hSw); go_simp; (try with_reducible rfl))
              try simp only [Act.put, List.setIfInBounds_toArray, List.set_cons_zero, List.set_cons_succ]
              refine wpAnyH_take (i := 25) (oi := { dst := some 73, op := Go.Op.load 38 (Go.Operand.global 0), type := 38, pos := "law.go:176", after := #[{ on := 24, ground := Go.Ground.guard }], guard := some (24, true) }) (v := ?v25C) rfl (by kernel_rfl) (by kernel_rfl) (by kernel_rfl) (fun _ _ _ h => h) (Or.inl ⟨by rfl, ?h25C⟩) hHeld ?_
              case h25C => (intro w hSw; (try dsimp only at hSw); go_simp; (try with_reducible rfl))
              try simp only [Act.put, List.setIfInBounds_toArray, List.set_cons_zero, List.set_cons_succ]
              refine wpAnyH_take (i := 26) (oi := { dst := some 74, op := Go.Op.move (Go.Operand.tmp 9), type := 22, pos := "law.go:176", after := #[{ on := 24, ground := Go.Ground.guard }], guard := some (24, true) }) (v := ?v26C) rfl (by kernel_rfl) (by kernel_rfl) (by kernel_rfl) (fun _ _ _ h => h) (Or.inl ⟨by rfl, ?h26C⟩) hHeld ?_
              case h26C => (intro w hSw; (try dsimp only at hSw); go_simp; (try with_reducible rfl))
              try simp only [Act.put, List.setIfInBounds_toArray, List.set_cons_zero, List.set_cons_succ]
              refine wpAnyH_take (i := 27) (oi := { dst := some 75, op := Go.Op.move (Go.Operand.tmp 11), type := 22, pos := "law.go:176", after := #[{ on := 24, ground := Go.Ground.guard }], guard := some (24, true) }) (v := ?v27C) rfl (by kernel_rfl) (by kernel_rfl) (by kernel_rfl) (fun _ _ _ h => h) (Or.inl ⟨by rfl, ?h27C⟩) hHeld ?_
              case h27C => (intro w hSw; (try dsimp only at hSw); go_simp; (try with_reducible rfl))
              try simp only [Act.put, List.setIfInBounds_toArray, List.set_cons_zero, List.set_cons_succ]
              refine wpAnyH_ready (rs := [28]) (by kernel_rfl) (by simp) ?_
              refine AllReadyH.cons (o := { dst := some 76, op := Go.Op.call { callee := Go.Callee.value (Go.Operand.tmp 73), args := #[Go.Operand.tmp 74, Go.Operand.tmp 75], argTypes := #[22, 22] }, type := 4, pos := "law.go:176", after := #[{ on := 25, ground := Go.Ground.data }, { on := 26, ground := Go.Ground.data }, { on := 27, ground := Go.Ground.data }, { on := 24, ground := Go.Ground.chain }, { on := 24, ground := Go.Ground.guard }], guard := some (24, true) }) rfl (fun K hK => ?_) AllReadyH.nil
              go_simp
              refine (Same_is P R false HDF.out _ _ _ (HO1.out.ext (HE12.out.trans HE25.out)) (HO2.out.ext HE25.out)).mono ?_
              rintro e w6 ⟨rfl, hE⟩
              have HE26 := Lib.hid (HE25.out.trans hE)
              clear hE
              dsimp only
              refine hK.out _ _ (HG.out.ext (HE2.out.trans HE26.out)) (fun hHeld => ?_)
              clear hK K
              try simp only [Act.put, List.setIfInBounds_toArray, List.set_cons_zero, List.set_cons_succ]
              refine wpAnyH_take (i := 29) (oi := { dst := some 77, op := Go.Op.pick (Go.Operand.tmp 72) (Go.Operand.tmp 76) (Go.Operand.const (Go.Value.bool false)), type := 4, pos := "law.go:176", after := #[{ on := 24, ground := Go.Ground.data }, { on := 28, ground := Go.Ground.data }, { on := 16, ground := Go.Ground.guard }], guard := some (16, false) }) (v := ?v29C) rfl (by kernel_rfl) (by kernel_rfl) (by kernel_rfl) (fun _ _ _ h => h) (Or.inl ⟨by rfl, ?h29C⟩) hHeld ?_
              case h29C => (intro w hSw; (try dsimp only at hSw); go_simp; (try with_reducible rfl))
              try simp only [Act.put, List.setIfInBounds_toArray, List.set_cons_zero, List.set_cons_succ]
              refine wpAnyH_take (i := 30) (oi := { dst := some 78, op := Go.Op.pick (Go.Operand.tmp 64) (Go.Operand.const (Go.Value.bool true)) (Go.Operand.tmp 77), type := 4, pos := "law.go:176", after := #[{ on := 16, ground := Go.Ground.data }, { on := 29, ground := Go.Ground.data }], guard := none }) (v := ?v30C) rfl (by kernel_rfl) (by kernel_rfl) (by kernel_rfl) (fun _ _ _ h => h) (Or.inl ⟨by rfl, ?h30C⟩) hHeld ?_
              case h30C => (intro w hSw; (try dsimp only at hSw); go_simp; (try with_reducible rfl))
              try simp only [Act.put, List.setIfInBounds_toArray, List.set_cons_zero, List.set_cons_succ]
              refine wpAnyH_done (by kernel_rfl) ?_ _
              go_wp2_with fail
              go_meet
              exact ⟨rfl, HE26⟩
            case rest =>
            obtain ⟨rfl, HC⟩ := hcut
            have HE5 := Lib.hid (HE2.out.trans HC.out)
            clear HC
            by_cases hk : (NumberV vs xs).2 = 0
            · obtain ⟨e1, e2, e3⟩ := back_number hk
              have HP3 := Lib.hid (fun (w' : World) (he : Ext w w') => Point_any vs (NumberV vs xs).1 e2 (by omega) _ w' h64 (HR.out.ext he))
              rw [e1] at HP3
              rw [hk] at HN2
              generalize (NumberV vs xs).1 = kk at HP3 HN2
              clear e1 e2 e3 hk
              go_wp2_with (first
                | (go_at_call 21; refine (HN2.out _ HE5.out).mono ?_; rintro e w' ⟨rfl, rfl⟩)
                | (go_at_call 19
                   refine (HP3.out _ HE5.out).mono ?_
                   rintro e w7 ⟨v7, rfl, ho, hE⟩
                   have HO7 := Lib.hid ho.reads
                   have HE7 := Lib.hid (HE5.out.trans hE)
                   have cg7 : w7.cell? ⟨0, 0, Option.none⟩ = some (.func (.func 49) #[] #[]) := HG.out.ext HE7.out
                   clear ho hE)
                | (go_at_call 49; refine (Same_is xs xs true (by simp) _ _ _ (KR.out.ext HE7.out) HO7.out).mono ?_; rintro e w8 ⟨rfl, hE⟩; have HE8 := Lib.hid (HE7.out.trans hE); clear hE)
                | (go_at_call 12; refine (awake_any _ (HG.out.ext HE8.out)).mono ?_; rintro e w9 ⟨rfl, hE⟩; have HE9 := Lib.hid (HE8.out.trans hE); clear hE))
              go_ret
              exact ⟨rfl, HE9.out⟩
            · have hkb : ((NumberV vs xs).2 != 0) = true := by simpa using hk
              have hk0 := number_none hk
              rw [hk0] at HN2
              generalize (NumberV vs xs).2 = kk at HN2 hkb
              clear hk hk0
              go_wp2_with (first
                | (go_at_call 21; refine (HN2.out _ HE5.out).mono ?_; rintro e w' ⟨rfl, rfl⟩)
                | (go_at_call 12; refine (awake_any _ (HG.out.ext HE5.out)).mono ?_; rintro e w9 ⟨rfl, hE⟩; have HE9 := Lib.hid (HE5.out.trans hE); clear hE))
              go_ret
              exact ⟨rfl, HE9.out⟩
        · have hfb : ((PointV m vs).2 == 0) = false := by simpa using hf
          rw [he] at HP1
          generalize (PointV n vs).1 = P at HP1 HNU HB2 P64 HPL
          generalize (PointV m vs).2 = mf at HP2 hfb
          clear hf he b1 b2 b3 b4
          go_enter Tryd.func7, Tryd.ntmps7
          go_upto_region 4 with (go_at_call 19
                                 refine HP1.out.mono ?_
                                 rintro e w1 ⟨v1, rfl, ho, hE⟩
                                 obtain ⟨A1, c1, rfl, -⟩ := ho.reads
                                 have HO1 := Lib.hid ho.reads
                                 have HE1 := Lib.hid hE
                                 clear ho hE)
          go_upto_region 7 with (first
            | (go_at_call 19
               refine (HP2.out _ HE1.out).mono ?_
               rintro e w2 ⟨v2, rfl, ho, hE⟩
               obtain ⟨A2, c2, rfl, -⟩ := ho.reads
               have HO2 := Lib.hid ho.reads
               have HE12 := Lib.hid hE
               have HE2 := Lib.hid (HE1.out.trans hE)
               clear ho hE)
            | (go_at_call 21
               refine (HNU.out _ _ HE2.out (HO1.out.ext HE12.out)).mono ?_
               rintro e w3 ⟨rfl, rfl⟩))
          go_cut [78] from 48 to 78 (fun s wc => s = .bool false ∧ Hid (Ext w2 wc))
          case first =>
            have cg : w2.cell? ⟨0, 0, Option.none⟩ = some (.func (.func 49) #[] #[]) := HG.out.ext HE2.out
            refine wp_region_held_drew (S := (fun w' : World => w'.cell? ⟨0, 0, Option.none⟩ = some (.func (.func 49) #[] #[]))) (by kernel_rfl) ((Ext.drew _).cell cg) (fun hHeld => ?_)
            refine wpAnyH_take (i := 0) (oi := { dst := some 48, op := Go.Op.move (Go.Operand.tmp 14), type := 33, pos := "law.go:176", after := #[], guard := none }) (v := ?v0A) rfl (by kernel_rfl) (by kernel_rfl) (by kernel_rfl) (fun _ _ _ h => h) (Or.inl ⟨by rfl, ?h0A⟩) hHeld ?_
            case h0A => (intro w hSw; (try dsimp only at hSw); go_simp; (try with_reducible rfl))
            try simp only [Act.put, List.setIfInBounds_toArray, List.set_cons_zero, List.set_cons_succ]
            refine wpAnyH_take (i := 1) (oi := { dst := some 49, op := Go.Op.binOp Go.BinOp.neq 33 (Go.Operand.tmp 48) (Go.Operand.const (Go.Value.int Go.IntKind.i64 0)) 33, type := 4, pos := "law.go:176", after := #[{ on := 0, ground := Go.Ground.data }], guard := none }) (v := ?v1A) rfl (by kernel_rfl) (by kernel_rfl) (by kernel_rfl) (fun _ _ _ h => h) (Or.inl ⟨by rfl, ?h1A⟩) hHeld ?_
            case h1A => (intro w hSw; (try dsimp only at hSw); go_simp; (try with_reducible rfl))
            try simp only [Act.put, List.setIfInBounds_toArray, List.set_cons_zero, List.set_cons_succ]
            refine wpAnyH_take (i := 2) (oi := { dst := some 50, op := Go.Op.move (Go.Operand.tmp 49), type := 4, pos := "law.go:176", after := #[{ on := 1, ground := Go.Ground.data }], guard := none }) (v := ?v2A) rfl (by kernel_rfl) (by kernel_rfl) (by kernel_rfl) (fun _ _ _ h => h) (Or.inl ⟨by rfl, ?h2A⟩) hHeld ?_
            case h2A => (intro w hSw; (try dsimp only at hSw); go_simp; (try with_reducible rfl))
            try simp only [Act.put, List.setIfInBounds_toArray, List.set_cons_zero, List.set_cons_succ]
            refine wpAnyH_take (i := 3) (oi := { dst := some 51, op := Go.Op.move (Go.Operand.tmp 13), type := 32, pos := "law.go:176", after := #[{ on := 2, ground := Go.Ground.guard }], guard := some (2, false) }) (v := ?v3A) rfl (by kernel_rfl) (by kernel_rfl) (by kernel_rfl) (fun _ _ _ h => h) (Or.inl ⟨by rfl, ?h3A⟩) hHeld ?_
            case h3A => (intro w hSw; (try dsimp only at hSw); go_simp; (try with_reducible rfl))
            try simp only [Act.put, List.setIfInBounds_toArray, List.set_cons_zero, List.set_cons_succ]
            refine wpAnyH_take (i := 4) (oi := { dst := some 52, op := Go.Op.move (Go.Operand.tmp 2), type := 32, pos := "law.go:176", after := #[{ on := 2, ground := Go.Ground.guard }], guard := some (2, false) }) (v := ?v4A) rfl (by kernel_rfl) (by kernel_rfl) (by kernel_rfl) (fun _ _ _ h => h) (Or.inl ⟨by rfl, ?h4A⟩) hHeld ?_
            case h4A => (intro w hSw; (try dsimp only at hSw); go_simp; (try with_reducible rfl))
            try simp only [Act.put, List.setIfInBounds_toArray, List.set_cons_zero, List.set_cons_succ]
            refine wpAnyH_take (i := 5) (oi := { dst := some 53, op := Go.Op.binOp Go.BinOp.neq 32 (Go.Operand.tmp 51) (Go.Operand.tmp 52) 32, type := 4, pos := "law.go:176", after := #[{ on := 3, ground := Go.Ground.data }, { on := 4, ground := Go.Ground.data }, { on := 2, ground := Go.Ground.guard }], guard := some (2, false) }) (v := ?v5A) rfl (by kernel_rfl) (by kernel_rfl) (by kernel_rfl) (fun _ _ _ h => h) (Or.inl ⟨by rfl, ?h5A⟩) hHeld ?_
            case h5A => (intro w hSw; (try dsimp only at hSw); go_simp; (try with_reducible rfl))
            try simp only [Act.put, List.setIfInBounds_toArray, List.set_cons_zero, List.set_cons_succ]
            refine wpAnyH_take (i := 6) (oi := { dst := some 54, op := Go.Op.pick (Go.Operand.tmp 50) (Go.Operand.const (Go.Value.bool true)) (Go.Operand.tmp 53), type := 4, pos := "law.go:176", after := #[{ on := 2, ground := Go.Ground.data }, { on := 5, ground := Go.Ground.data }], guard := none }) (v := ?v6A) rfl (by kernel_rfl) (by kernel_rfl) (by kernel_rfl) (fun _ _ _ h => h) (Or.inl ⟨by rfl, ?h6A⟩) hHeld ?_
            case h6A => (intro w hSw; (try dsimp only at hSw); go_simp; (try with_reducible rfl))
            try simp only [Act.put, List.setIfInBounds_toArray, List.set_cons_zero, List.set_cons_succ]
            refine wpAnyH_take (i := 7) (oi := { dst := some 55, op := Go.Op.move (Go.Operand.tmp 54), type := 4, pos := "law.go:176", after := #[{ on := 6, ground := Go.Ground.data }, { on := 2, ground := Go.Ground.chain }], guard := none }) (v := ?v7A) rfl (by kernel_rfl) (by kernel_rfl) (by kernel_rfl) (fun _ _ _ h => h) (Or.inl ⟨by rfl, ?h7A⟩) hHeld ?_
            case h7A => (intro w hSw; (try dsimp only at hSw); go_simp; (try with_reducible rfl))
            try simp only [Act.put, List.setIfInBounds_toArray, List.set_cons_zero, List.set_cons_succ]
            refine wpAnyH_take (i := 8) (oi := { dst := some 56, op := Go.Op.load 38 (Go.Operand.global 0), type := 38, pos := "law.go:176", after := #[{ on := 7, ground := Go.Ground.guard }], guard := some (7, false) }) (v := ?v8A) rfl (by kernel_rfl) (by kernel_rfl) (by kernel_rfl) (fun _ _ _ h => h) (Or.inl ⟨by rfl, ?h8A⟩) hHeld ?_
            case h8A => (intro w hSw; (try dsimp only at hSw); go_simp; (try with_reducible rfl))
            try simp only [Act.put, List.setIfInBounds_toArray, List.set_cons_zero, List.set_cons_succ]
            refine wpAnyH_take (i := 9) (oi := { dst := some 57, op := Go.Op.move (Go.Operand.tmp 9), type := 22, pos := "law.go:176", after := #[{ on := 7, ground := Go.Ground.guard }], guard := some (7, false) }) (v := ?v9A) rfl (by kernel_rfl) (by kernel_rfl) (by kernel_rfl) (fun _ _ _ h => h) (Or.inl ⟨by rfl, ?h9A⟩) hHeld ?_
            case h9A => (intro w hSw; (try dsimp only at hSw); go_simp; (try with_reducible rfl))
            try simp only [Act.put, List.setIfInBounds_toArray, List.set_cons_zero, List.set_cons_succ]
            refine wpAnyH_take (i := 12) (oi := { dst := some 60, op := Go.Op.move (Go.Operand.tmp 0), type := 22, pos := "law.go:176", after := #[{ on := 7, ground := Go.Ground.guard }], guard := some (7, false) }) (v := ?v12A) rfl (by kernel_rfl) (by kernel_rfl) (by kernel_rfl) (fun _ _ _ h => h) (Or.inl ⟨by rfl, ?h12A⟩) hHeld ?_
            case h12A => (intro w hSw; (try dsimp only at hSw); go_simp; (try with_reducible rfl))
            try simp only [Act.put, List.setIfInBounds_toArray, List.set_cons_zero, List.set_cons_succ]
            refine wpAnyH_ready (rs := [10]) (by kernel_rfl) (by simp) ?_
            refine AllReadyH.cons (o := { dst := some 58, op := Go.Op.buildSlice 23 1 #[(0, Go.Operand.tmp 57)], type := 23, pos := "law.go:176", after := #[{ on := 9, ground := Go.Ground.data }, { on := 7, ground := Go.Ground.guard }], guard := some (7, false) }) rfl (fun K hK => ?_) AllReadyH.nil
            go_simp
            refine hK.out _ _ (by exact ((Ext.alloc w2 _).trans (Ext.drew _)).cell cg) (fun hHeld => ?_)
            clear hK K
            try simp only [Act.put, List.setIfInBounds_toArray, List.set_cons_zero, List.set_cons_succ]
            refine wpAnyH_ready (rs := [11]) (by kernel_rfl) (by simp) ?_
            refine AllReadyH.cons (o := { dst := some 59, op := Go.Op.call { callee := Go.Callee.value (Go.Operand.func 33), args := #[Go.Operand.tmp 58], argTypes := #[23] }, type := 22, pos := "law.go:176", after := #[{ on := 10, ground := Go.Ground.data }, { on := 7, ground := Go.Ground.chain }, { on := 7, ground := Go.Ground.guard }], guard := some (7, false) }) rfl (fun K hK => ?_) AllReadyH.nil
            go_simp
            refine (Vars_any [P] _ _ (fun c hc => by rw [List.mem_singleton.1 hc]; exact P64) (RLL.ext' (RLL.one (Blk.new w2 22 [.slice A1 P.length c1]) (HO1.out.ext (HE12.out.trans (Ext.alloc _ _)))) (Ext.drew _)) (by simp [total, lens]; have := HPL.out; omega)).mono ?_
            rintro e w4 ⟨v4, rfl, ho, hE⟩
            obtain ⟨A4, c4, rfl, -⟩ := ho.reads
            have HO4 := Lib.hid ho.reads
            have HE24 := Lib.hid (((Ext.alloc w2 _).trans (Ext.drew _)).trans hE)
            clear ho hE
            dsimp only
            refine hK.out _ _ (HG.out.ext (HE2.out.trans HE24.out)) (fun hHeld => ?_)
            clear hK K
            try simp only [Act.put, List.setIfInBounds_toArray, List.set_cons_zero, List.set_cons_succ]
            refine wpAnyH_ready (rs := [13]) (by kernel_rfl) (by simp) ?_
            refine AllReadyH.cons (o := { dst := some 61, op := Go.Op.call { callee := Go.Callee.value (Go.Operand.tmp 56), args := #[Go.Operand.tmp 59, Go.Operand.tmp 60], argTypes := #[22, 22] }, type := 4, pos := "law.go:176", after := #[{ on := 8, ground := Go.Ground.data }, { on := 11, ground := Go.Ground.data }, { on := 12, ground := Go.Ground.data }, { on := 11, ground := Go.Ground.chain }, { on := 7, ground := Go.Ground.guard }], guard := some (7, false) }) rfl (fun K hK => ?_) AllReadyH.nil
            go_simp
            refine (Same_is (VarsV [P]) vs true (by rw [HB2.out]; simp) _ _ _ HO4.out (HR.out.ext (HE2.out.trans HE24.out))).mono ?_
            rintro e w5 ⟨rfl, hE⟩
            have HE25 := Lib.hid (HE24.out.trans hE)
            clear hE
            dsimp only
            refine hK.out _ _ (HG.out.ext (HE2.out.trans HE25.out)) (fun hHeld => ?_)
            clear hK K
            try simp only [Act.put, List.setIfInBounds_toArray, List.set_cons_zero, List.set_cons_succ]
            refine wpAnyH_take (i := 14) (oi := { dst := some 62, op := Go.Op.unOp Go.UnOp.not 4 (Go.Operand.tmp 61), type := 4, pos := "law.go:176", after := #[{ on := 13, ground := Go.Ground.data }, { on := 7, ground := Go.Ground.guard }], guard := some (7, false) }) (v := ?v14A) rfl (by kernel_rfl) (by kernel_rfl) (by kernel_rfl) (fun _ _ _ h => h) (Or.inl ⟨by rfl, ?h14A⟩) hHeld ?_
            case h14A => (intro w hSw; (try dsimp only at hSw); go_simp; (try with_reducible rfl))
            try simp only [Act.put, List.setIfInBounds_toArray, List.set_cons_zero, List.set_cons_succ]
            refine wpAnyH_take (i := 15) (oi := { dst := some 63, op := Go.Op.pick (Go.Operand.tmp 55) (Go.Operand.const (Go.Value.bool true)) (Go.Operand.tmp 62), type := 4, pos := "law.go:176", after := #[{ on := 7, ground := Go.Ground.data }, { on := 14, ground := Go.Ground.data }], guard := none }) (v := ?v15A) rfl (by kernel_rfl) (by kernel_rfl) (by kernel_rfl) (fun _ _ _ h => h) (Or.inl ⟨by rfl, ?h15A⟩) hHeld ?_
            case h15A => (intro w hSw; (try dsimp only at hSw); go_simp; (try with_reducible rfl))
            try simp only [Act.put, List.setIfInBounds_toArray, List.set_cons_zero, List.set_cons_succ]
            refine wpAnyH_take (i := 16) (oi := { dst := some 64, op := Go.Op.move (Go.Operand.tmp 63), type := 4, pos := "law.go:176", after := #[{ on := 15, ground := Go.Ground.data }, { on := 13, ground := Go.Ground.chain }], guard := none }) (v := ?v16A) rfl (by kernel_rfl) (by kernel_rfl) (by kernel_rfl) (fun _ _ _ h => h) (Or.inl ⟨by rfl, ?h16A⟩) hHeld ?_
            case h16A => (intro w hSw; (try dsimp only at hSw); go_simp; (try with_reducible rfl))
            try simp only [Act.put, List.setIfInBounds_toArray, List.set_cons_zero, List.set_cons_succ]
            refine wpAnyH_take (i := 17) (oi := { dst := some 65, op := Go.Op.move (Go.Operand.tmp 12), type := 33, pos := "law.go:176", after := #[{ on := 16, ground := Go.Ground.guard }], guard := some (16, false) }) (v := ?v17A) rfl (by kernel_rfl) (by kernel_rfl) (by kernel_rfl) (fun _ _ _ h => h) (Or.inl ⟨by rfl, ?h17A⟩) hHeld ?_
            case h17A => (intro w hSw; (try dsimp only at hSw); go_simp; (try with_reducible rfl))
            try simp only [Act.put, List.setIfInBounds_toArray, List.set_cons_zero, List.set_cons_succ]
            refine wpAnyH_take (i := 18) (oi := { dst := some 66, op := Go.Op.binOp Go.BinOp.eql 33 (Go.Operand.tmp 65) (Go.Operand.const (Go.Value.int Go.IntKind.i64 0)) 33, type := 4, pos := "law.go:176", after := #[{ on := 17, ground := Go.Ground.data }, { on := 16, ground := Go.Ground.guard }], guard := some (16, false) }) (v := ?v18A) rfl (by kernel_rfl) (by kernel_rfl) (by kernel_rfl) (fun _ _ _ h => h) (Or.inl ⟨by rfl, ?h18A⟩) hHeld ?_
            case h18A => (intro w hSw; (try dsimp only at hSw); go_simp; (try with_reducible rfl))
            try simp only [Act.put, List.setIfInBounds_toArray, List.set_cons_zero, List.set_cons_succ]
            refine wpAnyH_take (i := 19) (oi := { dst := some 67, op := Go.Op.move (Go.Operand.tmp 66), type := 4, pos := "law.go:176", after := #[{ on := 18, ground := Go.Ground.data }, { on := 16, ground := Go.Ground.chain }, { on := 16, ground := Go.Ground.guard }], guard := some (16, false) }) (v := ?v19A) rfl (by kernel_rfl) (by kernel_rfl) (by kernel_rfl) (fun _ _ _ h => h) (Or.inl ⟨by rfl, ?h19A⟩) hHeld ?_
            case h19A => (intro w hSw; (try dsimp only at hSw); go_simp; (try with_reducible rfl))
            try simp only [Act.put, List.setIfInBounds_toArray, List.set_cons_zero, List.set_cons_succ]
            refine wpAnyH_take (i := 20) (oi := { dst := some 68, op := Go.Op.move (Go.Operand.tmp 2), type := 32, pos := "law.go:176", after := #[{ on := 19, ground := Go.Ground.guard }], guard := some (19, true) }) (v := undef) rfl (by kernel_rfl) (by kernel_rfl) (by kernel_rfl) (fun _ _ _ h => h) (Or.inr ⟨by rfl, rfl⟩) hHeld ?_
            try simp only [Act.put, List.setIfInBounds_toArray, List.set_cons_zero, List.set_cons_succ]
            refine wpAnyH_take (i := 21) (oi := { dst := some 69, op := Go.Op.move (Go.Operand.tmp 3), type := 32, pos := "law.go:176", after := #[{ on := 19, ground := Go.Ground.guard }], guard := some (19, true) }) (v := undef) rfl (by kernel_rfl) (by kernel_rfl) (by kernel_rfl) (fun _ _ _ h => h) (Or.inr ⟨by rfl, rfl⟩) hHeld ?_
            try simp only [Act.put, List.setIfInBounds_toArray, List.set_cons_zero, List.set_cons_succ]
            refine wpAnyH_take (i := 22) (oi := { dst := some 70, op := Go.Op.binOp Go.BinOp.neq 32 (Go.Operand.tmp 68) (Go.Operand.tmp 69) 32, type := 4, pos := "law.go:176", after := #[{ on := 20, ground := Go.Ground.data }, { on := 21, ground := Go.Ground.data }, { on := 19, ground := Go.Ground.guard }], guard := some (19, true) }) (v := undef) rfl (by kernel_rfl) (by kernel_rfl) (by kernel_rfl) (fun _ _ _ h => h) (Or.inr ⟨by rfl, rfl⟩) hHeld ?_
            try simp only [Act.put, List.setIfInBounds_toArray, List.set_cons_zero, List.set_cons_succ]
            refine wpAnyH_take (i := 23) (oi := { dst := some 71, op := Go.Op.pick (Go.Operand.tmp 67) (Go.Operand.tmp 70) (Go.Operand.const (Go.Value.bool false)), type := 4, pos := "law.go:176", after := #[{ on := 19, ground := Go.Ground.data }, { on := 22, ground := Go.Ground.data }, { on := 16, ground := Go.Ground.guard }], guard := some (16, false) }) (v := ?v23A) rfl (by kernel_rfl) (by kernel_rfl) (by kernel_rfl) (fun _ _ _ h => h) (Or.inl ⟨by rfl, ?h23A⟩) hHeld ?_
            case h23A => (intro w hSw; (try dsimp only at hSw); go_simp; (try with_reducible rfl))
            try simp only [Act.put, List.setIfInBounds_toArray, List.set_cons_zero, List.set_cons_succ]
            refine wpAnyH_take (i := 24) (oi := { dst := some 72, op := Go.Op.move (Go.Operand.tmp 71), type := 4, pos := "law.go:176", after := #[{ on := 23, ground := Go.Ground.data }, { on := 19, ground := Go.Ground.chain }, { on := 16, ground := Go.Ground.guard }], guard := some (16, false) }) (v := ?v24A) rfl (by kernel_rfl) (by kernel_rfl) (by kernel_rfl) (fun _ _ _ h => h) (Or.inl ⟨by rfl, ?h24A⟩) hHeld ?_
            case h24A => (intro w hSw; (try dsimp only at hSw); go_simp; (try with_reducible rfl))
            try simp only [Act.put, List.setIfInBounds_toArray, List.set_cons_zero, List.set_cons_succ]
            refine wpAnyH_take (i := 25) (oi := { dst := some 73, op := Go.Op.load 38 (Go.Operand.global 0), type := 38, pos := "law.go:176", after := #[{ on := 24, ground := Go.Ground.guard }], guard := some (24, true) }) (v := undef) rfl (by kernel_rfl) (by kernel_rfl) (by kernel_rfl) (fun _ _ _ h => h) (Or.inr ⟨by rfl, rfl⟩) hHeld ?_
            try simp only [Act.put, List.setIfInBounds_toArray, List.set_cons_zero, List.set_cons_succ]
            refine wpAnyH_take (i := 26) (oi := { dst := some 74, op := Go.Op.move (Go.Operand.tmp 9), type := 22, pos := "law.go:176", after := #[{ on := 24, ground := Go.Ground.guard }], guard := some (24, true) }) (v := undef) rfl (by kernel_rfl) (by kernel_rfl) (by kernel_rfl) (fun _ _ _ h => h) (Or.inr ⟨by rfl, rfl⟩) hHeld ?_
            try simp only [Act.put, List.setIfInBounds_toArray, List.set_cons_zero, List.set_cons_succ]
            refine wpAnyH_take (i := 27) (oi := { dst := some 75, op := Go.Op.move (Go.Operand.tmp 11), type := 22, pos := "law.go:176", after := #[{ on := 24, ground := Go.Ground.guard }], guard := some (24, true) }) (v := undef) rfl (by kernel_rfl) (by kernel_rfl) (by kernel_rfl) (fun _ _ _ h => h) (Or.inr ⟨by rfl, rfl⟩) hHeld ?_
            try simp only [Act.put, List.setIfInBounds_toArray, List.set_cons_zero, List.set_cons_succ]
            refine wpAnyH_take (i := 28) (oi := { dst := some 76, op := Go.Op.call { callee := Go.Callee.value (Go.Operand.tmp 73), args := #[Go.Operand.tmp 74, Go.Operand.tmp 75], argTypes := #[22, 22] }, type := 4, pos := "law.go:176", after := #[{ on := 25, ground := Go.Ground.data }, { on := 26, ground := Go.Ground.data }, { on := 27, ground := Go.Ground.data }, { on := 24, ground := Go.Ground.chain }, { on := 24, ground := Go.Ground.guard }], guard := some (24, true) }) (v := undef) rfl (by kernel_rfl) (by kernel_rfl) (by kernel_rfl) (fun _ _ _ h => h) (Or.inr ⟨by rfl, rfl⟩) hHeld ?_
            try simp only [Act.put, List.setIfInBounds_toArray, List.set_cons_zero, List.set_cons_succ]
            refine wpAnyH_take (i := 29) (oi := { dst := some 77, op := Go.Op.pick (Go.Operand.tmp 72) (Go.Operand.tmp 76) (Go.Operand.const (Go.Value.bool false)), type := 4, pos := "law.go:176", after := #[{ on := 24, ground := Go.Ground.data }, { on := 28, ground := Go.Ground.data }, { on := 16, ground := Go.Ground.guard }], guard := some (16, false) }) (v := ?v29A) rfl (by kernel_rfl) (by kernel_rfl) (by kernel_rfl) (fun _ _ _ h => h) (Or.inl ⟨by rfl, ?h29A⟩) hHeld ?_
            case h29A => (intro w hSw; (try dsimp only at hSw); go_simp; (try with_reducible rfl))
            try simp only [Act.put, List.setIfInBounds_toArray, List.set_cons_zero, List.set_cons_succ]
            refine wpAnyH_take (i := 30) (oi := { dst := some 78, op := Go.Op.pick (Go.Operand.tmp 64) (Go.Operand.const (Go.Value.bool true)) (Go.Operand.tmp 77), type := 4, pos := "law.go:176", after := #[{ on := 16, ground := Go.Ground.data }, { on := 29, ground := Go.Ground.data }], guard := none }) (v := ?v30A) rfl (by kernel_rfl) (by kernel_rfl) (by kernel_rfl) (fun _ _ _ h => h) (Or.inl ⟨by rfl, ?h30A⟩) hHeld ?_
            case h30A => (intro w hSw; (try dsimp only at hSw); go_simp; (try with_reducible rfl))
            try simp only [Act.put, List.setIfInBounds_toArray, List.set_cons_zero, List.set_cons_succ]
            refine wpAnyH_done (by kernel_rfl) ?_ _
            go_wp2_with fail
            go_meet
            exact ⟨rfl, HE25⟩
          case rest =>
          obtain ⟨rfl, HC⟩ := hcut
          have HE5 := Lib.hid (HE2.out.trans HC.out)
          clear HC
          by_cases hk : (NumberV vs xs).2 = 0
          · obtain ⟨e1, e2, e3⟩ := back_number hk
            have HP3 := Lib.hid (fun (w' : World) (he : Ext w w') => Point_any vs (NumberV vs xs).1 e2 (by omega) _ w' h64 (HR.out.ext he))
            rw [e1] at HP3
            rw [hk] at HN2
            generalize (NumberV vs xs).1 = kk at HP3 HN2
            clear e1 e2 e3 hk
            go_wp2_with (first
              | (go_at_call 21; refine (HN2.out _ HE5.out).mono ?_; rintro e w' ⟨rfl, rfl⟩)
              | (go_at_call 19
                 refine (HP3.out _ HE5.out).mono ?_
                 rintro e w7 ⟨v7, rfl, ho, hE⟩
                 have HO7 := Lib.hid ho.reads
                 have HE7 := Lib.hid (HE5.out.trans hE)
                 have cg7 : w7.cell? ⟨0, 0, Option.none⟩ = some (.func (.func 49) #[] #[]) := HG.out.ext HE7.out
                 clear ho hE)
              | (go_at_call 49; refine (Same_is xs xs true (by simp) _ _ _ (KR.out.ext HE7.out) HO7.out).mono ?_; rintro e w8 ⟨rfl, hE⟩; have HE8 := Lib.hid (HE7.out.trans hE); clear hE)
              | (go_at_call 12; refine (awake_any _ (HG.out.ext HE8.out)).mono ?_; rintro e w9 ⟨rfl, hE⟩; have HE9 := Lib.hid (HE8.out.trans hE); clear hE))
            go_ret
            exact ⟨rfl, HE9.out⟩
          · have hkb : ((NumberV vs xs).2 != 0) = true := by simpa using hk
            have hk0 := number_none hk
            rw [hk0] at HN2
            generalize (NumberV vs xs).2 = kk at HN2 hkb
            clear hk hk0
            go_wp2_with (first
              | (go_at_call 21; refine (HN2.out _ HE5.out).mono ?_; rintro e w' ⟨rfl, rfl⟩)
              | (go_at_call 12; refine (awake_any _ (HG.out.ext HE5.out)).mono ?_; rintro e w9 ⟨rfl, hE⟩; have HE9 := Lib.hid (HE5.out.trans hE); clear hE))
            go_ret
            exact ⟨rfl, HE9.out⟩
      · have heb : ((PointV n vs).2 == 0) = false := by simpa using he
        have hp := point_none he
        rw [hp] at HP1
        generalize (PointV n vs).2 = mf at HP1 heb
        clear he hp
        go_enter Tryd.func7, Tryd.ntmps7
        go_upto_region 4 with (go_at_call 19
                               refine HP1.out.mono ?_
                               rintro e w1 ⟨v1, rfl, ho, hE⟩
                               obtain ⟨A1, c1, rfl, -⟩ := ho.reads
                               have HO1 := Lib.hid ho.reads
                               have HE1 := Lib.hid hE
                               clear ho hE)
        go_upto_region 9 with (first
          | (go_at_call 19
             refine (HP2.out _ HE1.out).mono ?_
             rintro e w2 ⟨v2, rfl, ho, hE⟩
             obtain ⟨A2, c2, rfl, -⟩ := ho.reads
             have HO2 := Lib.hid ho.reads
             have HE12 := Lib.hid hE
             have HE2 := Lib.hid (HE1.out.trans hE)
             clear ho hE))
        by_cases hk : (NumberV vs xs).2 = 0
        · obtain ⟨e1, e2, e3⟩ := back_number hk
          have HP3 := Lib.hid (fun (w' : World) (he : Ext w w') => Point_any vs (NumberV vs xs).1 e2 (by omega) _ w' h64 (HR.out.ext he))
          rw [e1] at HP3
          rw [hk] at HN2
          generalize (NumberV vs xs).1 = kk at HP3 HN2
          clear e1 e2 e3 hk
          go_wp2_with (first
            | (go_at_call 21; refine (HN2.out _ HE2.out).mono ?_; rintro e w' ⟨rfl, rfl⟩)
            | (go_at_call 19
               refine (HP3.out _ HE2.out).mono ?_
               rintro e w7 ⟨v7, rfl, ho, hE⟩
               have HO7 := Lib.hid ho.reads
               have HE7 := Lib.hid (HE2.out.trans hE)
               have cg7 : w7.cell? ⟨0, 0, Option.none⟩ = some (.func (.func 49) #[] #[]) := HG.out.ext HE7.out
               clear ho hE)
            | (go_at_call 49; refine (Same_is xs xs true (by simp) _ _ _ (KR.out.ext HE7.out) HO7.out).mono ?_; rintro e w8 ⟨rfl, hE⟩; have HE8 := Lib.hid (HE7.out.trans hE); clear hE)
            | (go_at_call 12; refine (awake_any _ (HG.out.ext HE8.out)).mono ?_; rintro e w9 ⟨rfl, hE⟩; have HE9 := Lib.hid (HE8.out.trans hE); clear hE))
          go_ret
          exact ⟨rfl, HE9.out⟩
        · have hkb : ((NumberV vs xs).2 != 0) = true := by simpa using hk
          have hk0 := number_none hk
          rw [hk0] at HN2
          generalize (NumberV vs xs).2 = kk at HN2 hkb
          clear hk hk0
          go_wp2_with (first
            | (go_at_call 21; refine (HN2.out _ HE2.out).mono ?_; rintro e w' ⟨rfl, rfl⟩)
            | (go_at_call 12; refine (awake_any _ (HG.out.ext HE2.out)).mono ?_; rintro e w9 ⟨rfl, hE⟩; have HE9 := Lib.hid (HE2.out.trans hE); clear hE))
          go_ret
          exact ⟨rfl, HE9.out⟩
    · have hx' : (200 : Int) < xs.length := by omega
      go_enter Tryd.func7, Tryd.ntmps7
      go_wp2_with (go_at_call 12; refine (awake_any _ HG.out).mono ?_; rintro e w6 ⟨rfl, hE⟩; have HE6 := Lib.hid hE; clear hE)
      go_ret
      exact ⟨rfl, HE6.out⟩
  · have hv' : (200 : Int) < vs.length := by omega
    go_enter Tryd.func7, Tryd.ntmps7
    go_wp2_with (go_at_call 12; refine (awake_any _ HG.out).mono ?_; rintro e w6 ⟨rfl, hE⟩; have HE6 := Lib.hid hE; clear hE)
    go_ret
    exact ⟨rfl, HE6.out⟩
end Go.Proofs.YteokoaggkpjdeaaDoor
