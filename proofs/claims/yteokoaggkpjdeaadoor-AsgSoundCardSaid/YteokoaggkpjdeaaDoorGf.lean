/- The zero of the array [65537]bool: all its cells are false. Bits of numbers of 64 bits: a point's bits, an assignment's number as a sum. -/
import Derived.Test.YteokoaggkpjdeaaDoorGe
import Derived.Test.YteokoaggkpjdeaaDoorGd
import Derived.Test.YteokoaggkpjdeaaDoorGa
import Derived.Laws.BitsLemmas
namespace Go.Proofs.YteokoaggkpjdeaaDoor
open Go.RowKit

def isF : Value → Bool
  | .bool false => true
  | _ => false
theorem isF_eq {v : Value} (h : isF v = true) : v = .bool false := by
  unfold isF at h
  split at h
  · rfl
  · cases h
/-- The first 2^k elements are false: what is behind them. -/
def chkF : Nat → List Value → Option (List Value)
  | 0, [] => none
  | 0, x :: xs => if isF x = true then some xs else none
  | k + 1, l => (chkF k l).bind (chkF k)
theorem chkF_spec : ∀ k l r, chkF k l = some r → l = List.replicate (2 ^ k) (.bool false) ++ r
  | 0, [], r, h => by simp [chkF] at h
  | 0, x :: xs, r, h => by
    unfold chkF at h
    split at h
    · rename_i hx
      cases h
      rw [isF_eq hx]; simp
    · cases h
  | k + 1, l, r, h => by
    rw [chkF] at h
    obtain ⟨m, h1, h2⟩ := Option.bind_eq_some_iff.1 h
    rw [chkF_spec k l m h1, chkF_spec k m r h2, ← List.append_assoc, List.replicate_append_replicate]
    congr 2
    omega

theorem zarr_chk : ((chkF 16 Tryd.zeroCells93.toList).bind (chkF 0)) = some [] := by kernel_rfl
theorem zarr_eq : Tryd.zeroCells93 = (List.replicate 65537 (.bool false)).toArray := by
  obtain ⟨m, h1, h2⟩ := Option.bind_eq_some_iff.1 zarr_chk
  have : Tryd.zeroCells93.toList = List.replicate 65537 (.bool false) := by
    rw [chkF_spec 16 _ m h1, chkF_spec 0 m [] h2, List.append_nil, List.replicate_append_replicate]
  rw [← this]
end Go.Proofs.YteokoaggkpjdeaaDoor
namespace Go.Proofs.YteokoaggkpjdeaaDoor

theorem wraps_u64 (n : Int) (h₀ : 0 ≤ n) (h₁ : n < 2 ^ 64) : IntKind.u64.wrap n = n := by
  rw [wrapu]; omega

theorem ediv_pow_range {n : Int} (h0 : 0 ≤ n) (h1 : n < 2 ^ 64) (i : Nat) : 0 ≤ n / 2 ^ i ∧ n / 2 ^ i < 2 ^ 64 := by
  have hp : (0 : Int) < 2 ^ i := Int.pow_pos (by decide)
  refine ⟨Int.ediv_nonneg h0 (Int.le_of_lt hp), ?_⟩
  have : n / 2 ^ i ≤ n := Int.ediv_le_self _ h0
  omega

theorem bitOf_mod {n : Int} (h0 : 0 ≤ n) (h1 : n < 2 ^ 64) (i : Nat) : bitOf n i = n / 2 ^ min i 64 % 2 := by
  unfold bitOf
  obtain ⟨h2, h3⟩ := ediv_pow_range h0 h1 (min i 64)
  have := bits_mask .u64 64 (by decide) wraps_u64 1 (by decide) _ h2 h3
  simpa using this
theorem bit_two {n : Int} (h0 : 0 ≤ n) (h1 : n < 2 ^ 64) (i : Nat) : bitOf n i = 0 ∨ bitOf n i = 1 := by
  rw [bitOf_mod h0 h1]; omega

theorem numL_or (xs : List Int) (k : Nat) (h1 : 0 ≤ numL xs k) (h2 : numL xs k < 2 ^ k) (h3 : (2 : Int) ^ k < 2 ^ 64) : Go.bits .or .u64 (numL xs k) (2 ^ k) = numL xs k + 2 ^ k := by
  have hp0 : (0 : Int) < 2 ^ k := Int.pow_pos (by decide)
  have hc : Go.bits .or .u64 (numL xs k) (2 ^ k) = Go.bits .or .u64 (2 ^ k) (numL xs k) := by
    unfold Go.bits
    simp only [BitVec.or_comm]
  rw [hc, bits_join .u64 64 (by decide) wraps_u64 k _ _ (by omega) (by simp) h3 h1 h2 (by omega)]
  omega

theorem numL_range (xs : List Int) : ∀ k, k ≤ 64 → 0 ≤ numL xs k ∧ numL xs k < 2 ^ k
  | 0, _ => by simp [numL]
  | k + 1, hk => by
    obtain ⟨h1, h2⟩ := numL_range xs k (by omega)
    have hp : (2 : Int) ^ (k + 1) = 2 ^ k * 2 := Int.pow_succ ..
    have hp0 : (0 : Int) < 2 ^ k := Int.pow_pos (by decide)
    have hm : min k 64 = k := by omega
    rw [numL]
    split
    · have h64 : (2 : Int) ^ (k + 1) ≤ 2 ^ 64 := by
        have := Nat.pow_le_pow_right (n := 2) (by decide) hk
        exact_mod_cast this
      rw [hm, wraps_u64 _ (by omega) (by omega), numL_or xs k h1 h2 (by omega)]
      omega
    · omega
theorem numL_succ (xs : List Int) (k : Nat) (hk : k < 64) : numL xs (k + 1) = numL xs k + if 0 < xs.getD k 0 then 2 ^ k else 0 := by
  obtain ⟨h1, h2⟩ := numL_range xs k (by omega)
  have hp0 : (0 : Int) < 2 ^ k := Int.pow_pos (by decide)
  have hm : min k 64 = k := by omega
  have h64 : (2 : Int) ^ k < 2 ^ 64 := by
    have := Nat.pow_lt_pow_right (a := 2) (by decide) hk
    exact_mod_cast this
  rw [numL]
  split
  · rw [hm, wraps_u64 _ (by omega) (by omega), numL_or xs k h1 h2 (by omega)]
  · omega

/-- The variables of lists of literals, ascending. -/
def markB (f : List (List Int)) (v : Nat) : Bool := f.any fun c => c.any fun x => varOf x == (v : Int)
def varsTo (f : List (List Int)) (n : Nat) : List Int := ((List.range n).filter fun v => decide (1 ≤ v) && markB f v).map Int.ofNat
def VarsV (f : List (List Int)) : List Int := varsTo f 65537

theorem varsTo_succ (f : List (List Int)) (n : Nat) (hn : 1 ≤ n) : varsTo f (n + 1) = varsTo f n ++ if markB f n = true then [(n : Int)] else [] := by
  unfold varsTo
  rw [List.range_succ, List.filter_append, List.map_append]
  congr 1
  by_cases h : markB f n = true
  · rw [if_pos h]; simp [h, hn]
  · rw [if_neg h]; simp [h]
theorem varsTo_one (f : List (List Int)) : varsTo f 1 = [] := by simp [varsTo]
theorem varsTo_len (f : List (List Int)) (n : Nat) : (varsTo f n).length ≤ n := by
  unfold varsTo
  rw [List.length_map]
  exact Nat.le_trans (List.length_filter_le _ _) (by simp)
theorem varsTo_sorted (f : List (List Int)) (n : Nat) : (varsTo f n).Pairwise (· < ·) := by
  unfold varsTo
  rw [List.pairwise_map]
  refine List.Pairwise.filter _ ?_
  refine List.Pairwise.imp (fun h => ?_) List.pairwise_lt_range
  exact Int.ofNat_lt.2 h
theorem mem_VarsV (f : List (List Int)) (y : Int) : y ∈ VarsV f ↔ 0 < y ∧ ∃ c ∈ f, ∃ x ∈ c, varOf x = y := by
  unfold VarsV varsTo
  rw [List.mem_map]
  constructor
  · rintro ⟨v, hv, rfl⟩
    rw [List.mem_filter, Bool.and_eq_true, decide_eq_true_eq] at hv
    refine ⟨by have := hv.2.1; simp; omega, ?_⟩
    have := hv.2.2
    unfold markB at this
    rw [List.any_eq_true] at this
    obtain ⟨c, hc, hx⟩ := this
    rw [List.any_eq_true] at hx
    obtain ⟨x, hx, he⟩ := hx
    exact ⟨c, hc, x, hx, by simpa using he⟩
  · rintro ⟨h0, c, hc, x, hx, he⟩
    have hr := varOf_range x
    refine ⟨y.toNat, ?_, by simp; omega⟩
    rw [List.mem_filter, Bool.and_eq_true, decide_eq_true_eq]
    refine ⟨by simp; omega, by omega, ?_⟩
    unfold markB
    rw [List.any_eq_true]
    exact ⟨c, hc, by rw [List.any_eq_true]; exact ⟨x, hx, by simp; omega⟩⟩
theorem asc_vars {xs : List Int} (h : Asc xs) : (xs.map varOf).Pairwise (· < ·) := by
  rw [List.pairwise_map]; exact h.1
theorem VarsV_one {xs : List Int} (h : Asc xs) : VarsV [xs] = xs.map varOf :=
  sorted_ext (r := fun a b : Int => a < b) (fun a b h k => by omega) (varsTo_sorted _ _) (asc_vars h) fun y => by
    rw [mem_VarsV, List.mem_map]
    constructor
    · rintro ⟨h0, c, hc, x, hx, he⟩
      rw [List.mem_singleton] at hc
      subst hc
      exact ⟨x, hx, he⟩
    · rintro ⟨x, hx, rfl⟩
      exact ⟨h.2 x hx, xs, by simp, x, hx, rfl⟩

theorem eqfB_map (vs : List Int) : ∀ xs : List Int, eqfB (fun v x => v == varOf x) vs xs = decide (vs = xs.map varOf) := by
  induction vs with
  | nil => intro xs; cases xs <;> simp [eqfB]
  | cons v vs ih =>
    intro xs
    cases xs with
    | nil => simp [eqfB]
    | cons x xs =>
      rw [eqfB, ih xs, List.map_cons, Bool.eq_iff_iff]
      simp

end Go.Proofs.YteokoaggkpjdeaaDoor
