/- Plain: a binary heap in a list of integers; sifting up and down. No program here. -/
import Derived.Test.YteokoaggkpjdeaaDoorMath
namespace Go.Proofs.YteokoaggkpjdeaaDoor

def par (i : Nat) : Nat := (i - 1) / 2
theorem par_lt {i : Nat} (h : 0 < i) : par i < i := by unfold par; omega

/-- The list with two places exchanged. -/
def swp (ys : List Int) (i j : Nat) : List Int := (ys.set i (ys.getD j 0)).set j (ys.getD i 0)

theorem swp_length (ys : List Int) (i j : Nat) : (swp ys i j).length = ys.length := by simp [swp]
theorem swp_perm (ys : List Int) {i j : Nat} (hi : i < ys.length) (hj : j < ys.length) : (swp ys i j).Perm ys := by
  have := List.set_set_perm hi hj
  simpa [swp, hi, hj] using this
theorem swp_get (ys : List Int) {i j : Nat} (hi : i < ys.length) (hj : j < ys.length) (k : Nat) : (swp ys i j).getD k 0 = if k = j then ys.getD i 0 else if k = i then ys.getD j 0 else ys.getD k 0 := by
  simp only [swp, List.getD_eq_getElem?_getD, List.getElem?_set, List.length_set]
  by_cases h1 : j = k
  · subst h1; simp [hj]
  · by_cases h2 : i = k
    · subst h2; simp [h1, hi, show ¬ i = j from fun h => h1 h.symm]
    · simp [h1, h2, show ¬ k = j from fun h => h1 h.symm, show ¬ k = i from fun h => h2 h.symm]

/-- Heap on the first n places, but perhaps at place j against its parent. -/
def HeapUp (ys : List Int) (n j : Nat) : Prop :=
  (∀ k, 0 < k → k < n → k ≠ j → ys.getD (par k) 0 ≤ ys.getD k 0) ∧ (∀ k, k < n → 0 < k → par k = j → 0 < j → ys.getD (par j) 0 ≤ ys.getD k 0)
/-- Heap on the first n places. -/
def HeapOn (ys : List Int) (n : Nat) : Prop := ∀ k, 0 < k → k < n → ys.getD (par k) 0 ≤ ys.getD k 0
/-- Heap on the first n places, but perhaps at place i against its children. -/
def HeapDn (ys : List Int) (n i : Nat) : Prop :=
  (∀ k, 0 < k → k < n → par k ≠ i → ys.getD (par k) 0 ≤ ys.getD k 0) ∧ (∀ k, 0 < k → k < n → par k = i → 0 < i → ys.getD (par i) 0 ≤ ys.getD k 0)

theorem HeapUp.done {ys : List Int} {n j : Nat} (h : HeapUp ys n j) (hj : 0 < j → ys.getD (par j) 0 ≤ ys.getD j 0) : HeapOn ys n := fun k h0 hk => by
  by_cases e : k = j
  · subst e; exact hj h0
  · exact h.1 k h0 hk e

theorem HeapUp.step {ys : List Int} {n j : Nat} (h : HeapUp ys n j) (hn : n ≤ ys.length) (hj : j < n) (h0 : 0 < j) (hlt : ys.getD j 0 < ys.getD (par j) 0) : HeapUp (swp ys (par j) j) n (par j) := by
  have hp := par_lt h0
  have hg := swp_get ys (show par j < ys.length by omega) (show j < ys.length by omega)
  refine ⟨fun k k0 kn kne => ?_, fun k kn k0 kp p0 => ?_⟩
  · rw [hg k, hg (par k)]
    have hpk := par_lt k0
    by_cases e1 : k = j
    · subst e1
      rw [if_pos rfl, if_neg (by omega), if_pos rfl]
      omega
    · rw [if_neg e1, if_neg kne]
      by_cases e2 : par k = j
      · rw [if_pos e2]
        exact h.2 k kn k0 e2 h0
      · rw [if_neg e2]
        by_cases e3 : par k = par j
        · rw [if_pos e3]
          have := h.1 k k0 kn e1
          rw [e3] at this
          omega
        · rw [if_neg e3]
          exact h.1 k k0 kn e1
  · have hpp := par_lt p0
    rw [hg k, hg (par (par j))]
    rw [if_neg (by omega), if_neg (by omega)]
    have h3 := h.1 (par j) p0 (by omega) (by omega)
    by_cases e1 : k = j
    · rw [if_pos e1]; exact h3
    · rw [if_neg e1]
      have hpk := par_lt k0
      rw [if_neg (by omega)]
      have := h.1 k k0 kn e1
      rw [kp] at this
      omega

theorem HeapDn.done {ys : List Int} {n i : Nat} (h : HeapDn ys n i) (hc : ∀ k, 0 < k → k < n → par k = i → ys.getD i 0 ≤ ys.getD k 0) : HeapOn ys n := fun k k0 kn => by
  by_cases e : par k = i
  · rw [e]; exact hc k k0 kn e
  · exact h.1 k k0 kn e

/-- j: the child of i that is the least. -/
theorem HeapDn.step {ys : List Int} {n i j : Nat} (h : HeapDn ys n i) (hn : n ≤ ys.length) (hj : j < n) (h0 : 0 < j) (hp : par j = i) (hlt : ys.getD j 0 < ys.getD i 0)
    (hmin : ∀ k, 0 < k → k < n → par k = i → ys.getD j 0 ≤ ys.getD k 0) : HeapDn (swp ys i j) n j := by
  have hij := par_lt h0
  have hg := swp_get ys (show i < ys.length by omega) (show j < ys.length by omega)
  refine ⟨fun k k0 kn kne => ?_, fun k k0 kn kp _ => ?_⟩
  · have hpk := par_lt k0
    rw [hg k, hg (par k), if_neg kne]
    by_cases e1 : par k = i
    · rw [if_pos e1]
      by_cases e2 : k = j
      · rw [if_pos e2]; omega
      · rw [if_neg e2, if_neg (by omega)]
        exact hmin k k0 kn e1
    · rw [if_neg e1]
      have h1 := h.1 k k0 kn e1
      by_cases e2 : k = j
      · exact absurd (e2 ▸ hp) e1
      · rw [if_neg e2]
        by_cases e3 : k = i
        · rw [if_pos e3]
          subst e3
          exact h.2 j h0 hj hp k0
        · rw [if_neg e3]; exact h1
  · have hpk := par_lt k0
    rw [hg k, hg (par j), if_neg (by omega), if_pos hp, if_neg (by omega), if_neg (by omega)]
    have := h.1 k k0 kn (by omega)
    rw [kp] at this
    exact this

theorem HeapOn.least {ys : List Int} {n : Nat} (h : HeapOn ys n) : ∀ k, k < n → ys.getD 0 0 ≤ ys.getD k 0 := by
  intro k
  induction k using Nat.strongRecOn with
  | _ k ih =>
    intro hk
    by_cases h0 : k = 0
    · subst h0; exact Int.le_refl _
    · have hp := par_lt (Nat.pos_of_ne_zero h0)
      have h1 := ih (par k) hp (by omega)
      have h2 := h k (by omega) hk
      omega

theorem HeapOn.snoc {xs : List Int} (h : HeapOn xs xs.length) (n : Int) : HeapUp (xs ++ [n]) (xs ++ [n]).length xs.length := by
  refine ⟨fun k k0 kn kne => ?_, fun k kn k0 kp _ => ?_⟩
  · have hp := par_lt k0
    rw [List.length_append, List.length_cons, List.length_nil] at kn
    have e1 : ∀ j, j < xs.length → (xs ++ [n]).getD j 0 = xs.getD j 0 := fun j hj => by
      rw [List.getD_eq_getElem?_getD, List.getElem?_append_left hj, ← List.getD_eq_getElem?_getD]
    rw [e1 k (by omega), e1 (par k) (by omega)]
    exact h k k0 (by omega)
  · have hp := par_lt k0
    rw [List.length_append, List.length_cons, List.length_nil] at kn
    omega

theorem HeapOn.swap0 {xs : List Int} {n : Nat} (h : HeapOn xs xs.length) (hn : xs.length = n + 1) : HeapDn (swp xs 0 n) n 0 := by
  have hg := swp_get xs (show 0 < xs.length by omega) (show n < xs.length by omega)
  refine ⟨fun k k0 kn kp => ?_, fun k _ _ _ h0 => absurd h0 (Nat.lt_irrefl 0)⟩
  have hp := par_lt k0
  rw [hg k, hg (par k), if_neg (by omega), if_neg (by omega), if_neg (by omega), if_neg (by omega)]
  exact h k k0 (by omega)

theorem take_getD {ys : List Int} {n k : Nat} (h : k < n) : (ys.take n).getD k 0 = ys.getD k 0 := by
  rw [List.getD_eq_getElem?_getD, List.getElem?_take, if_pos h, ← List.getD_eq_getElem?_getD]

theorem HeapOn.take {ys : List Int} {n : Nat} (h : HeapOn ys n) (hn : n ≤ ys.length) : HeapOn (ys.take n) (ys.take n).length := fun k k0 kn => by
  rw [List.length_take] at kn
  have hp := par_lt k0
  rw [take_getD (by omega), take_getD (by omega)]
  exact h k k0 (by omega)

theorem take_last {ys : List Int} {n : Nat} (h : ys.length = n + 1) : ys = ys.take n ++ [ys.getD n 0] := by
  have h1 : n < ys.length := by omega
  conv => lhs; rw [← List.take_length (l := ys), h, List.take_succ_eq_append_getElem h1]
  simp [h1]

end Go.Proofs.YteokoaggkpjdeaaDoor
