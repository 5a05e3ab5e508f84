/- Plain words on literals and normal lists: no program here. -/
namespace Go.Proofs.YteokoaggkpjdeaaDoor

/-- An integer of 64 bits. -/
def I64 (n : Int) : Prop := -9223372036854775808 ≤ n ∧ n ≤ 9223372036854775807
/-- All numbers of a list have 64 bits. -/
def All64 (xs : List Int) : Prop := ∀ x ∈ xs, I64 x
/-- All lists of integers of 64 bits. -/
def All64L (xss : List (List Int)) : Prop := ∀ xs ∈ xss, All64 xs

def varOf (n : Int) : Int := if n.natAbs ≤ 65536 then (n.natAbs : Int) else 0

theorem varOf_range (n : Int) : 0 ≤ varOf n ∧ varOf n ≤ 65536 := by unfold varOf; split <;> omega
theorem varOf_neg (n : Int) : varOf (-n) = varOf n := by unfold varOf; rw [Int.natAbs_neg]
theorem varOf_eq {n : Int} (h : varOf n ≠ 0) : (n.natAbs : Int) = varOf n ∧ n ≠ 0 := by unfold varOf at *; split at h <;> simp_all
theorem varOf_inj {a b : Int} (h : varOf a ≠ 0) (e : varOf a = varOf b) : a = b ∨ a = -b := by
  have h1 := varOf_eq h
  have h2 := varOf_eq (n := b) (by rw [← e]; exact h)
  omega

/-- The literals of a list from a last variable on are normal. -/
def mayFrom : Int → List Int → Bool
  | _, [] => true
  | last, x :: xs => if varOf x ≤ last then false else mayFrom (varOf x) xs
def mayB (xs : List Int) : Bool := mayFrom 0 xs

theorem mayFrom_drop (last : Int) (xs : List Int) (k : Nat) (h : k < xs.length) :
    mayFrom last (xs.drop k) = if varOf xs[k] ≤ last then false else mayFrom (varOf xs[k]) (xs.drop (k + 1)) := by
  rw [List.drop_eq_getElem_cons h]; rfl

/-- Normal: the variables ascend. -/
def Asc (xs : List Int) : Prop := xs.Pairwise (fun a b => varOf a < varOf b) ∧ ∀ x ∈ xs, 0 < varOf x

theorem mayFrom_iff (xs : List Int) : ∀ last, 0 ≤ last → (mayFrom last xs = true ↔ xs.Pairwise (fun a b => varOf a < varOf b) ∧ ∀ x ∈ xs, last < varOf x) := by
  induction xs with
  | nil => intro last _; simp [mayFrom]
  | cons x xs ih =>
    intro last h0
    unfold mayFrom
    by_cases h : varOf x ≤ last
    · rw [if_pos h]
      simp only [Bool.false_eq_true, false_iff]
      rintro ⟨_, h2⟩
      have := h2 x (by simp)
      omega
    · rw [if_neg h, ih _ (by omega), List.pairwise_cons]
      constructor
      · rintro ⟨h1, h2⟩
        refine ⟨⟨h2, h1⟩, fun y hy => ?_⟩
        rcases List.mem_cons.1 hy with rfl | hy
        · omega
        · have := h2 y hy; omega
      · rintro ⟨⟨h1, h2⟩, h3⟩
        exact ⟨h2, h1⟩

theorem mayB_iff (xs : List Int) : mayB xs = true ↔ Asc xs := mayFrom_iff xs 0 (Int.le_refl _)

theorem asc_len_from : ∀ (xs : List Int) (last : Int), 0 ≤ last → xs.Pairwise (fun a b => varOf a < varOf b) → (∀ x ∈ xs, last < varOf x) → last ≤ 65536 → last + xs.length ≤ 65536 := by
  intro xs
  induction xs with
  | nil => intro last _ _ _ h; simpa using h
  | cons x xs ih =>
    intro last h0 hp hl hm
    rw [List.pairwise_cons] at hp
    have h1 := hl x (by simp)
    have h2 := varOf_range x
    have := ih (varOf x) (by omega) hp.2 hp.1 h2.2
    simp only [List.length_cons]
    omega

theorem Asc.len {xs : List Int} (h : Asc xs) : xs.length ≤ 65536 := by
  have := asc_len_from xs 0 (Int.le_refl _) h.1 h.2 (by omega)
  omega
theorem may_len {xs : List Int} (h : mayB xs = true) : xs.length ≤ 65536 := ((mayB_iff xs).1 h).len

theorem Asc.lt {xs : List Int} (h : Asc xs) (i j : Nat) (hij : i < j) (hj : j < xs.length) : varOf xs[i] < varOf xs[j] :=
  List.pairwise_iff_getElem.1 h.1 i j (by omega) hj hij

/-- What Search comes to. -/
def SearchAt (p : Nat → Bool) (n : Nat) (r : Nat) : Prop := r ≤ n ∧ (r < n → p r = true) ∧ (0 < r → p (r - 1) = false)

def lookI (xs : List Int) (lit : Int) : Int := if varOf lit = 0 then 0 else if lit ∈ xs then 1 else if -lit ∈ xs then 2 else 0

/-- The place of a variable in a normal list. -/
theorem look_place {xs : List Int} (ha : Asc xs) {lit : Int} {r : Nat} (hs : SearchAt (fun k => decide (varOf lit ≤ varOf (xs.getD k 0))) xs.length r) :
    (∀ (k : Nat) (hk : k < xs.length), varOf xs[k] = varOf lit → k = r) := by
  intro k hk he
  obtain ⟨h1, h2, h3⟩ := hs
  rcases Nat.lt_trichotomy k r with h | h | h
  · have h4 := h3 (by omega)
    have hr1 : r - 1 < xs.length := by omega
    simp only [List.getD_eq_getElem?_getD, List.getElem?_eq_getElem hr1, Option.getD_some, decide_eq_false_iff_not] at h4
    rcases Nat.lt_or_ge k (r - 1) with h5 | h5
    · have := ha.lt k (r - 1) h5 hr1; omega
    · obtain rfl : k = r - 1 := by omega
      omega
  · exact h
  · have h4 := h2 (by omega)
    have hr1 : r < xs.length := by omega
    simp only [List.getD_eq_getElem?_getD, List.getElem?_eq_getElem hr1, Option.getD_some, decide_eq_true_eq] at h4
    have := ha.lt r k h hk
    omega

theorem look_none {xs : List Int} (ha : Asc xs) {lit : Int} (hv : varOf lit ≠ 0) {r : Nat} (hs : SearchAt (fun k => decide (varOf lit ≤ varOf (xs.getD k 0))) xs.length r)
    (hr : ∀ h : r < xs.length, varOf xs[r] ≠ varOf lit) : lookI xs lit = 0 := by
  have hp := look_place ha hs
  have no : ∀ x ∈ xs, varOf x ≠ varOf lit := by
    intro x hx he
    obtain ⟨k, hk, rfl⟩ := List.getElem_of_mem hx
    obtain rfl := hp k hk he
    exact hr hk he
  unfold lookI
  rw [if_neg hv, if_neg (fun h => no _ h rfl), if_neg (fun h => no _ h (varOf_neg lit))]

theorem look_at {xs : List Int} (ha : Asc xs) {lit : Int} (hv : varOf lit ≠ 0) {r : Nat} (hs : SearchAt (fun k => decide (varOf lit ≤ varOf (xs.getD k 0))) xs.length r)
    (h : r < xs.length) (hr : varOf xs[r] = varOf lit) : lookI xs lit = if xs[r] = lit then 1 else 2 := by
  have hp := look_place ha hs
  unfold lookI
  rw [if_neg hv]
  by_cases he : xs[r] = lit
  · rw [if_pos he, if_pos (he ▸ List.getElem_mem h)]
  · have hn : lit ∉ xs := by
      intro hx
      obtain ⟨k, hk, hk'⟩ := List.getElem_of_mem hx
      obtain rfl := hp k hk (by rw [hk'])
      exact he hk'
    have h2 : xs[r] = -lit := by
      rcases varOf_inj (by rw [hr]; exact hv) hr with h | h
      · exact absurd h he
      · exact h
    rw [if_neg he, if_neg hn, if_pos (h2 ▸ List.getElem_mem h)]

/-- The sum of the lengths of the first k lists. -/
def lens (xss : List (List Int)) (k : Nat) : Nat := ((xss.take k).map List.length).sum

def mayCnfB (xss : List (List Int)) : Bool := decide (xss.length ≤ 20000) && (List.range xss.length).all fun k => decide (lens xss (k + 1) ≤ 200000) && mayB (xss.getD k [])

theorem lens_succ (xss : List (List Int)) (k : Nat) (h : k < xss.length) : lens xss (k + 1) = lens xss k + xss[k].length := by
  unfold lens
  rw [List.take_succ_eq_append_getElem h, List.map_append, List.sum_append]; simp

/-- All lengths together. -/
def total (xss : List (List Int)) : Nat := lens xss xss.length

theorem lens_le (xss : List (List Int)) (k : Nat) : lens xss k ≤ total xss := by
  unfold total lens
  rw [List.take_length]
  conv => rhs; rw [← List.take_append_drop k xss, List.map_append, List.sum_append]
  omega

theorem mayCnfB_get {f : List (List Int)} (h : mayCnfB f = true) (k : Nat) (hk : k < f.length) : mayB f[k] = true := by
  unfold mayCnfB at h
  rw [Bool.and_eq_true, List.all_eq_true] at h
  have := h.2 k (by simpa using hk)
  rw [Bool.and_eq_true] at this
  simpa [hk] using this.2
theorem mayCnfB_len {f : List (List Int)} (h : mayCnfB f = true) : f.length ≤ 20000 := by
  unfold mayCnfB at h
  rw [Bool.and_eq_true] at h
  simpa using h.1

theorem getD_of (xss : List (List Int)) (k : Nat) (h : k < xss.length) : xss.getD k [] = xss[k] := by simp [h]
theorem getD_int (xs : List Int) (k : Nat) (h : k < xs.length) : xs.getD k 0 = xs[k] := by simp [h]


/-- asg.search: end if a thing has that value, rest if all have the other one, otherwise 0. -/
def searchG (g : Nat → Int) (n : Nat) (a b : Int) : Int := if ∃ j, j < n ∧ g j = a then a else if ∃ j, j < n ∧ g j = 0 then 0 else b

theorem searchG_found {g : Nat → Int} {n k : Nat} {a b : Int} (hk : k < n) (h : g k = a) : searchG g n a b = a := by
  unfold searchG
  rw [if_pos ⟨k, hk, h⟩]

theorem searchG_end {g : Nat → Int} {n : Nat} {a b r : Int} (h : ∀ j, j < n → g j ≠ a) (hr : r = if ∃ j, j < n ∧ g j = 0 then 0 else b) : r = searchG g n a b := by
  unfold searchG
  rw [if_neg (fun ⟨j, hj, he⟩ => h j hj he), hr]

theorem searchG_skip {g : Nat → Int} {k : Nat} {b : Int} (h : g k ≠ 0) : (if ∃ j, j < k ∧ g j = 0 then 0 else b) = if ∃ j, j < k + 1 ∧ g j = 0 then 0 else b := by
  by_cases h1 : ∃ j, j < k ∧ g j = 0
  · obtain ⟨j, hj, he⟩ := h1
    rw [if_pos ⟨j, hj, he⟩, if_pos ⟨j, by omega, he⟩]
  · rw [if_neg h1, if_neg]
    rintro ⟨j, hj, he⟩
    by_cases hjk : j = k
    · exact h (hjk ▸ he)
    · exact h1 ⟨j, by omega, he⟩

def clauseV (xs cs : List Int) : Int := searchG (fun k => lookI xs (cs.getD k 0)) cs.length 1 2
def cubeV (xs cs : List Int) : Int := searchG (fun k => lookI xs (cs.getD k 0)) cs.length 2 1
def cnfV (xs : List Int) (f : List (List Int)) : Int := searchG (fun k => clauseV xs (f.getD k [])) f.length 2 1

def ValueV (xs : List Int) (lit : Int) : Int := if mayB xs = true then lookI xs lit else 0
def ClauseV (xs cs : List Int) : Int := if mayB xs = true ∧ mayB cs = true then clauseV xs cs else 0
def CubeV (xs cs : List Int) : Int := if mayB xs = true ∧ mayB cs = true then cubeV xs cs else 0
def CnfV (xs : List Int) (f : List (List Int)) : Int := if mayB xs = true ∧ mayCnfB f = true then cnfV xs f else 0

/-- asg.Under of a normal assignment and a CNF. -/
def underL (xs : List Int) (f : List (List Int)) : List (List Int) := (f.filter (fun c => !(clauseV xs c == 1))).map (fun c => c.filter (fun x => !(lookI xs x == 2)))
def UnderV (xs : List Int) (f : List (List Int)) : List (List Int) := if mayB xs = true ∧ mayCnfB f = true then underL xs f else []

theorem underL_take (xs : List Int) (f : List (List Int)) (k : Nat) (h : k < f.length) :
    underL xs (f.take (k + 1)) = underL xs (f.take k) ++ if clauseV xs f[k] = 1 then [] else [f[k].filter (fun x => !(lookI xs x == 2))] := by
  unfold underL
  rw [List.take_succ_eq_append_getElem h, List.filter_append, List.map_append]
  by_cases hc : clauseV xs f[k] = 1 <;> simp [hc]

theorem underL_len (xs : List Int) (f : List (List Int)) : (underL xs f).length ≤ f.length := by
  unfold underL
  rw [List.length_map]
  exact List.length_filter_le _ _

end Go.Proofs.YteokoaggkpjdeaaDoor
