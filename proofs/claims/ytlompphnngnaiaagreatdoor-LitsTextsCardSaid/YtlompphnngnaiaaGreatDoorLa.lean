/- Plain words on literals and normal lists: no program here. Plain law of joining two normal lists: the merge of the program and the insertion of the reference. The variables of lists of literals. Plain facts on a sorted list from which equal neighbours are struck. Plain law of lists of literals: negating, leaving out, resolving, striking. Plain law of the order of lists of literals, and of sorting them. Plain law of the texts of lists of literals. -/
import Derived.Lib.SlicesCompact
import Derived.Sort.Statements
import Derived.Lib.Join
import Derived.Lib.SplitLaws
import Derived.Lib.AtoiAll
import Derived.Lib.ItoaMem
namespace Go.Proofs.YtlompphnngnaiaaGreatDoor

/-- An integer of 64 bits. -/
def I64 (n : Int) : Prop := -9223372036854775808 ≤ n ∧ n ≤ 9223372036854775807
/-- All numbers of a list have 64 bits. -/
def All64 (xs : List Int) : Prop := ∀ x ∈ xs, I64 x
/-- All lists of integers of 64 bits. -/
def All64L (xss : List (List Int)) : Prop := ∀ xs ∈ xss, All64 xs

def varOf (n : Int) : Int := if n.natAbs ≤ 65536 then (n.natAbs : Int) else 0

theorem varOf_range (n : Int) : 0 ≤ varOf n ∧ varOf n ≤ 65536 := by unfold varOf; split <;> omega
theorem varOf_neg (n : Int) : varOf (-n) = varOf n := by unfold varOf; rw [Int.natAbs_neg]
theorem varOf_eq {n : Int} (h : varOf n ≠ 0) : (n.natAbs : Int) = varOf n ∧ n ≠ 0 := by unfold varOf at *; split at h <;> simp_all
theorem varOf_inj {a b : Int} (h : varOf a ≠ 0) (e : varOf a = varOf b) : a = b ∨ a = -b := by
  have h1 := varOf_eq h
  have h2 := varOf_eq (n := b) (by rw [← e]; exact h)
  omega

/-- The literals of a list from a last variable on are normal. -/
def mayFrom : Int → List Int → Bool
  | _, [] => true
  | last, x :: xs => if varOf x ≤ last then false else mayFrom (varOf x) xs
def mayB (xs : List Int) : Bool := mayFrom 0 xs

theorem mayFrom_drop (last : Int) (xs : List Int) (k : Nat) (h : k < xs.length) :
    mayFrom last (xs.drop k) = if varOf xs[k] ≤ last then false else mayFrom (varOf xs[k]) (xs.drop (k + 1)) := by
  rw [List.drop_eq_getElem_cons h]; rfl

/-- Normal: the variables ascend. -/
def Asc (xs : List Int) : Prop := xs.Pairwise (fun a b => varOf a < varOf b) ∧ ∀ x ∈ xs, 0 < varOf x

theorem mayFrom_iff (xs : List Int) : ∀ last, 0 ≤ last → (mayFrom last xs = true ↔ xs.Pairwise (fun a b => varOf a < varOf b) ∧ ∀ x ∈ xs, last < varOf x) := by
  induction xs with
  | nil => intro last _; simp [mayFrom]
  | cons x xs ih =>
    intro last h0
    unfold mayFrom
    by_cases h : varOf x ≤ last
    · rw [if_pos h]
      simp only [Bool.false_eq_true, false_iff]
      rintro ⟨_, h2⟩
      have := h2 x (by simp)
      omega
    · rw [if_neg h, ih _ (by omega), List.pairwise_cons]
      constructor
      · rintro ⟨h1, h2⟩
        refine ⟨⟨h2, h1⟩, fun y hy => ?_⟩
        rcases List.mem_cons.1 hy with rfl | hy
        · omega
        · have := h2 y hy; omega
      · rintro ⟨⟨h1, h2⟩, h3⟩
        exact ⟨h2, h1⟩

theorem mayB_iff (xs : List Int) : mayB xs = true ↔ Asc xs := mayFrom_iff xs 0 (Int.le_refl _)

theorem asc_len_from : ∀ (xs : List Int) (last : Int), 0 ≤ last → xs.Pairwise (fun a b => varOf a < varOf b) → (∀ x ∈ xs, last < varOf x) → last ≤ 65536 → last + xs.length ≤ 65536 := by
  intro xs
  induction xs with
  | nil => intro last _ _ _ h; simpa using h
  | cons x xs ih =>
    intro last h0 hp hl hm
    rw [List.pairwise_cons] at hp
    have h1 := hl x (by simp)
    have h2 := varOf_range x
    have := ih (varOf x) (by omega) hp.2 hp.1 h2.2
    simp only [List.length_cons]
    omega

theorem Asc.len {xs : List Int} (h : Asc xs) : xs.length ≤ 65536 := by
  have := asc_len_from xs 0 (Int.le_refl _) h.1 h.2 (by omega)
  omega
theorem may_len {xs : List Int} (h : mayB xs = true) : xs.length ≤ 65536 := ((mayB_iff xs).1 h).len

theorem Asc.lt {xs : List Int} (h : Asc xs) (i j : Nat) (hij : i < j) (hj : j < xs.length) : varOf xs[i] < varOf xs[j] :=
  List.pairwise_iff_getElem.1 h.1 i j (by omega) hj hij

/-- What Search comes to. -/
def SearchAt (p : Nat → Bool) (n : Nat) (r : Nat) : Prop := r ≤ n ∧ (r < n → p r = true) ∧ (0 < r → p (r - 1) = false)

def lookI (xs : List Int) (lit : Int) : Int := if varOf lit = 0 then 0 else if lit ∈ xs then 1 else if -lit ∈ xs then 2 else 0

/-- The place of a variable in a normal list. -/
theorem look_place {xs : List Int} (ha : Asc xs) {lit : Int} {r : Nat} (hs : SearchAt (fun k => decide (varOf lit ≤ varOf (xs.getD k 0))) xs.length r) :
    (∀ (k : Nat) (hk : k < xs.length), varOf xs[k] = varOf lit → k = r) := by
  intro k hk he
  obtain ⟨h1, h2, h3⟩ := hs
  rcases Nat.lt_trichotomy k r with h | h | h
  · have h4 := h3 (by omega)
    have hr1 : r - 1 < xs.length := by omega
    simp only [List.getD_eq_getElem?_getD, List.getElem?_eq_getElem hr1, Option.getD_some, decide_eq_false_iff_not] at h4
    rcases Nat.lt_or_ge k (r - 1) with h5 | h5
    · have := ha.lt k (r - 1) h5 hr1; omega
    · obtain rfl : k = r - 1 := by omega
      omega
  · exact h
  · have h4 := h2 (by omega)
    have hr1 : r < xs.length := by omega
    simp only [List.getD_eq_getElem?_getD, List.getElem?_eq_getElem hr1, Option.getD_some, decide_eq_true_eq] at h4
    have := ha.lt r k h hk
    omega

theorem look_none {xs : List Int} (ha : Asc xs) {lit : Int} (hv : varOf lit ≠ 0) {r : Nat} (hs : SearchAt (fun k => decide (varOf lit ≤ varOf (xs.getD k 0))) xs.length r)
    (hr : ∀ h : r < xs.length, varOf xs[r] ≠ varOf lit) : lookI xs lit = 0 := by
  have hp := look_place ha hs
  have no : ∀ x ∈ xs, varOf x ≠ varOf lit := by
    intro x hx he
    obtain ⟨k, hk, rfl⟩ := List.getElem_of_mem hx
    obtain rfl := hp k hk he
    exact hr hk he
  unfold lookI
  rw [if_neg hv, if_neg (fun h => no _ h rfl), if_neg (fun h => no _ h (varOf_neg lit))]

theorem look_at {xs : List Int} (ha : Asc xs) {lit : Int} (hv : varOf lit ≠ 0) {r : Nat} (hs : SearchAt (fun k => decide (varOf lit ≤ varOf (xs.getD k 0))) xs.length r)
    (h : r < xs.length) (hr : varOf xs[r] = varOf lit) : lookI xs lit = if xs[r] = lit then 1 else 2 := by
  have hp := look_place ha hs
  unfold lookI
  rw [if_neg hv]
  by_cases he : xs[r] = lit
  · rw [if_pos he, if_pos (he ▸ List.getElem_mem h)]
  · have hn : lit ∉ xs := by
      intro hx
      obtain ⟨k, hk, hk'⟩ := List.getElem_of_mem hx
      obtain rfl := hp k hk (by rw [hk'])
      exact he hk'
    have h2 : xs[r] = -lit := by
      rcases varOf_inj (by rw [hr]; exact hv) hr with h | h
      · exact absurd h he
      · exact h
    rw [if_neg he, if_neg hn, if_pos (h2 ▸ List.getElem_mem h)]

/-- The sum of the lengths of the first k lists. -/
def lens (xss : List (List Int)) (k : Nat) : Nat := ((xss.take k).map List.length).sum

def mayCnfB (xss : List (List Int)) : Bool := decide (xss.length ≤ 20000) && (List.range xss.length).all fun k => decide (lens xss (k + 1) ≤ 200000) && mayB (xss.getD k [])

theorem lens_succ (xss : List (List Int)) (k : Nat) (h : k < xss.length) : lens xss (k + 1) = lens xss k + xss[k].length := by
  unfold lens
  rw [List.take_succ_eq_append_getElem h, List.map_append, List.sum_append]; simp

/-- All lengths together. -/
def total (xss : List (List Int)) : Nat := lens xss xss.length

theorem lens_le (xss : List (List Int)) (k : Nat) : lens xss k ≤ total xss := by
  unfold total lens
  rw [List.take_length]
  conv => rhs; rw [← List.take_append_drop k xss, List.map_append, List.sum_append]
  omega

theorem mayCnfB_get {f : List (List Int)} (h : mayCnfB f = true) (k : Nat) (hk : k < f.length) : mayB f[k] = true := by
  unfold mayCnfB at h
  rw [Bool.and_eq_true, List.all_eq_true] at h
  have := h.2 k (by simpa using hk)
  rw [Bool.and_eq_true] at this
  simpa [hk] using this.2
theorem mayCnfB_len {f : List (List Int)} (h : mayCnfB f = true) : f.length ≤ 20000 := by
  unfold mayCnfB at h
  rw [Bool.and_eq_true] at h
  simpa using h.1

theorem getD_of (xss : List (List Int)) (k : Nat) (h : k < xss.length) : xss.getD k [] = xss[k] := by simp [h]
theorem getD_int (xs : List Int) (k : Nat) (h : k < xs.length) : xs.getD k 0 = xs[k] := by simp [h]


/-- asg.search: end if a thing has that value, rest if all have the other one, otherwise 0. -/
def searchG (g : Nat → Int) (n : Nat) (a b : Int) : Int := if ∃ j, j < n ∧ g j = a then a else if ∃ j, j < n ∧ g j = 0 then 0 else b

theorem searchG_found {g : Nat → Int} {n k : Nat} {a b : Int} (hk : k < n) (h : g k = a) : searchG g n a b = a := by
  unfold searchG
  rw [if_pos ⟨k, hk, h⟩]

theorem searchG_end {g : Nat → Int} {n : Nat} {a b r : Int} (h : ∀ j, j < n → g j ≠ a) (hr : r = if ∃ j, j < n ∧ g j = 0 then 0 else b) : r = searchG g n a b := by
  unfold searchG
  rw [if_neg (fun ⟨j, hj, he⟩ => h j hj he), hr]

theorem searchG_skip {g : Nat → Int} {k : Nat} {b : Int} (h : g k ≠ 0) : (if ∃ j, j < k ∧ g j = 0 then 0 else b) = if ∃ j, j < k + 1 ∧ g j = 0 then 0 else b := by
  by_cases h1 : ∃ j, j < k ∧ g j = 0
  · obtain ⟨j, hj, he⟩ := h1
    rw [if_pos ⟨j, hj, he⟩, if_pos ⟨j, by omega, he⟩]
  · rw [if_neg h1, if_neg]
    rintro ⟨j, hj, he⟩
    by_cases hjk : j = k
    · exact h (hjk ▸ he)
    · exact h1 ⟨j, by omega, he⟩

def clauseV (xs cs : List Int) : Int := searchG (fun k => lookI xs (cs.getD k 0)) cs.length 1 2
def cubeV (xs cs : List Int) : Int := searchG (fun k => lookI xs (cs.getD k 0)) cs.length 2 1
def cnfV (xs : List Int) (f : List (List Int)) : Int := searchG (fun k => clauseV xs (f.getD k [])) f.length 2 1

def ValueV (xs : List Int) (lit : Int) : Int := if mayB xs = true then lookI xs lit else 0
def ClauseV (xs cs : List Int) : Int := if mayB xs = true ∧ mayB cs = true then clauseV xs cs else 0
def CubeV (xs cs : List Int) : Int := if mayB xs = true ∧ mayB cs = true then cubeV xs cs else 0
def CnfV (xs : List Int) (f : List (List Int)) : Int := if mayB xs = true ∧ mayCnfB f = true then cnfV xs f else 0

/-- asg.Under of a normal assignment and a CNF. -/
def underL (xs : List Int) (f : List (List Int)) : List (List Int) := (f.filter (fun c => !(clauseV xs c == 1))).map (fun c => c.filter (fun x => !(lookI xs x == 2)))
def UnderV (xs : List Int) (f : List (List Int)) : List (List Int) := if mayB xs = true ∧ mayCnfB f = true then underL xs f else []

theorem underL_take (xs : List Int) (f : List (List Int)) (k : Nat) (h : k < f.length) :
    underL xs (f.take (k + 1)) = underL xs (f.take k) ++ if clauseV xs f[k] = 1 then [] else [f[k].filter (fun x => !(lookI xs x == 2))] := by
  unfold underL
  rw [List.take_succ_eq_append_getElem h, List.filter_append, List.map_append]
  by_cases hc : clauseV xs f[k] = 1 <;> simp [hc]

theorem underL_len (xs : List Int) (f : List (List Int)) : (underL xs f).length ≤ f.length := by
  unfold underL
  rw [List.length_map]
  exact List.length_filter_le _ _

end Go.Proofs.YtlompphnngnaiaaGreatDoor
namespace Go.Proofs.YtlompphnngnaiaaGreatDoor

theorem sorted_ext {α : Type} {r : α → α → Prop} (asym : ∀ a b, r a b → r b a → False) : ∀ {l l' : List α}, l.Pairwise r → l'.Pairwise r → (∀ x, x ∈ l ↔ x ∈ l') → l = l'
  | [], [], _, _, _ => rfl
  | [], y :: l', _, _, h => absurd ((h y).2 (by simp)) (by simp)
  | x :: l, [], _, _, h => absurd ((h x).1 (by simp)) (by simp)
  | x :: l, y :: l', h1, h2, h => by
    rw [List.pairwise_cons] at h1 h2
    have exy : x = y := by
      rcases List.mem_cons.1 ((h x).1 (by simp)) with e | e
      · exact e
      · rcases List.mem_cons.1 ((h y).2 (by simp)) with e' | e'
        · exact e'.symm
        · exact (asym _ _ (h2.1 x e) (h1.1 y e')).elim
    subst exy
    have : l = l' := sorted_ext asym h1.2 h2.2 fun z => by
      constructor
      · intro hz
        rcases List.mem_cons.1 ((h z).1 (by simp [hz])) with e | e
        · subst e; exact (asym _ _ (h1.1 z hz) (h1.1 z hz)).elim
        · exact e
      · intro hz
        rcases List.mem_cons.1 ((h z).2 (by simp [hz])) with e | e
        · subst e; exact (asym _ _ (h2.1 z hz) (h2.1 z hz)).elim
        · exact e
    rw [this]

/-- The order of literals. -/
def blt (a b : Int) : Prop := a.natAbs < b.natAbs ∨ (a.natAbs = b.natAbs ∧ a < b)
instance (a b : Int) : Decidable (blt a b) := by unfold blt; infer_instance

theorem blt_asym (a b : Int) (h : blt a b) (k : blt b a) : False := by unfold blt at *; omega
theorem blt_trans {a b c : Int} (h : blt a b) (k : blt b c) : blt a c := by unfold blt at *; omega
theorem blt_tri (a b : Int) : blt a b ∨ a = b ∨ blt b a := by unfold blt; omega
theorem blt_of_var {a b : Int} (h : varOf a < varOf b) : 0 < varOf a → blt a b := by
  intro h0
  have h1 := varOf_eq (n := a) (by omega)
  have h2 := varOf_eq (n := b) (by omega)
  unfold blt; omega
theorem var_of_blt {a b : Int} (ha : 0 < varOf a) (hb : 0 < varOf b) (h : blt a b) : varOf a < varOf b ∨ (varOf a = varOf b ∧ a = -b ∧ a < b) := by
  have h1 := varOf_eq (n := a) (by omega)
  have h2 := varOf_eq (n := b) (by omega)
  unfold blt at h
  omega

theorem asc_blt {xs : List Int} (h : Asc xs) : xs.Pairwise blt :=
  List.Pairwise.imp_of_mem (fun {a _} ha _ hab => blt_of_var hab (h.2 a ha)) h.1

theorem asc_ext {xs ys : List Int} (h : Asc xs) (k : Asc ys) (he : ∀ x, x ∈ xs ↔ x ∈ ys) : xs = ys := sorted_ext blt_asym (asc_blt h) (asc_blt k) he

/-- In a normal list a variable stands once. -/
theorem Asc.inj {xs : List Int} (h : Asc xs) {x y : Int} (hx : x ∈ xs) (hy : y ∈ xs) (e : varOf x = varOf y) : x = y := by
  obtain ⟨i, hi, rfl⟩ := List.getElem_of_mem hx
  obtain ⟨j, hj, rfl⟩ := List.getElem_of_mem hy
  rcases Nat.lt_trichotomy i j with h1 | h1 | h1
  · have := h.lt i j h1 hj; omega
  · subst h1; rfl
  · have := h.lt j i h1 hi; omega

/-- A strictly ordered list of literals is normal exactly if it holds no literal with its negation. -/
theorem may_iff_clash {xs : List Int} (h : xs.Pairwise blt) (hl : ∀ x ∈ xs, 0 < varOf x) : mayB xs = true ↔ ∀ x, x ∈ xs → -x ∈ xs → False := by
  rw [mayB_iff]
  constructor
  · intro ha x hx hn
    have := ha.inj hx hn (varOf_neg x).symm
    have h1 := varOf_eq (n := x) (by have := hl x hx; omega)
    omega
  · intro hc
    refine ⟨List.Pairwise.imp_of_mem (fun {a b} ha hb hab => ?_) h, hl⟩
    rcases var_of_blt (hl a ha) (hl b hb) hab with h1 | ⟨_, h1, _⟩
    · exact h1
    · subst h1
      exact (hc b hb ha).elim

/-- Insertion into a strictly ordered list. -/
def withL : List Int → Int → List Int
  | [], x => [x]
  | y :: l, x => if blt y x then y :: withL l x else if y = x then y :: l else x :: y :: l

theorem mem_withL (l : List Int) (x z : Int) : z ∈ withL l x ↔ z = x ∨ z ∈ l := by
  induction l with
  | nil => simp [withL]
  | cons y l ih =>
    unfold withL
    split
    · rw [List.mem_cons, ih, List.mem_cons]
      constructor
      · rintro (h | h | h)
        · exact .inr (.inl h)
        · exact .inl h
        · exact .inr (.inr h)
      · rintro (h | h | h)
        · exact .inr (.inl h)
        · exact .inl h
        · exact .inr (.inr h)
    · split
      · rename_i h; subst h
        constructor
        · exact .inr
        · rintro (h | h)
          · rw [h]; exact List.mem_cons_self
          · exact h
      · rw [List.mem_cons]
theorem withL_sorted {l : List Int} (x : Int) (h : l.Pairwise blt) : (withL l x).Pairwise blt := by
  induction l with
  | nil => simp [withL]
  | cons y l ih =>
    rw [List.pairwise_cons] at h
    unfold withL
    split
    · rename_i hyx
      rw [List.pairwise_cons]
      refine ⟨fun z hz => ?_, ih h.2⟩
      rcases (mem_withL l x z).1 hz with rfl | hz
      · exact hyx
      · exact h.1 z hz
    · split
      · exact List.pairwise_cons.2 h
      · rename_i h1 h2
        have hxy : blt x y := by
          rcases blt_tri x y with h3 | h3 | h3
          · exact h3
          · exact absurd h3.symm h2
          · exact absurd h3 h1
        refine List.pairwise_cons.2 ⟨fun z hz => ?_, List.pairwise_cons.2 h⟩
        rcases List.mem_cons.1 hz with rfl | hz
        · exact hxy
        · exact blt_trans hxy (h.1 z hz)
theorem withL_len (l : List Int) (x : Int) : (withL l x).length ≤ l.length + 1 := by
  induction l with
  | nil => simp [withL]
  | cons y l ih =>
    unfold withL
    split
    · simpa using ih
    · split <;> simp

/-- The set of literals of a list, in order. -/
def setL (base l : List Int) : List Int := l.foldl withL base
theorem mem_setL (l : List Int) : ∀ (base : List Int) (z : Int), z ∈ setL base l ↔ z ∈ base ∨ z ∈ l := by
  induction l with
  | nil => intro base z; simp [setL]
  | cons x l ih =>
    intro base z
    show z ∈ setL (withL base x) l ↔ _
    rw [ih, mem_withL, List.mem_cons]
    constructor
    · rintro ((h | h) | h)
      · exact .inr (.inl h)
      · exact .inl h
      · exact .inr (.inr h)
    · rintro (h | h | h)
      · exact .inl (.inr h)
      · exact .inl (.inl h)
      · exact .inr h
theorem setL_sorted (l : List Int) : ∀ {base : List Int}, base.Pairwise blt → (setL base l).Pairwise blt := by
  induction l with
  | nil => intro base h; exact h
  | cons x l ih => intro base h; exact ih (withL_sorted x h)
theorem setL_len (l : List Int) : ∀ (base : List Int), (setL base l).length ≤ base.length + l.length := by
  induction l with
  | nil => intro base; simp [setL]
  | cons x l ih =>
    intro base
    have h1 := ih (withL base x)
    have h2 := withL_len base x
    show (setL (withL base x) l).length ≤ _
    simp only [List.length_cons]; omega
theorem setL_snoc (l : List Int) (base : List Int) (x : Int) : setL base (l ++ [x]) = withL (setL base l) x := by
  unfold setL; rw [List.foldl_append]; rfl

/-- What the merge comes to: p tells for two literals of one variable whether the merging goes on. -/
def mergeL (p : Int → Int → Bool) : List Int → List Int → Option (List Int)
  | [], b => some b
  | x :: a, [] => some (x :: a)
  | x :: a, y :: b =>
    if varOf x < varOf y then (mergeL p a (y :: b)).map (x :: ·)
    else if varOf y < varOf x then (mergeL p (x :: a) b).map (y :: ·)
    else if p x y = false then none
    else if x = y then (mergeL p a b).map (x :: ·) else mergeL p a b
termination_by a b => a.length + b.length

theorem mergeL_nil (p : Int → Int → Bool) (a : List Int) : mergeL p a [] = some a := by cases a <;> rw [mergeL]

theorem mergeL_len (p : Int → Int → Bool) (a b : List Int) : ∀ {c}, mergeL p a b = some c → c.length ≤ a.length + b.length := by
  induction a, b using mergeL.induct (p := p) with
  | case1 _ => intro c h; rw [mergeL] at h; cases h; simp
  | case2 x a => intro c h; rw [mergeL] at h; cases h; simp
  | case3 x a y b h1 ih =>
    intro c h; rw [mergeL, if_pos h1] at h
    obtain ⟨d, hd, rfl⟩ := Option.map_eq_some_iff.1 h
    have := ih hd
    simp only [List.length_cons] at *; omega
  | case4 x a y b h1 h2 ih =>
    intro c h; rw [mergeL, if_neg h1, if_pos h2] at h
    obtain ⟨d, hd, rfl⟩ := Option.map_eq_some_iff.1 h
    have := ih hd
    simp only [List.length_cons] at *; omega
  | case5 x a y b h1 h2 h3 => intro c h; rw [mergeL, if_neg h1, if_neg h2, if_pos h3] at h; cases h
  | case6 a x b h1 h2 h3 ih =>
    intro c h; rw [mergeL, if_neg h1, if_neg h2, if_neg h3, if_pos rfl] at h
    obtain ⟨d, hd, rfl⟩ := Option.map_eq_some_iff.1 h
    have := ih hd
    simp only [List.length_cons] at *; omega
  | case7 x a y b h1 h2 h3 h4 ih =>
    intro c h; rw [mergeL, if_neg h1, if_neg h2, if_neg h3, if_neg h4] at h
    have := ih h
    simp only [List.length_cons] at *; omega


theorem Asc.tail {x : Int} {a : List Int} (h : Asc (x :: a)) : Asc a := ⟨(List.pairwise_cons.1 h.1).2, fun z hz => h.2 z (by simp [hz])⟩
theorem Asc.head {x : Int} {a : List Int} (h : Asc (x :: a)) : 0 < varOf x ∧ ∀ z ∈ a, varOf x < varOf z := ⟨h.2 x (by simp), (List.pairwise_cons.1 h.1).1⟩
theorem Asc.nil : Asc [] := ⟨List.Pairwise.nil, fun _ h => by cases h⟩
theorem Asc.cons {x : Int} {a : List Int} (h : Asc a) (h0 : 0 < varOf x) (h1 : ∀ z ∈ a, varOf x < varOf z) : Asc (x :: a) :=
  ⟨List.pairwise_cons.2 ⟨h1, h.1⟩, fun z hz => by rcases List.mem_cons.1 hz with rfl | hz; exact h0; exact h.2 z hz⟩

/-- The members of a merge. -/
def Mrg (a b : List Int) (z : Int) : Prop := (z ∈ a ∧ -z ∉ b) ∨ (z ∈ b ∧ -z ∉ a)

theorem ne_var {x z : Int} (h : varOf x < varOf z) : z ≠ x ∧ z ≠ -x ∧ -z ≠ x ∧ -z ≠ -x := by
  refine ⟨fun e => ?_, fun e => ?_, fun e => ?_, fun e => ?_⟩
  · rw [e] at h; omega
  · rw [e, varOf_neg] at h; omega
  · rw [← e, varOf_neg] at h; omega
  · have : z = x := by omega
    rw [this] at h; omega

theorem merge_spec (p : Int → Int → Bool) (hp : ∀ x, p x x = true) (a b : List Int) : Asc a → Asc b →
    (mergeL p a b = none → ∃ x, x ∈ a ∧ -x ∈ b ∧ p x (-x) = false) ∧
    (∀ c, mergeL p a b = some c → (∀ x, x ∈ a → -x ∈ b → p x (-x) = true) ∧ (∀ z, z ∈ c ↔ Mrg a b z) ∧ Asc c) := by
  induction a, b using mergeL.induct (p := p) with
  | case1 b =>
    intro _ hb
    rw [mergeL]
    refine ⟨fun h => by simp at h, fun c h => ?_⟩
    cases h
    exact ⟨fun x hx => by simp at hx, fun z => by simp [Mrg], hb⟩
  | case2 x a =>
    intro ha _
    rw [mergeL]
    refine ⟨fun h => by simp at h, fun c h => ?_⟩
    cases h
    exact ⟨fun x _ hx => by simp at hx, fun z => by simp [Mrg], ha⟩
  | case3 x a y b h1 ih =>
    intro ha hb
    obtain ⟨i1, i2⟩ := ih ha.tail hb
    obtain ⟨a0, a1⟩ := ha.head
    have b1 : ∀ z ∈ y :: b, varOf x < varOf z := fun z hz => by
      rcases List.mem_cons.1 hz with rfl | hz
      · exact h1
      · exact Int.lt_trans h1 (hb.head.2 z hz)
    have b2 : x ∉ y :: b ∧ -x ∉ y :: b := ⟨fun h => (ne_var (b1 _ h)).1 rfl, fun h => (ne_var (b1 _ h)).2.1 rfl⟩
    have b3 : ∀ z ∈ y :: b, -z ≠ x := fun z hz => (ne_var (b1 z hz)).2.2.1
    rw [mergeL, if_pos h1]
    generalize hbb : y :: b = bb at *
    refine ⟨fun h => ?_, fun c h => ?_⟩
    · obtain ⟨z, h2, h3, h4⟩ := i1 (by simpa using h)
      exact ⟨z, by simp [h2], h3, h4⟩
    · obtain ⟨d, hd, rfl⟩ := Option.map_eq_some_iff.1 h
      obtain ⟨j1, j2, j3⟩ := i2 d hd
      have hm : ∀ z, z ∈ x :: d ↔ Mrg (x :: a) bb z := fun z => by
        rw [List.mem_cons, j2]
        unfold Mrg
        grind
      refine ⟨fun z hz hz' => ?_, hm, j3.cons a0 fun z hz => ?_⟩
      · rcases List.mem_cons.1 hz with rfl | hz
        · exact absurd hz' b2.2
        · exact j1 z hz hz'
      · rcases (j2 z).1 hz with h | h
        · exact a1 z h.1
        · exact b1 z h.1
  | case4 x a y b h1 h2 ih =>
    intro ha hb
    obtain ⟨i1, i2⟩ := ih ha hb.tail
    obtain ⟨a0, a1⟩ := hb.head
    have b1 : ∀ z ∈ x :: a, varOf y < varOf z := fun z hz => by
      rcases List.mem_cons.1 hz with rfl | hz
      · exact h2
      · exact Int.lt_trans h2 (ha.head.2 z hz)
    have b2 : y ∉ x :: a ∧ -y ∉ x :: a := ⟨fun h => (ne_var (b1 _ h)).1 rfl, fun h => (ne_var (b1 _ h)).2.1 rfl⟩
    have b3 : ∀ z ∈ x :: a, -z ≠ y := fun z hz => (ne_var (b1 z hz)).2.2.1
    rw [mergeL, if_neg h1, if_pos h2]
    generalize hbb : x :: a = aa at *
    refine ⟨fun h => ?_, fun c h => ?_⟩
    · obtain ⟨z, h2, h3, h4⟩ := i1 (by simpa using h)
      exact ⟨z, h2, by simp [h3], h4⟩
    · obtain ⟨d, hd, rfl⟩ := Option.map_eq_some_iff.1 h
      obtain ⟨j1, j2, j3⟩ := i2 d hd
      have hm : ∀ z, z ∈ y :: d ↔ Mrg aa (y :: b) z := fun z => by
        rw [List.mem_cons, j2]
        unfold Mrg
        grind
      refine ⟨fun z hz hz' => ?_, hm, j3.cons a0 fun z hz => ?_⟩
      · rcases List.mem_cons.1 hz' with h | hz'
        · exact absurd h (b3 z hz)
        · exact j1 z hz hz'
      · rcases (j2 z).1 hz with h | h
        · exact b1 z h.1
        · exact a1 z h.1
  | case5 x a y b h1 h2 h3 =>
    intro ha hb
    rw [mergeL, if_neg h1, if_neg h2, if_pos h3]
    refine ⟨fun _ => ?_, fun c h => by cases h⟩
    have hv : varOf x = varOf y := by omega
    rcases varOf_inj (by have := ha.head.1; omega) hv with e | e
    · rw [e, hp] at h3; cases h3
    · have e' : y = -x := by omega
      exact ⟨x, by simp, by simp [e'], by rw [← e']; exact h3⟩
  | case6 a x b h1 h2 h3 ih =>
    intro ha hb
    obtain ⟨i1, i2⟩ := ih ha.tail hb.tail
    obtain ⟨a0, a1⟩ := ha.head
    obtain ⟨_, b1⟩ := hb.head
    have c1 : ∀ z ∈ a, z ≠ x ∧ z ≠ -x ∧ -z ≠ x ∧ -z ≠ -x := fun z hz => ne_var (a1 z hz)
    have c2 : ∀ z ∈ b, z ≠ x ∧ z ≠ -x ∧ -z ≠ x ∧ -z ≠ -x := fun z hz => ne_var (b1 z hz)
    have c3 : -x ≠ x := fun e => by have := varOf_eq (n := x) (by omega); omega
    rw [mergeL, if_neg h1, if_neg h2, if_neg h3, if_pos rfl]
    refine ⟨fun h => ?_, fun c h => ?_⟩
    · obtain ⟨z, h2, h3, h4⟩ := i1 (by simpa using h)
      exact ⟨z, by simp [h2], by simp [h3], h4⟩
    · obtain ⟨d, hd, rfl⟩ := Option.map_eq_some_iff.1 h
      obtain ⟨j1, j2, j3⟩ := i2 d hd
      refine ⟨fun z hz hz' => ?_, fun z => ?_, j3.cons a0 fun z hz => ?_⟩
      · rcases List.mem_cons.1 hz with rfl | hz
        · rcases List.mem_cons.1 hz' with h | hz'
          · exact absurd h c3
          · exact absurd rfl (c2 _ hz').2.1
        · rcases List.mem_cons.1 hz' with h | hz'
          · exact absurd h (c1 _ hz).2.2.1
          · exact j1 z hz hz'
      · rw [List.mem_cons, j2]
        unfold Mrg
        by_cases hzx : z = x
        · subst hzx
          constructor
          · intro _; left; refine ⟨by simp, fun h => ?_⟩
            rcases List.mem_cons.1 h with h | h
            · exact c3 h
            · exact (c2 _ h).2.1 rfl
          · intro _; left; rfl
        · simp only [List.mem_cons, not_or]
          constructor
          · rintro (h | ⟨h, h'⟩ | ⟨h, h'⟩)
            · exact absurd h hzx
            · exact .inl ⟨.inr h, (c1 _ h).2.2.1, h'⟩
            · exact .inr ⟨.inr h, (c2 _ h).2.2.1, h'⟩
          · rintro (⟨h | h, h', h''⟩ | ⟨h | h, h', h''⟩)
            · exact absurd h hzx
            · exact .inr (.inl ⟨h, h''⟩)
            · exact absurd h hzx
            · exact .inr (.inr ⟨h, h''⟩)
      · rcases (j2 z).1 hz with h | h
        · exact a1 z h.1
        · exact b1 z h.1
  | case7 x a y b h1 h2 h3 h4 ih =>
    intro ha hb
    obtain ⟨i1, i2⟩ := ih ha.tail hb.tail
    obtain ⟨a0, a1⟩ := ha.head
    obtain ⟨_, b1⟩ := hb.head
    have hv : varOf x = varOf y := by omega
    have e' : y = -x := by
      rcases varOf_inj (by omega) hv with e | e
      · exact absurd e h4
      · omega
    subst e'
    rw [varOf_neg] at b1
    have c1 : ∀ z ∈ a, z ≠ x ∧ z ≠ -x ∧ -z ≠ x ∧ -z ≠ -x := fun z hz => ne_var (a1 z hz)
    have c2 : ∀ z ∈ b, z ≠ x ∧ z ≠ -x ∧ -z ≠ x ∧ -z ≠ -x := fun z hz => ne_var (b1 z hz)
    have h3' : p x (-x) = true := by simpa using h3
    rw [mergeL, if_neg h1, if_neg h2, if_neg h3, if_neg h4]
    refine ⟨fun h => ?_, fun c h => ?_⟩
    · obtain ⟨z, h2, h3, h4⟩ := i1 h
      exact ⟨z, by simp [h2], by simp [h3], h4⟩
    · obtain ⟨j1, j2, j3⟩ := i2 c h
      refine ⟨fun z hz hz' => ?_, fun z => ?_, j3⟩
      · rcases List.mem_cons.1 hz with rfl | hz
        · exact h3'
        · rcases List.mem_cons.1 hz' with h | hz'
          · exact absurd h (c1 _ hz).2.2.2
          · exact j1 z hz hz'
      · rw [j2]
        unfold Mrg
        simp only [List.mem_cons, not_or]
        constructor
        · rintro (⟨h, h'⟩ | ⟨h, h'⟩)
          · exact .inl ⟨.inr h, (c1 _ h).2.2.2, h'⟩
          · exact .inr ⟨.inr h, (c2 _ h).2.2.1, h'⟩
        · rintro (⟨h | h, h', h''⟩ | ⟨h | h, h', h''⟩)
          · subst h; exact absurd rfl h'
          · exact .inl ⟨h, h''⟩
          · subst h; exact absurd (by omega) h'
          · exact .inr ⟨h, h''⟩

/-- The joined list of two. -/
def joinV (a b : List Int) : Option (List Int) := mergeL (fun x y => x == y) a b
def JoinV (a b : List Int) : List Int × Int :=
  if mayB a = true ∧ mayB b = true then (match joinV a b with | some c => (c, 0) | none => ([], 10)) else ([], 2)

theorem joinV_set {a b : List Int} (ha : Asc a) (hb : Asc b) : (joinV a b).getD [] = if mayB (setL a b) = true then setL a b else [] := by
  have hs : (setL a b).Pairwise blt := setL_sorted b (asc_blt ha)
  have hl : ∀ x ∈ setL a b, 0 < varOf x := fun x hx => ((mem_setL b a x).1 hx).elim (ha.2 x) (hb.2 x)
  have hcl := may_iff_clash hs hl
  have hsp := merge_spec (fun x y => x == y) (fun x => by simp) a b ha hb
  unfold joinV
  cases hm : mergeL (fun x y => x == y) a b with
  | none =>
    obtain ⟨x, h1, h2, h3⟩ := hsp.1 hm
    rw [if_neg]
    · rfl
    · intro h
      exact hcl.1 h x ((mem_setL b a x).2 (.inl h1)) ((mem_setL b a _).2 (.inr h2))
  | some c =>
    obtain ⟨h1, h2, h3⟩ := hsp.2 c hm
    have hno : ∀ x, x ∈ a → -x ∈ b → False := fun x hx hx' => by
      have := h1 x hx hx'
      have h4 : x = -x := by simpa using this
      have := varOf_eq (n := x) (by have := ha.2 x hx; omega)
      omega
    have hmem : ∀ z, z ∈ c ↔ z ∈ setL a b := fun z => by
      rw [h2, mem_setL]
      unfold Mrg
      constructor
      · rintro (h | h)
        · exact .inl h.1
        · exact .inr h.1
      · rintro (h | h)
        · exact .inl ⟨h, fun h' => hno z h h'⟩
        · exact .inr ⟨h, fun h' => hno (-z) h' (by rw [Int.neg_neg]; exact h)⟩
    have heq : c = setL a b := sorted_ext blt_asym (asc_blt h3) hs hmem
    rw [← heq, if_pos ((mayB_iff c).2 h3)]
    rfl

theorem joinV_none {a b : List Int} (ha : Asc a) (hb : Asc b) : (joinV a b).isSome = mayB (setL a b) := by
  have hs : (setL a b).Pairwise blt := setL_sorted b (asc_blt ha)
  have hl : ∀ x ∈ setL a b, 0 < varOf x := fun x hx => ((mem_setL b a x).1 hx).elim (ha.2 x) (hb.2 x)
  have hcl := may_iff_clash hs hl
  have hsp := merge_spec (fun x y => x == y) (fun x => by simp) a b ha hb
  unfold joinV
  cases hm : mergeL (fun x y => x == y) a b with
  | none =>
    obtain ⟨x, h1, h2, h3⟩ := hsp.1 hm
    cases hh : mayB (setL a b)
    · rfl
    · exact (hcl.1 hh x ((mem_setL b a x).2 (.inl h1)) ((mem_setL b a _).2 (.inr h2))).elim
  | some c =>
    obtain ⟨h1, h2, h3⟩ := hsp.2 c hm
    symm
    refine hcl.2 fun x hx hx' => ?_
    have two : ∀ x, x ∈ a → -x ∈ b → False := fun x hx hx' => by
      have := h1 x hx hx'
      have h4 : x = -x := by simpa using this
      have := varOf_eq (n := x) (by have := ha.2 x hx; omega)
      omega
    rcases (mem_setL b a x).1 hx with h | h <;> rcases (mem_setL b a _).1 hx' with k | k
    · have := ha.inj h k (varOf_neg x).symm
      have := varOf_eq (n := x) (by have := ha.2 x h; omega)
      omega
    · exact two x h k
    · exact two (-x) k (by rw [Int.neg_neg]; exact h)
    · have := hb.inj h k (varOf_neg x).symm
      have := varOf_eq (n := x) (by have := hb.2 x h; omega)
      omega

/-- The reference's way of joining. -/
def joinR (a b : List Int) : List Int × Int :=
  if mayB a = true ∧ mayB b = true then (if mayB (setL (setL [] a) b) = true then (setL (setL [] a) b, 0) else ([], 10)) else ([], 2)
theorem setL_asc {a : List Int} (h : a.Pairwise blt) : setL [] a = a :=
  sorted_ext blt_asym (setL_sorted a List.Pairwise.nil) h fun z => by rw [mem_setL]; simp
theorem joinR_eq (a b : List Int) : joinR a b = JoinV a b := by
  unfold joinR JoinV
  by_cases h : mayB a = true ∧ mayB b = true
  · rw [if_pos h, if_pos h]
    have ha := (mayB_iff a).1 h.1
    have hb := (mayB_iff b).1 h.2
    have h1 := joinV_set ha hb
    have h2 := joinV_none ha hb
    rw [setL_asc (asc_blt ha)]
    cases hj : joinV a b with
    | none => rw [hj] at h2; rw [← h2]; rfl
    | some c =>
      rw [hj] at h1 h2
      rw [← h2] at h1
      rw [← h2]
      have h3 : c = setL a b := h1
      rw [h3]; rfl
  · rw [if_neg h, if_neg h]

end Go.Proofs.YtlompphnngnaiaaGreatDoor
namespace Go.Proofs.YtlompphnngnaiaaGreatDoor

def markB (f : List (List Int)) (v : Nat) : Bool := f.any fun c => c.any fun x => varOf x == (v : Int)
def varsTo (f : List (List Int)) (n : Nat) : List Int := ((List.range n).filter fun v => decide (1 ≤ v) && markB f v).map Int.ofNat
def VarsV (f : List (List Int)) : List Int := varsTo f 65537

theorem varsTo_succ (f : List (List Int)) (n : Nat) (hn : 1 ≤ n) : varsTo f (n + 1) = varsTo f n ++ if markB f n = true then [(n : Int)] else [] := by
  unfold varsTo
  rw [List.range_succ, List.filter_append, List.map_append]
  congr 1
  by_cases h : markB f n = true
  · rw [if_pos h]; simp [h, hn]
  · rw [if_neg h]; simp [h]
theorem varsTo_one (f : List (List Int)) : varsTo f 1 = [] := by simp [varsTo]
theorem varsTo_len (f : List (List Int)) (n : Nat) : (varsTo f n).length ≤ n := by
  unfold varsTo
  rw [List.length_map]
  exact Nat.le_trans (List.length_filter_le _ _) (by simp)
theorem varsTo_sorted (f : List (List Int)) (n : Nat) : (varsTo f n).Pairwise (· < ·) := by
  unfold varsTo
  rw [List.pairwise_map]
  refine List.Pairwise.filter _ ?_
  refine List.Pairwise.imp (fun h => ?_) List.pairwise_lt_range
  exact Int.ofNat_lt.2 h
theorem mem_VarsV (f : List (List Int)) (y : Int) : y ∈ VarsV f ↔ 0 < y ∧ ∃ c ∈ f, ∃ x ∈ c, varOf x = y := by
  unfold VarsV varsTo
  rw [List.mem_map]
  constructor
  · rintro ⟨v, hv, rfl⟩
    rw [List.mem_filter, Bool.and_eq_true, decide_eq_true_eq] at hv
    refine ⟨by have := hv.2.1; simp; omega, ?_⟩
    have := hv.2.2
    unfold markB at this
    rw [List.any_eq_true] at this
    obtain ⟨c, hc, hx⟩ := this
    rw [List.any_eq_true] at hx
    obtain ⟨x, hx, he⟩ := hx
    exact ⟨c, hc, x, hx, by simpa using he⟩
  · rintro ⟨h0, c, hc, x, hx, he⟩
    have hr := varOf_range x
    refine ⟨y.toNat, ?_, by simp; omega⟩
    rw [List.mem_filter, Bool.and_eq_true, decide_eq_true_eq]
    refine ⟨by simp; omega, by omega, ?_⟩
    unfold markB
    rw [List.any_eq_true]
    exact ⟨c, hc, by rw [List.any_eq_true]; exact ⟨x, hx, by simp; omega⟩⟩
theorem asc_vars {xs : List Int} (h : Asc xs) : (xs.map varOf).Pairwise (· < ·) := by
  rw [List.pairwise_map]; exact h.1
theorem VarsV_one {xs : List Int} (h : Asc xs) : VarsV [xs] = xs.map varOf :=
  sorted_ext (r := fun a b : Int => a < b) (fun a b h k => by omega) (varsTo_sorted _ _) (asc_vars h) fun y => by
    rw [mem_VarsV, List.mem_map]
    constructor
    · rintro ⟨h0, c, hc, x, hx, he⟩
      rw [List.mem_singleton] at hc
      subst hc
      exact ⟨x, hx, he⟩
    · rintro ⟨x, hx, rfl⟩
      exact ⟨h.2 x hx, xs, by simp, x, hx, rfl⟩

end Go.Proofs.YtlompphnngnaiaaGreatDoor
namespace Go.Proofs.YtlompphnngnaiaaGreatDoor

theorem compact_upto {lt : Int → Int → Prop} (tri : ∀ a b, lt a b ∨ a = b ∨ lt b a) (trans : ∀ a b c, lt a b → lt b c → lt a c) (zs : List Int) (hs : zs.Pairwise fun a b => ¬ lt b a) :
    ∀ m, m ≤ zs.length → (Lib.compactUpTo zs.toArray m).Pairwise lt ∧ (∀ x, x ∈ Lib.compactUpTo zs.toArray m ↔ x ∈ zs.take m) ∧ ∀ h : 0 < m, ∀ hm : m - 1 < zs.length, ∀ x ∈ Lib.compactUpTo zs.toArray m, x = zs[m - 1] ∨ lt x zs[m - 1]
  | 0, _ => ⟨by simp [Lib.compactUpTo], fun x => by simp [Lib.compactUpTo], fun h => absurd h (Nat.lt_irrefl _)⟩
  | m + 1, hm => by
    obtain ⟨h1, h2, h3⟩ := compact_upto tri trans zs hs m (by omega)
    have hml : m < zs.length := by omega
    have hg : ∀ j (hj : j < zs.length), zs.toArray[j]! = zs[j] := fun j hj => by simp [getElem!_pos, hj]
    rw [Lib.compactUpTo_succ]
    have hlast : ∀ x ∈ Lib.compactUpTo zs.toArray m, x = zs[m] ∨ lt x zs[m] := fun x hx => by
      rcases Nat.eq_zero_or_pos m with h0 | h0
      · subst h0; simp [Lib.compactUpTo] at hx
      · have hm1 : m - 1 < zs.length := by omega
        have hle : ¬ lt zs[m] zs[m - 1] := List.pairwise_iff_getElem.1 hs (m - 1) m hm1 hml (by omega)
        have hle' : zs[m - 1] = zs[m] ∨ lt zs[m - 1] zs[m] := by
          rcases tri zs[m - 1] zs[m] with h | h | h
          · exact .inr h
          · exact .inl h
          · exact absurd h hle
        rcases h3 h0 hm1 x hx with rfl | h4
        · exact hle'
        · rcases hle' with h5 | h5
          · rw [← h5]; exact .inr h4
          · exact .inr (trans _ _ _ h4 h5)
    by_cases hk : Lib.keeps zs.toArray m = true
    · rw [if_pos hk, hg m hml]
      have hne : ∀ x ∈ Lib.compactUpTo zs.toArray m, lt x zs[m] := fun x hx => by
        rcases hlast x hx with rfl | h
        · unfold Lib.keeps at hk
          rw [decide_eq_true_eq] at hk
          rcases hk with h0 | h0
          · subst h0; simp [Lib.compactUpTo] at hx
          · rcases Nat.eq_zero_or_pos m with hz | hz
            · subst hz; simp [Lib.compactUpTo] at hx
            · have hm1 : m - 1 < zs.length := by omega
              rw [hg m hml, hg (m - 1) hm1] at h0
              have hle : ¬ lt zs[m] zs[m - 1] := List.pairwise_iff_getElem.1 hs (m - 1) m hm1 hml (by omega)
              rcases h3 hz hm1 _ hx with h6 | h6
              · exact absurd h6 h0
              · exact absurd h6 hle
        · exact h
      refine ⟨List.pairwise_append.2 ⟨h1, by simp, fun x hx y hy => ?_⟩, fun x => ?_, fun _ _ x hx => ?_⟩
      · rw [List.mem_singleton.1 hy]; exact hne x hx
      · rw [List.mem_append, h2, List.take_succ_eq_append_getElem hml, List.mem_append]
      · simp only [Nat.add_sub_cancel]
        rcases List.mem_append.1 hx with h | h
        · exact .inr (hne x h)
        · exact .inl (List.mem_singleton.1 h)
    · rw [if_neg hk, List.append_nil]
      have hk' : m ≠ 0 ∧ zs.toArray[m]! = zs.toArray[m - 1]! := by
        unfold Lib.keeps at hk
        rw [decide_eq_true_eq, not_or, Classical.not_not] at hk
        exact hk
      have hm1 : m - 1 < zs.length := by omega
      rw [hg m hml, hg (m - 1) hm1] at hk'
      refine ⟨h1, fun x => ?_, fun _ _ x hx => ?_⟩
      · rw [h2, List.take_succ_eq_append_getElem hml, List.mem_append, List.mem_singleton]
        constructor
        · exact .inl
        · rintro (h | rfl)
          · exact h
          · rw [hk'.2, List.mem_take_iff_getElem]
            exact ⟨m - 1, by omega, rfl⟩
      · simp only [Nat.add_sub_cancel]
        exact hlast x hx

theorem compact_strict {lt : Int → Int → Prop} (tri : ∀ a b, lt a b ∨ a = b ∨ lt b a) (trans : ∀ a b c, lt a b → lt b c → lt a c) (zs : List Int) (hs : zs.Pairwise fun a b => ¬ lt b a) :
    (Lib.compact zs).Pairwise lt ∧ ∀ x, x ∈ Lib.compact zs ↔ x ∈ zs := by
  obtain ⟨h1, h2, _⟩ := compact_upto tri trans zs hs zs.length (Nat.le_refl _)
  exact ⟨h1, fun x => by rw [show Lib.compact zs = Lib.compactUpTo zs.toArray zs.length from rfl, h2, List.take_length]⟩

theorem mergeSort_sorted (xs : List Int) : (xs.mergeSort fun x y => decide (x ≤ y)).Pairwise (fun a b => ¬ b < a) :=
  (List.pairwise_mergeSort (le := fun x y => decide (x ≤ y)) (fun a b c h1 h2 => by simp at *; omega) (fun a b => by simp; omega) xs).imp fun h => by simp at h; omega
theorem mem_mergeSort' (xs : List Int) (x : Int) : x ∈ (xs.mergeSort fun x y => decide (x ≤ y)) ↔ x ∈ xs := List.mem_mergeSort

/-- Sorted ascending, each once. -/
def sortC (xs : List Int) : List Int := Lib.compact (xs.mergeSort fun x y => decide (x ≤ y))
theorem sortC_spec (xs : List Int) : (sortC xs).Pairwise (fun a b : Int => a < b) ∧ ∀ x, x ∈ sortC xs ↔ x ∈ xs := by
  obtain ⟨h1, h2⟩ := compact_strict (lt := fun a b : Int => a < b) (fun a b => by omega) (fun a b c h k => by omega) _ (mergeSort_sorted xs)
  exact ⟨h1, fun x => by rw [sortC, h2, mem_mergeSort']⟩
end Go.Proofs.YtlompphnngnaiaaGreatDoor
namespace Go.Proofs.YtlompphnngnaiaaGreatDoor

/-- What 'each' makes of a list. -/
def eachL (g : Int → Int) (xs : List Int) : List Int := (xs.map g).filter fun y => decide (y ≠ 0)
def EachV (g : Int → Int) (xs : List Int) : List Int := if mayB xs = true then eachL g xs else []
def NegV (xs : List Int) : List Int := if mayB xs = true then xs.map (fun x => -x) else []
def WithoutV (xs : List Int) (v : Int) : List Int := if mayB xs = true then xs.filter (fun x => decide (varOf x ≠ v)) else []
def WithinV (xs vs : List Int) : List Int := if mayB xs = true then xs.filter (fun x => decide (varOf x ∈ vs)) else []

theorem eachL_snoc (g : Int → Int) (xs : List Int) (k : Nat) (hk : k < xs.length) : eachL g (xs.take (k + 1)) = eachL g (xs.take k) ++ if g xs[k] = 0 then [] else [g xs[k]] := by
  unfold eachL
  rw [List.take_succ_eq_append_getElem hk, List.map_append, List.filter_append]
  by_cases h : g xs[k] = 0 <;> simp [h]
theorem eachL_len (g : Int → Int) (xs : List Int) : (eachL g xs).length ≤ xs.length := by
  unfold eachL
  exact Nat.le_trans (List.length_filter_le _ _) (by simp)

theorem lit_ne {x : Int} (h : 0 < varOf x) : x ≠ 0 := (varOf_eq (n := x) (by omega)).2

theorem lit_small {x : Int} (h : 0 < varOf x) : x.natAbs ≤ 65536 := by unfold varOf at h; split at h <;> omega

theorem each_neg (xs : List Int) : EachV (fun x => -x) xs = NegV xs := by
  unfold EachV NegV
  by_cases hm : mayB xs = true
  · rw [if_pos hm, if_pos hm]
    unfold eachL
    rw [List.filter_eq_self]
    intro y hy
    obtain ⟨x, hx, rfl⟩ := List.mem_map.1 hy
    have := lit_ne (((mayB_iff xs).1 hm).2 x hx)
    simp only [decide_eq_true_eq]; omega
  · rw [if_neg hm, if_neg hm]
theorem each_if (c : Int → Bool) (xs : List Int) (h : ∀ x ∈ xs, x ≠ 0) : eachL (fun x => if c x = true then x else 0) xs = xs.filter c := by
  induction xs with
  | nil => rfl
  | cons x xs ih =>
    have ih := ih fun y hy => h y (by simp [hy])
    unfold eachL at *
    rw [List.map_cons, List.filter_cons, List.filter_cons]
    by_cases hc : c x = true
    · rw [if_pos hc, if_pos (by simpa using h x (by simp)), ih]
      simp [hc]
    · rw [if_neg hc, if_neg (by simp), ih, if_neg hc]
theorem each_without (xs : List Int) (v : Int) : EachV (fun x => if decide (varOf x ≠ v) = true then x else 0) xs = WithoutV xs v := by
  unfold EachV WithoutV
  by_cases hm : mayB xs = true
  · rw [if_pos hm, if_pos hm]
    exact each_if _ _ fun x hx => lit_ne (((mayB_iff xs).1 hm).2 x hx)
  · rw [if_neg hm, if_neg hm]
theorem each_within (xs vs : List Int) : EachV (fun x => if decide (varOf x ∈ vs) = true then x else 0) xs = WithinV xs vs := by
  unfold EachV WithinV
  by_cases hm : mayB xs = true
  · rw [if_pos hm, if_pos hm]
    exact each_if _ _ fun x hx => lit_ne (((mayB_iff xs).1 hm).2 x hx)
  · rw [if_neg hm, if_neg hm]

theorem Asc.filter {xs : List Int} (h : Asc xs) (c : Int → Bool) : Asc (xs.filter c) := ⟨h.1.filter _, fun x hx => h.2 x (List.mem_filter.1 hx).1⟩

/-- lits.Resolve. -/
def resL (v : Int) (a b : List Int) : Option (List Int) := mergeL (fun x y => x == y || x == v) a b
def ResolveV (a b : List Int) (v : Int) : List Int × Int :=
  if mayB a = true ∧ mayB b = true then
    (if v ≤ 0 ∨ v ∉ a ∨ -v ∉ b then ([], 6) else match resL v a b with | some c => (c, 0) | none => ([], 10))
  else ([], 2)
/-- The reference's way. -/
def resolveR (a b : List Int) (v : Int) : List Int × Int :=
  if mayB a = true ∧ mayB b = true then
    (if v ≤ 0 ∨ v ∉ a ∨ -v ∉ b then ([], 6) else JoinV (WithoutV a v) (WithoutV b v))
  else ([], 2)

theorem resL_spec {a b : List Int} {v : Int} (ha : Asc a) (hb : Asc b) (h0 : 0 < v) (hva : v ∈ a) (hvb : -v ∈ b) :
    resL v a b = joinV (a.filter fun x => decide (varOf x ≠ v)) (b.filter fun x => decide (varOf x ≠ v)) := by
  have hvv : varOf v = v := by
    have h1 := ha.2 v hva
    have h2 := varOf_eq (n := v) (by omega)
    omega
  have inA : ∀ x, x ∈ a → varOf x = v → x = v := fun x hx e => ha.inj hx hva (by rw [e, hvv])
  have inB : ∀ x, x ∈ b → varOf x = v → x = -v := fun x hx e => hb.inj hx hvb (by rw [e, varOf_neg, hvv])
  have s1 := merge_spec (fun x y => x == y || x == v) (fun x => by simp) a b ha hb
  have hA := ha.filter fun x => decide (varOf x ≠ v)
  have hB := hb.filter fun x => decide (varOf x ≠ v)
  have s2 := merge_spec (fun x y => x == y) (fun x => by simp) _ _ hA hB
  have mA : ∀ x, x ∈ (a.filter fun x => decide (varOf x ≠ v)) ↔ x ∈ a ∧ varOf x ≠ v := fun x => by simp [List.mem_filter]
  have mB : ∀ x, x ∈ (b.filter fun x => decide (varOf x ≠ v)) ↔ x ∈ b ∧ varOf x ≠ v := fun x => by simp [List.mem_filter]
  unfold resL joinV
  cases h1 : mergeL (fun x y => x == y || x == v) a b with
  | none =>
    obtain ⟨x, x1, x2, x3⟩ := s1.1 h1
    cases h2 : mergeL (fun x y => x == y) (a.filter fun x => decide (varOf x ≠ v)) (b.filter fun x => decide (varOf x ≠ v)) with
    | none => rfl
    | some c =>
      have hx : x ≠ v := by intro e; rw [e] at x3; simp at x3
      have hxv : varOf x ≠ v := fun e => hx (inA x x1 e)
      have := (s2.2 c h2).1 x ((mA x).2 ⟨x1, hxv⟩) ((mB _).2 ⟨x2, by rw [varOf_neg]; exact hxv⟩)
      have e1 : x = -x := by simpa using this
      have := lit_ne (ha.2 x x1)
      omega
  | some c =>
    obtain ⟨c1, c2, c3⟩ := s1.2 c h1
    cases h2 : mergeL (fun x y => x == y) (a.filter fun x => decide (varOf x ≠ v)) (b.filter fun x => decide (varOf x ≠ v)) with
    | none =>
      obtain ⟨x, x1, x2, x3⟩ := s2.1 h2
      obtain ⟨y1, y2⟩ := (mA x).1 x1
      obtain ⟨y3, y4⟩ := (mB _).1 x2
      have := c1 x y1 y3
      have hne := lit_ne (ha.2 x y1)
      have : x = v := by
        simp only [Bool.or_eq_true, beq_iff_eq] at this
        rcases this with e | e
        · omega
        · exact e
      exact absurd (by rw [this, hvv]) y2
    | some d =>
      obtain ⟨d1, d2, d3⟩ := s2.2 d h2
      have : c = d := asc_ext c3 d3 fun z => by
        rw [c2, d2]
        unfold Mrg
        rw [mA, mB, mA, mB, varOf_neg]
        constructor
        · rintro (⟨z1, z2⟩ | ⟨z1, z2⟩)
          · refine .inl ⟨⟨z1, fun e => ?_⟩, fun h => z2 h.1⟩
            rw [inA z z1 e] at z2
            exact z2 hvb
          · refine .inr ⟨⟨z1, fun e => ?_⟩, fun h => z2 h.1⟩
            rw [inB z z1 e, Int.neg_neg] at z2
            exact z2 hva
        · rintro (⟨⟨z1, z2⟩, z3⟩ | ⟨⟨z1, z2⟩, z3⟩)
          · exact .inl ⟨z1, fun h => z3 ⟨h, z2⟩⟩
          · exact .inr ⟨z1, fun h => z3 ⟨h, z2⟩⟩
      rw [this]

theorem resolveR_eq (a b : List Int) (v : Int) : resolveR a b v = ResolveV a b v := by
  unfold resolveR ResolveV
  by_cases hm : mayB a = true ∧ mayB b = true
  · rw [if_pos hm, if_pos hm]
    by_cases hv : v ≤ 0 ∨ v ∉ a ∨ -v ∉ b
    · rw [if_pos hv, if_pos hv]
    · rw [if_neg hv, if_neg hv]
      have ha := (mayB_iff a).1 hm.1
      have hb := (mayB_iff b).1 hm.2
      have hva : v ∈ a := by
        by_cases h : v ∈ a
        · exact h
        · exact absurd (.inr (.inl h)) hv
      have hvb : -v ∈ b := by
        by_cases h : -v ∈ b
        · exact h
        · exact absurd (.inr (.inr h)) hv
      rw [resL_spec ha hb (by omega) hva hvb]
      unfold WithoutV JoinV
      rw [if_pos hm.1, if_pos hm.2, if_pos ⟨(mayB_iff _).2 (ha.filter _), (mayB_iff _).2 (hb.filter _)⟩]
      try (cases joinV (a.filter fun x => decide (varOf x ≠ v)) (b.filter fun x => decide (varOf x ≠ v)) <;> rfl)
  · rw [if_neg hm, if_neg hm]

/-- Resolvents: what is true of them. -/
theorem resolve_ok {a b : List Int} {v : Int} (h : (ResolveV a b v).2 = 0) :
    mayB a = true ∧ mayB b = true ∧ 0 < v ∧ v ∈ a ∧ -v ∈ b ∧ Asc (ResolveV a b v).1 ∧ (∀ z, z ∈ (ResolveV a b v).1 ↔ (z ∈ a ∧ varOf z ≠ v) ∨ (z ∈ b ∧ varOf z ≠ v)) := by
  rw [← resolveR_eq] at *
  unfold resolveR at *
  by_cases hm : mayB a = true ∧ mayB b = true
  · rw [if_pos hm] at h ⊢
    by_cases hv : v ≤ 0 ∨ v ∉ a ∨ -v ∉ b
    · rw [if_pos hv] at h; simp at h
    · rw [if_neg hv] at h ⊢
      have ha := (mayB_iff a).1 hm.1
      have hb := (mayB_iff b).1 hm.2
      have hva : v ∈ a := by
        by_cases h : v ∈ a
        · exact h
        · exact absurd (.inr (.inl h)) hv
      have hvb : -v ∈ b := by
        by_cases h : -v ∈ b
        · exact h
        · exact absurd (.inr (.inr h)) hv
      refine ⟨hm.1, hm.2, by omega, hva, hvb, ?_⟩
      unfold WithoutV JoinV at *
      rw [if_pos hm.1, if_pos hm.2, if_pos ⟨(mayB_iff _).2 (ha.filter _), (mayB_iff _).2 (hb.filter _)⟩] at h ⊢
      have hA := ha.filter fun x => decide (varOf x ≠ v)
      have hB := hb.filter fun x => decide (varOf x ≠ v)
      have s2 := merge_spec (fun x y => x == y) (fun x => by simp) _ _ hA hB
      unfold joinV at h ⊢
      cases h2 : mergeL (fun x y => x == y) (a.filter fun x => decide (varOf x ≠ v)) (b.filter fun x => decide (varOf x ≠ v)) with
      | none => rw [h2] at h; simp at h
      | some c =>
        obtain ⟨d1, d2, d3⟩ := s2.2 c h2
        refine ⟨d3, fun z => ?_⟩
        show z ∈ c ↔ _
        rw [d2]
        unfold Mrg
        simp only [List.mem_filter, decide_eq_true_eq]
        have hno : ∀ x, x ∈ a → -x ∈ b → varOf x ≠ v → False := fun x h1 h3 h4 => by
          have := d1 x (by simp [List.mem_filter, h1, h4]) (by simp [List.mem_filter, h3, varOf_neg, h4])
          have e1 : x = -x := by simpa using this
          have := lit_ne (ha.2 x h1)
          omega
        constructor
        · rintro (h | h)
          · exact .inl h.1
          · exact .inr h.1
        · rintro (h | h)
          · exact .inl ⟨h, fun k => hno z h.1 k.1 h.2⟩
          · exact .inr ⟨h, fun k => hno (-z) k.1 (by rw [Int.neg_neg]; exact h.1) (by rw [varOf_neg]; exact h.2)⟩
  · rw [if_neg hm] at h; simp at h
theorem resolve_no {a b : List Int} {v : Int} (h : (ResolveV a b v).2 ≠ 0) : (ResolveV a b v).1 = [] := by
  unfold ResolveV at *
  by_cases hm : mayB a = true ∧ mayB b = true
  · rw [if_pos hm] at h ⊢
    by_cases hv : v ≤ 0 ∨ v ∉ a ∨ -v ∉ b
    · rw [if_pos hv]
    · rw [if_neg hv] at h ⊢
      cases hr : resL v a b with
      | none => rfl
      | some c => rw [hr] at h; simp at h
  · rw [if_neg hm]
theorem resL_len {v : Int} {a b c : List Int} (h : resL v a b = some c) : c.length ≤ a.length + b.length := mergeL_len _ a b h

/-- lits.Strike: from a state on. -/
def strikeL (b : List Int) : Int → List Int → Int
  | out, [] => out
  | out, x :: a => if x ∈ b then strikeL b out a else if out = 0 ∧ -x ∈ b then strikeL b (-x) a else 0
def StrikeV (a b : List Int) : Int := if mayB a = true ∧ mayB b = true then strikeL b 0 a else 0
/-- The reference's way: the first of b. -/
def strikeR (a b : List Int) : List Int → Int
  | [] => 0
  | y :: ys => if -y ∈ a ∧ ∀ x ∈ a, varOf x ≠ varOf y → x ∈ b then y else strikeR a b ys
def StrikeR (a b : List Int) : Int := if mayB a = true ∧ mayB b = true then strikeR a b b else 0

theorem strikeR_none {a b : List Int} : ∀ ys : List Int, (∀ y ∈ ys, ¬ (-y ∈ a ∧ ∀ x ∈ a, varOf x ≠ varOf y → x ∈ b)) → strikeR a b ys = 0
  | [], _ => rfl
  | y :: ys, h => by rw [strikeR, if_neg (h y (by simp)), strikeR_none ys fun z hz => h z (by simp [hz])]
theorem strikeR_some {a b : List Int} {y : Int} : ∀ ys : List Int, y ∈ ys → (-y ∈ a ∧ ∀ x ∈ a, varOf x ≠ varOf y → x ∈ b) → (∀ z ∈ ys, (-z ∈ a ∧ ∀ x ∈ a, varOf x ≠ varOf z → x ∈ b) → z = y) → strikeR a b ys = y
  | [], h, _, _ => by cases h
  | z :: ys, h, hy, hu => by
    rw [strikeR]
    by_cases hz : -z ∈ a ∧ ∀ x ∈ a, varOf x ≠ varOf z → x ∈ b
    · rw [if_pos hz]; exact hu z (by simp) hz
    · rw [if_neg hz]
      rcases List.mem_cons.1 h with rfl | h
      · exact absurd hy hz
      · exact strikeR_some ys h hy fun u hu' => hu u (by simp [hu'])

theorem strikeL_cases {b : List Int} (hb : ∀ x ∈ b, x ≠ 0) : ∀ (a : List Int) (out : Int),
    (out = 0 → (strikeL b 0 a = 0 ∧ ((∀ x ∈ a, x ∈ b) ∨ ¬ ∃ x, x ∈ a ∧ x ∉ b ∧ -x ∈ b ∧ ∀ z ∈ a, z ∉ b → z = x) ) ∨ (∃ x, x ∈ a ∧ x ∉ b ∧ -x ∈ b ∧ (∀ z ∈ a, z ∉ b → z = x) ∧ strikeL b 0 a = -x) ∨ ¬ a.Nodup) ∧
    (out ≠ 0 → (strikeL b out a = out ∧ ∀ x ∈ a, x ∈ b) ∨ (strikeL b out a = 0 ∧ ∃ x ∈ a, x ∉ b))
  | [], out => by
    refine ⟨fun _ => .inl ⟨rfl, .inl (by simp)⟩, fun _ => .inl ⟨rfl, by simp⟩⟩
  | x :: a, out => by
    obtain ⟨i1, i2⟩ := strikeL_cases hb a out
    by_cases hx : x ∈ b
    · refine ⟨fun h0 => ?_, fun h0 => ?_⟩
      · rw [strikeL, if_pos hx]
        rcases i1 h0 with ⟨h1, h2⟩ | ⟨y, h1, h2, h3, h4, h5⟩ | h1
        · refine .inl ⟨h1, ?_⟩
          rcases h2 with h2 | h2
          · exact .inl fun z hz => by rcases List.mem_cons.1 hz with rfl | hz; exact hx; exact h2 z hz
          · refine .inr fun ⟨y, y1, y2, y3, y4⟩ => h2 ⟨y, ?_, y2, y3, fun z hz => y4 z (by simp [hz])⟩
            rcases List.mem_cons.1 y1 with rfl | y1
            · exact absurd hx y2
            · exact y1
        · exact .inr (.inl ⟨y, by simp [h1], h2, h3, fun z hz hzb => by rcases List.mem_cons.1 hz with rfl | hz; exact absurd hx hzb; exact h4 z hz hzb, h5⟩)
        · exact .inr (.inr fun hn => h1 (List.nodup_cons.1 hn).2)
      · rw [strikeL, if_pos hx]
        rcases i2 h0 with ⟨h1, h2⟩ | ⟨h1, y, h2, h3⟩
        · exact .inl ⟨h1, fun z hz => by rcases List.mem_cons.1 hz with rfl | hz; exact hx; exact h2 z hz⟩
        · exact .inr ⟨h1, y, by simp [h2], h3⟩
    · refine ⟨fun h0 => ?_, fun h0 => ?_⟩
      · rw [strikeL, if_neg hx]
        by_cases hn : -x ∈ b
        · rw [if_pos ⟨rfl, hn⟩]
          have hne : -x ≠ 0 := hb _ hn
          rcases (strikeL_cases hb a (-x)).2 hne with ⟨h1, h2⟩ | ⟨h1, y, h2, h3⟩
          · exact .inr (.inl ⟨x, by simp, hx, hn, fun z hz hzb => by rcases List.mem_cons.1 hz with rfl | hz; rfl; exact absurd (h2 z hz) hzb, h1⟩)
          · by_cases hxy : y = x
            · exact .inr (.inr fun hnd => (List.nodup_cons.1 hnd).1 (hxy ▸ h2))
            · refine .inl ⟨h1, .inr fun ⟨u, u1, u2, u3, u4⟩ => hxy ?_⟩
              rw [u4 y (by simp [h2]) h3, u4 x (by simp) hx]
        · rw [if_neg fun h => hn h.2]
          refine .inl ⟨rfl, .inr fun ⟨u, u1, u2, u3, u4⟩ => hn ?_⟩
          rw [u4 x (by simp) hx]; exact u3
      · rw [strikeL, if_neg hx, if_neg fun h => h0 h.1]
        exact .inr ⟨rfl, x, by simp, hx⟩

theorem Asc.nodup {xs : List Int} (h : Asc xs) : xs.Nodup := by
  refine h.1.imp fun {a b} hab e => ?_
  rw [e] at hab; omega

theorem StrikeR_eq (a b : List Int) : StrikeR a b = StrikeV a b := by
  unfold StrikeR StrikeV
  by_cases hm : mayB a = true ∧ mayB b = true
  · rw [if_pos hm, if_pos hm]
    have ha := (mayB_iff a).1 hm.1
    have hb := (mayB_iff b).1 hm.2
    have hb0 : ∀ x ∈ b, x ≠ 0 := fun x hx => lit_ne (hb.2 x hx)
    have key : ∀ y ∈ b, (-y ∈ a ∧ ∀ x ∈ a, varOf x ≠ varOf y → x ∈ b) ↔ (-y ∈ a ∧ -y ∉ b ∧ ∀ z ∈ a, z ∉ b → z = -y) := fun y hy => by
      constructor
      · rintro ⟨h1, h2⟩
        refine ⟨h1, fun h3 => ?_, fun z hz hzb => ?_⟩
        · have := hb.inj hy h3 (varOf_neg y).symm
          have := hb0 y hy
          omega
        · have hv : varOf z = varOf y := by
            by_cases e : varOf z = varOf y
            · exact e
            · exact absurd (h2 z hz e) hzb
          exact ha.inj hz h1 (by rw [varOf_neg]; exact hv)
      · rintro ⟨h1, h2, h3⟩
        refine ⟨h1, fun x hx hne => ?_⟩
        by_cases hxb : x ∈ b
        · exact hxb
        · rw [h3 x hx hxb, varOf_neg] at hne
          exact absurd rfl hne
    rcases (strikeL_cases hb0 a 0).1 rfl with ⟨h1, h2⟩ | ⟨x, h1, h2, h3, h4, h5⟩ | h1
    · rw [h1]
      refine strikeR_none b fun y hy hyy => ?_
      obtain ⟨k1, k2, k3⟩ := (key y hy).1 hyy
      rcases h2 with h2 | h2
      · exact k2 (h2 _ k1)
      · exact h2 ⟨-y, k1, k2, by rw [Int.neg_neg]; exact hy, k3⟩
    · rw [h5]
      refine strikeR_some b h3 ((key _ h3).2 ⟨by rw [Int.neg_neg]; exact h1, by rw [Int.neg_neg]; exact h2, by rw [Int.neg_neg]; exact h4⟩) fun z hz hzz => ?_
      obtain ⟨k1, k2, k3⟩ := (key z hz).1 hzz
      have := k3 x h1 h2
      omega
    · exact absurd ha.nodup h1
  · rw [if_neg hm, if_neg hm]

/-- If something is struck, b without it is the resolvent. -/
theorem strike_res {a b : List Int} {v : Int} (hr : (ResolveV a b v).2 = 0) (hs : StrikeV a b = -v) (_h0 : StrikeV a b ≠ 0) : (ResolveV a b v).1 = WithoutV b v := by
  obtain ⟨h1, h2, h3, h4, h5, h6, h7⟩ := resolve_ok hr
  have ha := (mayB_iff a).1 h1
  have hb := (mayB_iff b).1 h2
  unfold WithoutV
  rw [if_pos h2]
  refine asc_ext h6 (hb.filter _) fun z => ?_
  rw [h7]
  simp only [List.mem_filter, decide_eq_true_eq]
  refine ⟨fun h => ?_, .inr⟩
  rcases h with ⟨k1, k2⟩ | h
  · have hvv : varOf v = v := by
      have h1 := ha.2 v h4
      have h2 := varOf_eq (n := v) (by omega)
      omega
    unfold StrikeV at hs _h0
    rw [if_pos ⟨h1, h2⟩] at hs _h0
    have hb0 : ∀ x ∈ b, x ≠ 0 := fun x hx => lit_ne (hb.2 x hx)
    rcases (strikeL_cases hb0 a 0).1 rfl with ⟨g1, g2⟩ | ⟨x, g1, g2, g3, g4, g5⟩ | g1
    · exact absurd g1 _h0
    · by_cases hz : z ∈ b
      · exact ⟨hz, k2⟩
      · have e1 := g4 z k1 hz
        rw [g5] at hs
        have : z = v := by omega
        rw [this, hvv] at k2
        exact absurd rfl k2
    · exact absurd ha.nodup g1
  · exact h
end Go.Proofs.YtlompphnngnaiaaGreatDoor
namespace Go.Proofs.YtlompphnngnaiaaGreatDoor

/-- The order of two integers as literals. -/
def ordB (x y : Int) : Int := if blt x y then -1 else if blt y x then 1 else 0
theorem ordB_neg (x y : Int) : ordB x y < 0 ↔ blt x y := by
  unfold ordB
  by_cases h : blt x y
  · rw [if_pos h]; simp [h]
  · rw [if_neg h]
    refine ⟨fun k => ?_, fun k => absurd k h⟩
    split at k <;> omega
theorem ordB_zero (x y : Int) : ordB x y = 0 ↔ x = y := by
  unfold ordB
  by_cases h : blt x y
  · rw [if_pos h]
    refine ⟨fun k => by omega, fun k => ?_⟩
    subst k; exact (blt_asym x x h h).elim
  · rw [if_neg h]
    by_cases k : blt y x
    · rw [if_pos k]
      refine ⟨fun k => by omega, fun e => ?_⟩
      subst e; exact absurd k h
    · rw [if_neg k]
      refine ⟨fun _ => ?_, fun _ => rfl⟩
      rcases blt_tri x y with h' | h' | h'
      · exact absurd h' h
      · exact h'
      · exact absurd h' k
theorem ordB_swap (x y : Int) : ordB y x = -ordB x y := by
  unfold ordB
  by_cases h : blt x y
  · rw [if_pos h, if_neg (fun k => blt_asym x y h k), if_pos h]; rfl
  · rw [if_neg h, if_neg h]
    by_cases k : blt y x
    · rw [if_pos k, if_pos k]
    · rw [if_neg k, if_neg k]; rfl
theorem ordB_refl (x : Int) : ordB x x = 0 := (ordB_zero x x).2 rfl

/-- lits.Compare. -/
def cmpL : List Int → List Int → Int
  | [], [] => 0
  | [], _ :: _ => -1
  | _ :: _, [] => 1
  | x :: a, y :: b => if ordB x y = 0 then cmpL a b else ordB x y
theorem cmpL_swap : ∀ a b : List Int, cmpL b a = -cmpL a b
  | [], [] => rfl
  | [], _ :: _ => rfl
  | _ :: _, [] => rfl
  | x :: a, y :: b => by
    rw [cmpL, cmpL, ordB_swap x y]
    by_cases h : ordB x y = 0
    · rw [if_pos h, if_pos (by omega), cmpL_swap a b]
    · rw [if_neg h, if_neg (by omega)]
theorem cmpL_zero : ∀ a b : List Int, cmpL a b = 0 ↔ a = b
  | [], [] => by simp [cmpL]
  | [], _ :: _ => by simp [cmpL]
  | _ :: _, [] => by simp [cmpL]
  | x :: a, y :: b => by
    rw [cmpL]
    by_cases h : ordB x y = 0
    · rw [if_pos h, cmpL_zero a b]
      have := (ordB_zero x y).1 h
      simp [this]
    · rw [if_neg h]
      have : x ≠ y := fun e => h ((ordB_zero x y).2 e)
      simp [h, this]
theorem cmpL_trans : ∀ a b c : List Int, cmpL a b ≤ 0 → cmpL b c ≤ 0 → cmpL a c ≤ 0 ∧ (cmpL a b < 0 ∨ cmpL b c < 0 → cmpL a c < 0)
  | [], [], [] => by simp [cmpL]
  | [], [], _ :: _ => by simp [cmpL]
  | [], _ :: _, [] => by simp [cmpL]
  | [], _ :: _, _ :: _ => by simp [cmpL]
  | _ :: _, [], _ => by simp [cmpL]
  | _ :: _, _ :: _, [] => by simp [cmpL]
  | x :: a, y :: b, z :: c => by
    rw [cmpL, cmpL, cmpL]
    by_cases h : ordB x y = 0
    · obtain rfl := (ordB_zero x y).1 h
      rw [if_pos h]
      by_cases k : ordB x z = 0
      · rw [if_pos k, if_pos k]; exact cmpL_trans a b c
      · rw [if_neg k, if_neg k]
        intro _ h2; exact ⟨h2, fun _ => by omega⟩
    · rw [if_neg h]
      by_cases k : ordB y z = 0
      · obtain rfl := (ordB_zero y z).1 k
        rw [if_pos k, if_neg h]
        intro h1 _; exact ⟨h1, fun _ => by omega⟩
      · rw [if_neg k]
        intro h1 h2
        have h3 := (ordB_neg x y).1 (by omega)
        have h4 := (ordB_neg y z).1 (by omega)
        have h5 := (ordB_neg x z).2 (blt_trans h3 h4)
        rw [if_neg (by omega)]
        exact ⟨by omega, fun _ => h5⟩
def llt (a b : List Int) : Prop := cmpL a b < 0
instance (a b : List Int) : Decidable (llt a b) := by unfold llt; infer_instance
theorem llt_irrefl (a : List Int) : ¬ llt a a := by unfold llt; rw [(cmpL_zero a a).2 rfl]; omega
theorem llt_trans {a b c : List Int} (h : llt a b) (k : llt b c) : llt a c := by
  unfold llt at *
  exact (cmpL_trans a b c (by omega) (by omega)).2 (.inl h)
theorem llt_asym (a b : List Int) (h : llt a b) (k : llt b a) : False := llt_irrefl a (llt_trans h k)
theorem llt_tri (a b : List Int) : llt a b ∨ a = b ∨ llt b a := by
  unfold llt
  rw [cmpL_swap a b, ← cmpL_zero a b]; omega

/-- The ways of sorting: insert unless there. -/
def insC : List (List Int) → List Int → List (List Int)
  | [], c => [c]
  | d :: l, c => if cmpL d c < 0 then d :: insC l c else if cmpL d c = 0 then d :: l else c :: d :: l
theorem mem_insC (l : List (List Int)) (c z : List Int) : z ∈ insC l c ↔ z = c ∨ z ∈ l := by
  induction l with
  | nil => simp [insC]
  | cons d l ih =>
    rw [insC]
    by_cases h : cmpL d c < 0
    · rw [if_pos h, List.mem_cons, ih, List.mem_cons]
      constructor
      · rintro (h | h | h)
        · exact .inr (.inl h)
        · exact .inl h
        · exact .inr (.inr h)
      · rintro (h | h | h)
        · exact .inr (.inl h)
        · exact .inl h
        · exact .inr (.inr h)
    · rw [if_neg h]
      by_cases k : cmpL d c = 0
      · rw [if_pos k]
        have := (cmpL_zero d c).1 k
        subst this
        simp
      · rw [if_neg k]; simp
theorem insC_sorted {l : List (List Int)} (c : List Int) (h : l.Pairwise llt) : (insC l c).Pairwise llt := by
  induction l with
  | nil => simp [insC]
  | cons d l ih =>
    obtain ⟨h1, h2⟩ := List.pairwise_cons.1 h
    rw [insC]
    by_cases hd : cmpL d c < 0
    · rw [if_pos hd, List.pairwise_cons]
      refine ⟨fun z hz => ?_, ih h2⟩
      rcases (mem_insC l c z).1 hz with rfl | hz
      · exact hd
      · exact h1 z hz
    · rw [if_neg hd]
      by_cases k : cmpL d c = 0
      · rw [if_pos k]; exact h
      · rw [if_neg k, List.pairwise_cons]
        have hc : llt c d := by unfold llt; rw [cmpL_swap d c]; omega
        refine ⟨fun z hz => ?_, h⟩
        rcases List.mem_cons.1 hz with rfl | hz
        · exact hc
        · exact llt_trans hc (h1 z hz)
theorem insC_len (l : List (List Int)) (c : List Int) : (insC l c).length ≤ l.length + 1 := by
  induction l with
  | nil => simp [insC]
  | cons d l ih =>
    rw [insC]
    split
    · simp; omega
    · split <;> simp
def sortCnf (f : List (List Int)) : List (List Int) := f.foldl insC []
theorem mem_fold_insC (f : List (List Int)) : ∀ (l : List (List Int)) (z : List Int), z ∈ f.foldl insC l ↔ z ∈ l ∨ z ∈ f := by
  induction f with
  | nil => simp
  | cons c f ih =>
    intro l z
    rw [List.foldl_cons, ih, mem_insC, List.mem_cons]
    constructor
    · rintro ((h | h) | h)
      · exact .inr (.inl h)
      · exact .inl h
      · exact .inr (.inr h)
    · rintro (h | h | h)
      · exact .inl (.inr h)
      · exact .inl (.inl h)
      · exact .inr h
theorem mem_sortCnf (f : List (List Int)) (z : List Int) : z ∈ sortCnf f ↔ z ∈ f := by unfold sortCnf; rw [mem_fold_insC]; simp
theorem fold_insC_sorted (f : List (List Int)) : ∀ {l : List (List Int)}, l.Pairwise llt → (f.foldl insC l).Pairwise llt := by
  induction f with
  | nil => exact fun h => h
  | cons c f ih => exact fun h => ih (insC_sorted c h)
theorem sortCnf_sorted (f : List (List Int)) : (sortCnf f).Pairwise llt := fold_insC_sorted f List.Pairwise.nil
def SortV (f : List (List Int)) : List (List Int) := if mayCnfB f = true then sortCnf f else []

/-- Equal neighbours struck. -/
def compactL : List (List Int) → List (List Int)
  | [] => []
  | [c] => [c]
  | c :: d :: l => if c = d then compactL (d :: l) else c :: compactL (d :: l)
theorem mem_compactL : ∀ (l : List (List Int)) (z : List Int), z ∈ compactL l ↔ z ∈ l
  | [], z => by simp [compactL]
  | [c], z => by simp [compactL]
  | c :: d :: l, z => by
    rw [compactL]
    by_cases h : c = d
    · rw [if_pos h, mem_compactL (d :: l) z, h]; simp
    · rw [if_neg h, List.mem_cons, mem_compactL (d :: l) z, List.mem_cons, List.mem_cons, List.mem_cons]
theorem compactL_sorted : ∀ (l : List (List Int)), (l.Pairwise fun a b => ¬ llt b a) → (compactL l).Pairwise llt
  | [], _ => by simp [compactL]
  | [c], _ => by simp [compactL]
  | c :: d :: l, h => by
    obtain ⟨h1, h2⟩ := List.pairwise_cons.1 h
    have ih := compactL_sorted (d :: l) h2
    rw [compactL]
    by_cases hc : c = d
    · rw [if_pos hc]; exact ih
    · rw [if_neg hc, List.pairwise_cons]
      refine ⟨fun z hz => ?_, ih⟩
      have hz' := (mem_compactL (d :: l) z).1 hz
      have hcd : llt c d := by
        rcases llt_tri c d with k | k | k
        · exact k
        · exact absurd k hc
        · exact absurd k (h1 d (by simp))
      rcases List.mem_cons.1 hz' with rfl | hz'
      · exact hcd
      · have := (List.pairwise_cons.1 h2).1 z hz'
        rcases llt_tri d z with k | k | k
        · exact llt_trans hcd k
        · exact k ▸ hcd
        · exact absurd k this
theorem compactL_sort {f g : List (List Int)} (hp : ∀ z, z ∈ g ↔ z ∈ f) (hs : g.Pairwise fun a b => ¬ llt b a) : compactL g = sortCnf f :=
  sorted_ext llt_asym (compactL_sorted g hs) (sortCnf_sorted f) fun z => by rw [mem_compactL, hp, mem_sortCnf]
theorem sortCnf_self {f : List (List Int)} (h : f.Pairwise llt) : sortCnf f = f := sorted_ext llt_asym (sortCnf_sorted f) h fun z => mem_sortCnf f z
end Go.Proofs.YtlompphnngnaiaaGreatDoor
namespace Go.Proofs.YtlompphnngnaiaaGreatDoor
open Go.Lib

def dgt (c : UInt8) : Prop := 48 ≤ c.toNat ∧ c.toNat ≤ 57
theorem ofNat_dgt (d : Nat) (h : d < 10) : (UInt8.ofNat (48 + d)).toNat = 48 + d := by
  simp; omega
theorem dgt_ofNat (d : Nat) (h : d < 10) : dgt (UInt8.ofNat (48 + d)) := by
  unfold dgt
  rw [ofNat_dgt d h]; omega
theorem dec_small {u : Nat} (h : u < 10) : decDigits u = [UInt8.ofNat (48 + u)] := by rw [decDigits, dif_pos h]
theorem dec_big {u : Nat} (h : ¬ u < 10) : decDigits u = decDigits (u / 10) ++ [UInt8.ofNat (48 + u % 10)] := by rw [decDigits, dif_neg h]
theorem decDigits_dgt (u : Nat) : ∀ c ∈ decDigits u, dgt c := by
  induction u using Nat.strongRecOn with
  | _ u ih =>
    intro c hc
    by_cases h : u < 10
    · rw [dec_small h] at hc
      rw [List.mem_singleton.1 hc]; exact dgt_ofNat u h
    · rw [dec_big h] at hc
      rcases List.mem_append.1 hc with hc | hc
      · exact ih (u / 10) (by omega) c hc
      · rw [List.mem_singleton.1 hc]; exact dgt_ofNat _ (by omega)
theorem decDigits_ne (u : Nat) : decDigits u ≠ [] := by
  by_cases h : u < 10
  · rw [dec_small h]; simp
  · rw [dec_big h]; simp
theorem parse_app : ∀ (l r : List UInt8) (acc v : Nat), parseUint10 acc l = .ok v → parseUint10 acc (l ++ r) = parseUint10 v r
  | [], r, acc, v, h => by
    rw [parseUint10] at h
    injection h with h
    rw [h]; rfl
  | c :: l, r, acc, v, h => by
    rw [List.cons_append]
    rw [parseUint10] at h ⊢
    by_cases h1 : 48 ≤ c.toNat ∧ c.toNat ≤ 57
    · rw [if_pos h1] at h ⊢
      by_cases h2 : 1844674407370955162 ≤ acc
      · rw [if_pos h2] at h; cases h
      · rw [if_neg h2] at h ⊢
        by_cases h3 : 18446744073709551616 ≤ acc * 10 + (c.toNat - 48)
        · rw [if_pos h3] at h; cases h
        · rw [if_neg h3] at h ⊢
          exact parse_app l r _ v h
    · rw [if_neg h1] at h; cases h
theorem parse_dg (acc d : Nat) (hd : d < 10) (ha : acc ≤ 1000000000000) (r : List UInt8) : parseUint10 acc (UInt8.ofNat (48 + d) :: r) = parseUint10 (acc * 10 + d) r := by
  have h := ofNat_dgt d hd
  rw [parseUint10, if_pos (by rw [h]; omega), if_neg (by omega), if_neg (by rw [h]; omega), h, show 48 + d - 48 = d by omega]
theorem parse_dec (u : Nat) (h : u ≤ 1000000000000) : parseUint10 0 (decDigits u) = .ok u := by
  induction u using Nat.strongRecOn with
  | _ u ih =>
    by_cases hu : u < 10
    · rw [dec_small hu, parse_dg 0 u hu (by omega), parseUint10]
      simp
    · rw [dec_big hu, parse_app _ _ 0 (u / 10) (ih (u / 10) (by omega) (by omega)), parse_dg (u / 10) (u % 10) (by omega) (by omega), parseUint10]
      congr 1
      omega

theorem itoa_cases (n : Int) : (n < 0 ∧ itoa n = 45 :: decDigits n.natAbs) ∨ (0 ≤ n ∧ itoa n = decDigits n.natAbs) := by
  unfold itoa
  by_cases h : n < 0
  · rw [if_pos h]; exact .inl ⟨h, rfl⟩
  · rw [if_neg h]; exact .inr ⟨by omega, by rw [show n.toNat = n.natAbs by omega]⟩
theorem atoi_neg {r : List UInt8} {u : Nat} (h : parseMag r = .ok u) (hu : u ≤ 9223372036854775808) : atoiAll (45 :: r) = .ok (-(u : Int)) := by
  have e : (45 : UInt8).toNat = 45 := rfl
  unfold atoiAll
  simp [e, h]
  omega
theorem atoi_pos {c : UInt8} {r : List UInt8} {u : Nat} (hc : ¬ (c.toNat = 43 ∨ c.toNat = 45)) (h : parseMag (c :: r) = .ok u) (hu : u < 9223372036854775808) : atoiAll (c :: r) = .ok (u : Int) := by
  unfold atoiAll
  have h1 : ¬ c.toNat = 43 := fun e => hc (.inl e)
  have h2 : ¬ c.toNat = 45 := fun e => hc (.inr e)
  simp [h1, h2, h]
  omega
theorem atoi_itoa (n : Int) (h : n.natAbs ≤ 1000000000000) : atoiAll (itoa n) = .ok n := by
  have hp := parse_dec n.natAbs h
  have hne := decDigits_ne n.natAbs
  rcases itoa_cases n with ⟨h0, e⟩ | ⟨h0, e⟩
  · rw [e, atoi_neg (u := n.natAbs) (by unfold parseMag; rw [if_neg hne, hp]) (by omega)]
    congr 1
    omega
  · rw [e]
    obtain ⟨c, r, hc⟩ : ∃ c r, decDigits n.natAbs = c :: r := by
      cases hd : decDigits n.natAbs with
      | nil => exact absurd hd hne
      | cons c r => exact ⟨c, r, rfl⟩
    have hd : dgt c := decDigits_dgt n.natAbs c (by rw [hc]; simp)
    unfold dgt at hd
    rw [hc] at hp ⊢
    rw [atoi_pos (u := n.natAbs) (by omega) (by unfold parseMag; rw [if_neg (by simp), hp]) (by omega)]
    congr 1
    omega
/-- The characters of numerals. -/
def okc (c : UInt8) : Prop := c.toNat = 45 ∨ dgt c
theorem itoa_okc (n : Int) : ∀ c ∈ itoa n, okc c := by
  intro c hc
  rcases itoa_cases n with ⟨-, e⟩ | ⟨-, e⟩
  · rw [e] at hc
    rcases List.mem_cons.1 hc with rfl | hc
    · exact .inl rfl
    · exact .inr (decDigits_dgt _ c hc)
  · rw [e] at hc; exact .inr (decDigits_dgt _ c hc)
theorem itoa_sp (n : Int) : (32 : UInt8) ∉ itoa n := fun h => by
  have := itoa_okc n 32 h
  unfold okc dgt at this
  have e : (32 : UInt8).toNat = 32 := rfl
  rw [e] at this; omega
theorem itoa_ne (n : Int) : itoa n ≠ [] := by
  rcases itoa_cases n with ⟨-, e⟩ | ⟨-, e⟩
  · rw [e]; simp
  · rw [e]; exact decDigits_ne _

theorem index_none {c : UInt8} : ∀ {w : List UInt8}, c ∉ w → index w [c] = -1
  | [], _ => by rw [index]; rfl
  | b :: l, h => by
    have hb : b ≠ c := fun e => h (by simp [e])
    have ih := index_none (w := l) (c := c) (fun k => h (by simp [k]))
    rw [index, ih]
    simp [List.isPrefixOf, Ne.symm hb]
theorem index_at {c : UInt8} : ∀ {w r : List UInt8}, c ∉ w → index (w ++ c :: r) [c] = (w.length : Int)
  | [], r, _ => by rw [List.nil_append, index]; simp [List.isPrefixOf]
  | b :: l, r, h => by
    have hb : b ≠ c := fun e => h (by simp [e])
    have ih := index_at (w := l) (c := c) (r := r) (fun k => h (by simp [k]))
    have h2 : ¬ (((l.length : Nat) : Int) = -1) := by omega
    rw [List.cons_append, index, ih]
    simp [List.isPrefixOf, Ne.symm hb, h2]
theorem split_one {c : UInt8} {w : List UInt8} (h : c ∉ w) : split w [c] = [w] := by
  unfold split
  rw [count_one, List.count_eq_zero.2 h, splitK]
theorem split_cons {c : UInt8} {w r : List UInt8} (h : c ∉ w) : split (w ++ c :: r) [c] = w :: split r [c] := by
  unfold split
  rw [count_one, count_one, List.count_append, List.count_eq_zero.2 h, List.count_cons_self, Nat.zero_add, splitK, index_at h]
  have h2 : ¬ (((w.length : Nat) : Int) = -1) := by omega
  rw [if_neg (by simp)]
  simp
theorem join_two (x y : List UInt8) (r : List (List UInt8)) (c : UInt8) : join (x :: y :: r) [c] = x ++ c :: join (y :: r) [c] := by
  rw [join_cons, join_cons]
  unfold joinTail
  simp
theorem split_join {c : UInt8} : ∀ ws : List (List UInt8), ws ≠ [] → (∀ w ∈ ws, c ∉ w) → split (join ws [c]) [c] = ws
  | [], h, _ => absurd rfl h
  | [w], _, h => by rw [join_one]; exact split_one (h w (by simp))
  | w :: v :: ws, _, h => by
    rw [join_two, split_cons (h w (by simp)), split_join (v :: ws) (by simp) fun u hu => h u (by simp [hu])]

/-- The text of a list of integers. -/
def textB (xs : List Int) : List UInt8 := join (xs.map itoa) [32]
def TextV (xs : List Int) : List UInt8 × Int := if mayB xs = true then (textB xs, 0) else ([], 2)
def wordV (w : List UInt8) : Int := match atoiAll w with | .ok v => v | _ => 0
def readW (s : List UInt8) : List Int := (split s [32]).map wordV
def ReadV (s : List UInt8) : List Int × Int := if s = [] then ([], 0) else if mayB (readW s) = true ∧ textB (readW s) = s then (readW s, 0) else ([], 5)

theorem readW_text {xs : List Int} (hne : xs ≠ []) (h : ∀ x ∈ xs, x.natAbs ≤ 1000000000000) : readW (textB xs) = xs := by
  unfold readW textB
  rw [split_join _ (by simpa using hne) (fun w hw => by obtain ⟨x, _, rfl⟩ := List.mem_map.1 hw; exact itoa_sp x), List.map_map]
  refine (List.map_congr_left fun x hx => ?_).trans (List.map_id xs)
  show wordV (itoa x) = x
  unfold wordV
  rw [atoi_itoa x (h x hx)]

theorem textB_ne {xs : List Int} (h : xs ≠ []) : textB xs ≠ [] := by
  cases xs with
  | nil => exact absurd rfl h
  | cons x xs =>
    unfold textB
    rw [List.map_cons, join_cons]
    intro e
    exact itoa_ne x (List.append_eq_nil_iff.1 e).1
theorem read_text {xs : List Int} (h : mayB xs = true) : ReadV (textB xs) = (xs, 0) := by
  unfold ReadV
  by_cases hne : xs = []
  · subst hne; rfl
  · have hr := readW_text hne fun x hx => by have := lit_small (((mayB_iff xs).1 h).2 x hx); omega
    rw [if_neg (textB_ne hne), hr, if_pos ⟨h, rfl⟩]
theorem read_is {s : List UInt8} (h : (ReadV s).2 = 0) : mayB (ReadV s).1 = true ∧ textB (ReadV s).1 = s := by
  unfold ReadV at *
  by_cases h0 : s = []
  · rw [if_pos h0]; subst h0; exact ⟨rfl, rfl⟩
  · rw [if_neg h0] at h ⊢
    by_cases h1 : mayB (readW s) = true ∧ textB (readW s) = s
    · rw [if_pos h1]; exact h1
    · rw [if_neg h1] at h; simp at h
theorem read_no {s : List UInt8} (h : (ReadV s).2 ≠ 0) : ReadV s = ([], 5) := by
  unfold ReadV at *
  by_cases h0 : s = []
  · rw [if_pos h0] at h; simp at h
  · rw [if_neg h0] at h ⊢
    by_cases h1 : mayB (readW s) = true ∧ textB (readW s) = s
    · rw [if_pos h1] at h; simp at h
    · rw [if_neg h1]
/-- Whoever reads texts of normal lists back, and holds what comes against the text, reads so. -/
theorem read_by {s : List UInt8} {l : List Int} (h : mayB l = true) (e : textB l = s) : ReadV s = (l, 0) := e ▸ read_text h
theorem read_none {s : List UInt8} (h : ∀ l, mayB l = true → textB l = s → False) : ReadV s = ([], 5) :=
  read_no fun k => h _ (read_is k).1 (read_is k).2
theorem textB_okc (xs : List Int) : ∀ c ∈ textB xs, c = 32 ∨ okc c := by
  unfold textB
  induction xs with
  | nil => intro c hc; cases hc
  | cons x xs ih =>
    intro c hc
    cases xs with
    | nil =>
      rw [List.map_cons, List.map_nil, join_one] at hc
      exact .inr (itoa_okc x c hc)
    | cons y ys =>
      rw [List.map_cons, List.map_cons, join_two] at hc
      rcases List.mem_append.1 hc with hc | hc
      · exact .inr (itoa_okc x c hc)
      · rcases List.mem_cons.1 hc with hc | hc
        · exact .inl hc
        · exact ih c hc
theorem dec_len (u : Nat) (h : u ≤ 65536) : (decDigits u).length ≤ 5 := by
  have h1 : ∀ u, u < 10 → (decDigits u).length = 1 := fun u h => by rw [dec_small h]; rfl
  have h2 : ∀ u, u < 100 → (decDigits u).length ≤ 2 := fun u h => by
    by_cases k : u < 10
    · rw [h1 u k]; omega
    · rw [dec_big k, List.length_append, h1 _ (by omega)]; simp
  have h3 : ∀ u, u < 1000 → (decDigits u).length ≤ 3 := fun u h => by
    by_cases k : u < 10
    · rw [h1 u k]; omega
    · rw [dec_big k, List.length_append]; have := h2 (u / 10) (by omega); simp; omega
  have h4 : ∀ u, u < 10000 → (decDigits u).length ≤ 4 := fun u h => by
    by_cases k : u < 10
    · rw [h1 u k]; omega
    · rw [dec_big k, List.length_append]; have := h3 (u / 10) (by omega); simp; omega
  by_cases k : u < 10
  · rw [h1 u k]; omega
  · rw [dec_big k, List.length_append]; have := h4 (u / 10) (by omega); simp; omega
theorem itoa_len {x : Int} (h : x.natAbs ≤ 65536) : (itoa x).length ≤ 6 := by
  have := dec_len x.natAbs h
  rcases itoa_cases x with ⟨-, e⟩ | ⟨-, e⟩ <;> rw [e] <;> simp <;> omega
theorem textB_len {xs : List Int} (h : ∀ x ∈ xs, x.natAbs ≤ 65536) : (textB xs).length ≤ 7 * xs.length := by
  unfold textB
  induction xs with
  | nil => simp [join_nil]
  | cons x xs ih =>
    have hx := itoa_len (h x (by simp))
    cases xs with
    | nil => rw [List.map_cons, List.map_nil, join_one]; simp; omega
    | cons y ys =>
      have := ih fun z hz => h z (by simp [hz])
      rw [List.map_cons, List.map_cons, join_two]
      rw [List.map_cons] at this
      simp only [List.length_append, List.length_cons] at *
      omega
end Go.Proofs.YtlompphnngnaiaaGreatDoor
