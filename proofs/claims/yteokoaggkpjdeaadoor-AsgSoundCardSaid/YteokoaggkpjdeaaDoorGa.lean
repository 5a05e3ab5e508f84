/- Plain words on literals and normal lists: no program here. Plain law of joining two normal lists: the merge of the program and the insertion of the reference. Plain: a binary heap in a list of integers; sifting up and down. No program here. -/
namespace Go.Proofs.YteokoaggkpjdeaaDoor

/-- An integer of 64 bits. -/
def I64 (n : Int) : Prop := -9223372036854775808 ≤ n ∧ n ≤ 9223372036854775807
/-- All numbers of a list have 64 bits. -/
def All64 (xs : List Int) : Prop := ∀ x ∈ xs, I64 x
/-- All lists of integers of 64 bits. -/
def All64L (xss : List (List Int)) : Prop := ∀ xs ∈ xss, All64 xs

def varOf (n : Int) : Int := if n.natAbs ≤ 65536 then (n.natAbs : Int) else 0

theorem varOf_range (n : Int) : 0 ≤ varOf n ∧ varOf n ≤ 65536 := by unfold varOf; split <;> omega
theorem varOf_neg (n : Int) : varOf (-n) = varOf n := by unfold varOf; rw [Int.natAbs_neg]
theorem varOf_eq {n : Int} (h : varOf n ≠ 0) : (n.natAbs : Int) = varOf n ∧ n ≠ 0 := by unfold varOf at *; split at h <;> simp_all
theorem varOf_inj {a b : Int} (h : varOf a ≠ 0) (e : varOf a = varOf b) : a = b ∨ a = -b := by
  have h1 := varOf_eq h
  have h2 := varOf_eq (n := b) (by rw [← e]; exact h)
  omega

/-- The literals of a list from a last variable on are normal. -/
def mayFrom : Int → List Int → Bool
  | _, [] => true
  | last, x :: xs => if varOf x ≤ last then false else mayFrom (varOf x) xs
def mayB (xs : List Int) : Bool := mayFrom 0 xs

theorem mayFrom_drop (last : Int) (xs : List Int) (k : Nat) (h : k < xs.length) :
    mayFrom last (xs.drop k) = if varOf xs[k] ≤ last then false else mayFrom (varOf xs[k]) (xs.drop (k + 1)) := by
  rw [List.drop_eq_getElem_cons h]; rfl

/-- Normal: the variables ascend. -/
def Asc (xs : List Int) : Prop := xs.Pairwise (fun a b => varOf a < varOf b) ∧ ∀ x ∈ xs, 0 < varOf x

theorem mayFrom_iff (xs : List Int) : ∀ last, 0 ≤ last → (mayFrom last xs = true ↔ xs.Pairwise (fun a b => varOf a < varOf b) ∧ ∀ x ∈ xs, last < varOf x) := by
  induction xs with
  | nil => intro last _; simp [mayFrom]
  | cons x xs ih =>
    intro last h0
    unfold mayFrom
    by_cases h : varOf x ≤ last
    · rw [if_pos h]
      simp only [Bool.false_eq_true, false_iff]
      rintro ⟨_, h2⟩
      have := h2 x (by simp)
      omega
    · rw [if_neg h, ih _ (by omega), List.pairwise_cons]
      constructor
      · rintro ⟨h1, h2⟩
        refine ⟨⟨h2, h1⟩, fun y hy => ?_⟩
        rcases List.mem_cons.1 hy with rfl | hy
        · omega
        · have := h2 y hy; omega
      · rintro ⟨⟨h1, h2⟩, h3⟩
        exact ⟨h2, h1⟩

theorem mayB_iff (xs : List Int) : mayB xs = true ↔ Asc xs := mayFrom_iff xs 0 (Int.le_refl _)

theorem asc_len_from : ∀ (xs : List Int) (last : Int), 0 ≤ last → xs.Pairwise (fun a b => varOf a < varOf b) → (∀ x ∈ xs, last < varOf x) → last ≤ 65536 → last + xs.length ≤ 65536 := by
  intro xs
  induction xs with
  | nil => intro last _ _ _ h; simpa using h
  | cons x xs ih =>
    intro last h0 hp hl hm
    rw [List.pairwise_cons] at hp
    have h1 := hl x (by simp)
    have h2 := varOf_range x
    have := ih (varOf x) (by omega) hp.2 hp.1 h2.2
    simp only [List.length_cons]
    omega

theorem Asc.len {xs : List Int} (h : Asc xs) : xs.length ≤ 65536 := by
  have := asc_len_from xs 0 (Int.le_refl _) h.1 h.2 (by omega)
  omega
theorem may_len {xs : List Int} (h : mayB xs = true) : xs.length ≤ 65536 := ((mayB_iff xs).1 h).len

theorem Asc.lt {xs : List Int} (h : Asc xs) (i j : Nat) (hij : i < j) (hj : j < xs.length) : varOf xs[i] < varOf xs[j] :=
  List.pairwise_iff_getElem.1 h.1 i j (by omega) hj hij

/-- What Search comes to. -/
def SearchAt (p : Nat → Bool) (n : Nat) (r : Nat) : Prop := r ≤ n ∧ (r < n → p r = true) ∧ (0 < r → p (r - 1) = false)

def lookI (xs : List Int) (lit : Int) : Int := if varOf lit = 0 then 0 else if lit ∈ xs then 1 else if -lit ∈ xs then 2 else 0

/-- The place of a variable in a normal list. -/
theorem look_place {xs : List Int} (ha : Asc xs) {lit : Int} {r : Nat} (hs : SearchAt (fun k => decide (varOf lit ≤ varOf (xs.getD k 0))) xs.length r) :
    (∀ (k : Nat) (hk : k < xs.length), varOf xs[k] = varOf lit → k = r) := by
  intro k hk he
  obtain ⟨h1, h2, h3⟩ := hs
  rcases Nat.lt_trichotomy k r with h | h | h
  · have h4 := h3 (by omega)
    have hr1 : r - 1 < xs.length := by omega
    simp only [List.getD_eq_getElem?_getD, List.getElem?_eq_getElem hr1, Option.getD_some, decide_eq_false_iff_not] at h4
    rcases Nat.lt_or_ge k (r - 1) with h5 | h5
    · have := ha.lt k (r - 1) h5 hr1; omega
    · obtain rfl : k = r - 1 := by omega
      omega
  · exact h
  · have h4 := h2 (by omega)
    have hr1 : r < xs.length := by omega
    simp only [List.getD_eq_getElem?_getD, List.getElem?_eq_getElem hr1, Option.getD_some, decide_eq_true_eq] at h4
    have := ha.lt r k h hk
    omega

theorem look_none {xs : List Int} (ha : Asc xs) {lit : Int} (hv : varOf lit ≠ 0) {r : Nat} (hs : SearchAt (fun k => decide (varOf lit ≤ varOf (xs.getD k 0))) xs.length r)
    (hr : ∀ h : r < xs.length, varOf xs[r] ≠ varOf lit) : lookI xs lit = 0 := by
  have hp := look_place ha hs
  have no : ∀ x ∈ xs, varOf x ≠ varOf lit := by
    intro x hx he
    obtain ⟨k, hk, rfl⟩ := List.getElem_of_mem hx
    obtain rfl := hp k hk he
    exact hr hk he
  unfold lookI
  rw [if_neg hv, if_neg (fun h => no _ h rfl), if_neg (fun h => no _ h (varOf_neg lit))]

theorem look_at {xs : List Int} (ha : Asc xs) {lit : Int} (hv : varOf lit ≠ 0) {r : Nat} (hs : SearchAt (fun k => decide (varOf lit ≤ varOf (xs.getD k 0))) xs.length r)
    (h : r < xs.length) (hr : varOf xs[r] = varOf lit) : lookI xs lit = if xs[r] = lit then 1 else 2 := by
  have hp := look_place ha hs
  unfold lookI
  rw [if_neg hv]
  by_cases he : xs[r] = lit
  · rw [if_pos he, if_pos (he ▸ List.getElem_mem h)]
  · have hn : lit ∉ xs := by
      intro hx
      obtain ⟨k, hk, hk'⟩ := List.getElem_of_mem hx
      obtain rfl := hp k hk (by rw [hk'])
      exact he hk'
    have h2 : xs[r] = -lit := by
      rcases varOf_inj (by rw [hr]; exact hv) hr with h | h
      · exact absurd h he
      · exact h
    rw [if_neg he, if_neg hn, if_pos (h2 ▸ List.getElem_mem h)]

/-- The sum of the lengths of the first k lists. -/
def lens (xss : List (List Int)) (k : Nat) : Nat := ((xss.take k).map List.length).sum

def mayCnfB (xss : List (List Int)) : Bool := decide (xss.length ≤ 20000) && (List.range xss.length).all fun k => decide (lens xss (k + 1) ≤ 200000) && mayB (xss.getD k [])

theorem lens_succ (xss : List (List Int)) (k : Nat) (h : k < xss.length) : lens xss (k + 1) = lens xss k + xss[k].length := by
  unfold lens
  rw [List.take_succ_eq_append_getElem h, List.map_append, List.sum_append]; simp

/-- All lengths together. -/
def total (xss : List (List Int)) : Nat := lens xss xss.length

theorem lens_le (xss : List (List Int)) (k : Nat) : lens xss k ≤ total xss := by
  unfold total lens
  rw [List.take_length]
  conv => rhs; rw [← List.take_append_drop k xss, List.map_append, List.sum_append]
  omega

theorem mayCnfB_get {f : List (List Int)} (h : mayCnfB f = true) (k : Nat) (hk : k < f.length) : mayB f[k] = true := by
  unfold mayCnfB at h
  rw [Bool.and_eq_true, List.all_eq_true] at h
  have := h.2 k (by simpa using hk)
  rw [Bool.and_eq_true] at this
  simpa [hk] using this.2
theorem mayCnfB_len {f : List (List Int)} (h : mayCnfB f = true) : f.length ≤ 20000 := by
  unfold mayCnfB at h
  rw [Bool.and_eq_true] at h
  simpa using h.1

theorem getD_of (xss : List (List Int)) (k : Nat) (h : k < xss.length) : xss.getD k [] = xss[k] := by simp [h]
theorem getD_int (xs : List Int) (k : Nat) (h : k < xs.length) : xs.getD k 0 = xs[k] := by simp [h]


/-- asg.search: end if a thing has that value, rest if all have the other one, otherwise 0. -/
def searchG (g : Nat → Int) (n : Nat) (a b : Int) : Int := if ∃ j, j < n ∧ g j = a then a else if ∃ j, j < n ∧ g j = 0 then 0 else b

theorem searchG_found {g : Nat → Int} {n k : Nat} {a b : Int} (hk : k < n) (h : g k = a) : searchG g n a b = a := by
  unfold searchG
  rw [if_pos ⟨k, hk, h⟩]

theorem searchG_end {g : Nat → Int} {n : Nat} {a b r : Int} (h : ∀ j, j < n → g j ≠ a) (hr : r = if ∃ j, j < n ∧ g j = 0 then 0 else b) : r = searchG g n a b := by
  unfold searchG
  rw [if_neg (fun ⟨j, hj, he⟩ => h j hj he), hr]

theorem searchG_skip {g : Nat → Int} {k : Nat} {b : Int} (h : g k ≠ 0) : (if ∃ j, j < k ∧ g j = 0 then 0 else b) = if ∃ j, j < k + 1 ∧ g j = 0 then 0 else b := by
  by_cases h1 : ∃ j, j < k ∧ g j = 0
  · obtain ⟨j, hj, he⟩ := h1
    rw [if_pos ⟨j, hj, he⟩, if_pos ⟨j, by omega, he⟩]
  · rw [if_neg h1, if_neg]
    rintro ⟨j, hj, he⟩
    by_cases hjk : j = k
    · exact h (hjk ▸ he)
    · exact h1 ⟨j, by omega, he⟩

def clauseV (xs cs : List Int) : Int := searchG (fun k => lookI xs (cs.getD k 0)) cs.length 1 2
def cubeV (xs cs : List Int) : Int := searchG (fun k => lookI xs (cs.getD k 0)) cs.length 2 1
def cnfV (xs : List Int) (f : List (List Int)) : Int := searchG (fun k => clauseV xs (f.getD k [])) f.length 2 1

def ValueV (xs : List Int) (lit : Int) : Int := if mayB xs = true then lookI xs lit else 0
def ClauseV (xs cs : List Int) : Int := if mayB xs = true ∧ mayB cs = true then clauseV xs cs else 0
def CubeV (xs cs : List Int) : Int := if mayB xs = true ∧ mayB cs = true then cubeV xs cs else 0
def CnfV (xs : List Int) (f : List (List Int)) : Int := if mayB xs = true ∧ mayCnfB f = true then cnfV xs f else 0

/-- asg.Under of a normal assignment and a CNF. -/
def underL (xs : List Int) (f : List (List Int)) : List (List Int) := (f.filter (fun c => !(clauseV xs c == 1))).map (fun c => c.filter (fun x => !(lookI xs x == 2)))
def UnderV (xs : List Int) (f : List (List Int)) : List (List Int) := if mayB xs = true ∧ mayCnfB f = true then underL xs f else []

theorem underL_take (xs : List Int) (f : List (List Int)) (k : Nat) (h : k < f.length) :
    underL xs (f.take (k + 1)) = underL xs (f.take k) ++ if clauseV xs f[k] = 1 then [] else [f[k].filter (fun x => !(lookI xs x == 2))] := by
  unfold underL
  rw [List.take_succ_eq_append_getElem h, List.filter_append, List.map_append]
  by_cases hc : clauseV xs f[k] = 1 <;> simp [hc]

theorem underL_len (xs : List Int) (f : List (List Int)) : (underL xs f).length ≤ f.length := by
  unfold underL
  rw [List.length_map]
  exact List.length_filter_le _ _

end Go.Proofs.YteokoaggkpjdeaaDoor
namespace Go.Proofs.YteokoaggkpjdeaaDoor

theorem sorted_ext {α : Type} {r : α → α → Prop} (asym : ∀ a b, r a b → r b a → False) : ∀ {l l' : List α}, l.Pairwise r → l'.Pairwise r → (∀ x, x ∈ l ↔ x ∈ l') → l = l'
  | [], [], _, _, _ => rfl
  | [], y :: l', _, _, h => absurd ((h y).2 (by simp)) (by simp)
  | x :: l, [], _, _, h => absurd ((h x).1 (by simp)) (by simp)
  | x :: l, y :: l', h1, h2, h => by
    rw [List.pairwise_cons] at h1 h2
    have exy : x = y := by
      rcases List.mem_cons.1 ((h x).1 (by simp)) with e | e
      · exact e
      · rcases List.mem_cons.1 ((h y).2 (by simp)) with e' | e'
        · exact e'.symm
        · exact (asym _ _ (h2.1 x e) (h1.1 y e')).elim
    subst exy
    have : l = l' := sorted_ext asym h1.2 h2.2 fun z => by
      constructor
      · intro hz
        rcases List.mem_cons.1 ((h z).1 (by simp [hz])) with e | e
        · subst e; exact (asym _ _ (h1.1 z hz) (h1.1 z hz)).elim
        · exact e
      · intro hz
        rcases List.mem_cons.1 ((h z).2 (by simp [hz])) with e | e
        · subst e; exact (asym _ _ (h2.1 z hz) (h2.1 z hz)).elim
        · exact e
    rw [this]

/-- The order of literals. -/
def blt (a b : Int) : Prop := a.natAbs < b.natAbs ∨ (a.natAbs = b.natAbs ∧ a < b)
instance (a b : Int) : Decidable (blt a b) := by unfold blt; infer_instance

theorem blt_asym (a b : Int) (h : blt a b) (k : blt b a) : False := by unfold blt at *; omega
theorem blt_trans {a b c : Int} (h : blt a b) (k : blt b c) : blt a c := by unfold blt at *; omega
theorem blt_tri (a b : Int) : blt a b ∨ a = b ∨ blt b a := by unfold blt; omega
theorem blt_of_var {a b : Int} (h : varOf a < varOf b) : 0 < varOf a → blt a b := by
  intro h0
  have h1 := varOf_eq (n := a) (by omega)
  have h2 := varOf_eq (n := b) (by omega)
  unfold blt; omega
theorem var_of_blt {a b : Int} (ha : 0 < varOf a) (hb : 0 < varOf b) (h : blt a b) : varOf a < varOf b ∨ (varOf a = varOf b ∧ a = -b ∧ a < b) := by
  have h1 := varOf_eq (n := a) (by omega)
  have h2 := varOf_eq (n := b) (by omega)
  unfold blt at h
  omega

theorem asc_blt {xs : List Int} (h : Asc xs) : xs.Pairwise blt :=
  List.Pairwise.imp_of_mem (fun {a _} ha _ hab => blt_of_var hab (h.2 a ha)) h.1

theorem asc_ext {xs ys : List Int} (h : Asc xs) (k : Asc ys) (he : ∀ x, x ∈ xs ↔ x ∈ ys) : xs = ys := sorted_ext blt_asym (asc_blt h) (asc_blt k) he

/-- In a normal list a variable stands once. -/
theorem Asc.inj {xs : List Int} (h : Asc xs) {x y : Int} (hx : x ∈ xs) (hy : y ∈ xs) (e : varOf x = varOf y) : x = y := by
  obtain ⟨i, hi, rfl⟩ := List.getElem_of_mem hx
  obtain ⟨j, hj, rfl⟩ := List.getElem_of_mem hy
  rcases Nat.lt_trichotomy i j with h1 | h1 | h1
  · have := h.lt i j h1 hj; omega
  · subst h1; rfl
  · have := h.lt j i h1 hi; omega

/-- A strictly ordered list of literals is normal exactly if it holds no literal with its negation. -/
theorem may_iff_clash {xs : List Int} (h : xs.Pairwise blt) (hl : ∀ x ∈ xs, 0 < varOf x) : mayB xs = true ↔ ∀ x, x ∈ xs → -x ∈ xs → False := by
  rw [mayB_iff]
  constructor
  · intro ha x hx hn
    have := ha.inj hx hn (varOf_neg x).symm
    have h1 := varOf_eq (n := x) (by have := hl x hx; omega)
    omega
  · intro hc
    refine ⟨List.Pairwise.imp_of_mem (fun {a b} ha hb hab => ?_) h, hl⟩
    rcases var_of_blt (hl a ha) (hl b hb) hab with h1 | ⟨_, h1, _⟩
    · exact h1
    · subst h1
      exact (hc b hb ha).elim

/-- Insertion into a strictly ordered list. -/
def withL : List Int → Int → List Int
  | [], x => [x]
  | y :: l, x => if blt y x then y :: withL l x else if y = x then y :: l else x :: y :: l

theorem mem_withL (l : List Int) (x z : Int) : z ∈ withL l x ↔ z = x ∨ z ∈ l := by
  induction l with
  | nil => simp [withL]
  | cons y l ih =>
    unfold withL
    split
    · rw [List.mem_cons, ih, List.mem_cons]
      constructor
      · rintro (h | h | h)
        · exact .inr (.inl h)
        · exact .inl h
        · exact .inr (.inr h)
      · rintro (h | h | h)
        · exact .inr (.inl h)
        · exact .inl h
        · exact .inr (.inr h)
    · split
      · rename_i h; subst h
        constructor
        · exact .inr
        · rintro (h | h)
          · rw [h]; exact List.mem_cons_self
          · exact h
      · rw [List.mem_cons]
theorem withL_sorted {l : List Int} (x : Int) (h : l.Pairwise blt) : (withL l x).Pairwise blt := by
  induction l with
  | nil => simp [withL]
  | cons y l ih =>
    rw [List.pairwise_cons] at h
    unfold withL
    split
    · rename_i hyx
      rw [List.pairwise_cons]
      refine ⟨fun z hz => ?_, ih h.2⟩
      rcases (mem_withL l x z).1 hz with rfl | hz
      · exact hyx
      · exact h.1 z hz
    · split
      · exact List.pairwise_cons.2 h
      · rename_i h1 h2
        have hxy : blt x y := by
          rcases blt_tri x y with h3 | h3 | h3
          · exact h3
          · exact absurd h3.symm h2
          · exact absurd h3 h1
        refine List.pairwise_cons.2 ⟨fun z hz => ?_, List.pairwise_cons.2 h⟩
        rcases List.mem_cons.1 hz with rfl | hz
        · exact hxy
        · exact blt_trans hxy (h.1 z hz)
theorem withL_len (l : List Int) (x : Int) : (withL l x).length ≤ l.length + 1 := by
  induction l with
  | nil => simp [withL]
  | cons y l ih =>
    unfold withL
    split
    · simpa using ih
    · split <;> simp

/-- The set of literals of a list, in order. -/
def setL (base l : List Int) : List Int := l.foldl withL base
theorem mem_setL (l : List Int) : ∀ (base : List Int) (z : Int), z ∈ setL base l ↔ z ∈ base ∨ z ∈ l := by
  induction l with
  | nil => intro base z; simp [setL]
  | cons x l ih =>
    intro base z
    show z ∈ setL (withL base x) l ↔ _
    rw [ih, mem_withL, List.mem_cons]
    constructor
    · rintro ((h | h) | h)
      · exact .inr (.inl h)
      · exact .inl h
      · exact .inr (.inr h)
    · rintro (h | h | h)
      · exact .inl (.inr h)
      · exact .inl (.inl h)
      · exact .inr h
theorem setL_sorted (l : List Int) : ∀ {base : List Int}, base.Pairwise blt → (setL base l).Pairwise blt := by
  induction l with
  | nil => intro base h; exact h
  | cons x l ih => intro base h; exact ih (withL_sorted x h)
theorem setL_len (l : List Int) : ∀ (base : List Int), (setL base l).length ≤ base.length + l.length := by
  induction l with
  | nil => intro base; simp [setL]
  | cons x l ih =>
    intro base
    have h1 := ih (withL base x)
    have h2 := withL_len base x
    show (setL (withL base x) l).length ≤ _
    simp only [List.length_cons]; omega
theorem setL_snoc (l : List Int) (base : List Int) (x : Int) : setL base (l ++ [x]) = withL (setL base l) x := by
  unfold setL; rw [List.foldl_append]; rfl

/-- What the merge comes to: p tells for two literals of one variable whether the merging goes on. -/
def mergeL (p : Int → Int → Bool) : List Int → List Int → Option (List Int)
  | [], b => some b
  | x :: a, [] => some (x :: a)
  | x :: a, y :: b =>
    if varOf x < varOf y then (mergeL p a (y :: b)).map (x :: ·)
    else if varOf y < varOf x then (mergeL p (x :: a) b).map (y :: ·)
    else if p x y = false then none
    else if x = y then (mergeL p a b).map (x :: ·) else mergeL p a b
termination_by a b => a.length + b.length

theorem mergeL_nil (p : Int → Int → Bool) (a : List Int) : mergeL p a [] = some a := by cases a <;> rw [mergeL]

theorem mergeL_len (p : Int → Int → Bool) (a b : List Int) : ∀ {c}, mergeL p a b = some c → c.length ≤ a.length + b.length := by
  induction a, b using mergeL.induct (p := p) with
  | case1 _ => intro c h; rw [mergeL] at h; cases h; simp
  | case2 x a => intro c h; rw [mergeL] at h; cases h; simp
  | case3 x a y b h1 ih =>
    intro c h; rw [mergeL, if_pos h1] at h
    obtain ⟨d, hd, rfl⟩ := Option.map_eq_some_iff.1 h
    have := ih hd
    simp only [List.length_cons] at *; omega
  | case4 x a y b h1 h2 ih =>
    intro c h; rw [mergeL, if_neg h1, if_pos h2] at h
    obtain ⟨d, hd, rfl⟩ := Option.map_eq_some_iff.1 h
    have := ih hd
    simp only [List.length_cons] at *; omega
  | case5 x a y b h1 h2 h3 => intro c h; rw [mergeL, if_neg h1, if_neg h2, if_pos h3] at h; cases h
  | case6 a x b h1 h2 h3 ih =>
    intro c h; rw [mergeL, if_neg h1, if_neg h2, if_neg h3, if_pos rfl] at h
    obtain ⟨d, hd, rfl⟩ := Option.map_eq_some_iff.1 h
    have := ih hd
    simp only [List.length_cons] at *; omega
  | case7 x a y b h1 h2 h3 h4 ih =>
    intro c h; rw [mergeL, if_neg h1, if_neg h2, if_neg h3, if_neg h4] at h
    have := ih h
    simp only [List.length_cons] at *; omega


theorem Asc.tail {x : Int} {a : List Int} (h : Asc (x :: a)) : Asc a := ⟨(List.pairwise_cons.1 h.1).2, fun z hz => h.2 z (by simp [hz])⟩
theorem Asc.head {x : Int} {a : List Int} (h : Asc (x :: a)) : 0 < varOf x ∧ ∀ z ∈ a, varOf x < varOf z := ⟨h.2 x (by simp), (List.pairwise_cons.1 h.1).1⟩
theorem Asc.nil : Asc [] := ⟨List.Pairwise.nil, fun _ h => by cases h⟩
theorem Asc.cons {x : Int} {a : List Int} (h : Asc a) (h0 : 0 < varOf x) (h1 : ∀ z ∈ a, varOf x < varOf z) : Asc (x :: a) :=
  ⟨List.pairwise_cons.2 ⟨h1, h.1⟩, fun z hz => by rcases List.mem_cons.1 hz with rfl | hz; exact h0; exact h.2 z hz⟩

/-- The members of a merge. -/
def Mrg (a b : List Int) (z : Int) : Prop := (z ∈ a ∧ -z ∉ b) ∨ (z ∈ b ∧ -z ∉ a)

theorem ne_var {x z : Int} (h : varOf x < varOf z) : z ≠ x ∧ z ≠ -x ∧ -z ≠ x ∧ -z ≠ -x := by
  refine ⟨fun e => ?_, fun e => ?_, fun e => ?_, fun e => ?_⟩
  · rw [e] at h; omega
  · rw [e, varOf_neg] at h; omega
  · rw [← e, varOf_neg] at h; omega
  · have : z = x := by omega
    rw [this] at h; omega

theorem merge_spec (p : Int → Int → Bool) (hp : ∀ x, p x x = true) (a b : List Int) : Asc a → Asc b →
    (mergeL p a b = none → ∃ x, x ∈ a ∧ -x ∈ b ∧ p x (-x) = false) ∧
    (∀ c, mergeL p a b = some c → (∀ x, x ∈ a → -x ∈ b → p x (-x) = true) ∧ (∀ z, z ∈ c ↔ Mrg a b z) ∧ Asc c) := by
  induction a, b using mergeL.induct (p := p) with
  | case1 b =>
    intro _ hb
    rw [mergeL]
    refine ⟨fun h => by simp at h, fun c h => ?_⟩
    cases h
    exact ⟨fun x hx => by simp at hx, fun z => by simp [Mrg], hb⟩
  | case2 x a =>
    intro ha _
    rw [mergeL]
    refine ⟨fun h => by simp at h, fun c h => ?_⟩
    cases h
    exact ⟨fun x _ hx => by simp at hx, fun z => by simp [Mrg], ha⟩
  | case3 x a y b h1 ih =>
    intro ha hb
    obtain ⟨i1, i2⟩ := ih ha.tail hb
    obtain ⟨a0, a1⟩ := ha.head
    have b1 : ∀ z ∈ y :: b, varOf x < varOf z := fun z hz => by
      rcases List.mem_cons.1 hz with rfl | hz
      · exact h1
      · exact Int.lt_trans h1 (hb.head.2 z hz)
    have b2 : x ∉ y :: b ∧ -x ∉ y :: b := ⟨fun h => (ne_var (b1 _ h)).1 rfl, fun h => (ne_var (b1 _ h)).2.1 rfl⟩
    have b3 : ∀ z ∈ y :: b, -z ≠ x := fun z hz => (ne_var (b1 z hz)).2.2.1
    rw [mergeL, if_pos h1]
    generalize hbb : y :: b = bb at *
    refine ⟨fun h => ?_, fun c h => ?_⟩
    · obtain ⟨z, h2, h3, h4⟩ := i1 (by simpa using h)
      exact ⟨z, by simp [h2], h3, h4⟩
    · obtain ⟨d, hd, rfl⟩ := Option.map_eq_some_iff.1 h
      obtain ⟨j1, j2, j3⟩ := i2 d hd
      have hm : ∀ z, z ∈ x :: d ↔ Mrg (x :: a) bb z := fun z => by
        rw [List.mem_cons, j2]
        unfold Mrg
        grind
      refine ⟨fun z hz hz' => ?_, hm, j3.cons a0 fun z hz => ?_⟩
      · rcases List.mem_cons.1 hz with rfl | hz
        · exact absurd hz' b2.2
        · exact j1 z hz hz'
      · rcases (j2 z).1 hz with h | h
        · exact a1 z h.1
        · exact b1 z h.1
  | case4 x a y b h1 h2 ih =>
    intro ha hb
    obtain ⟨i1, i2⟩ := ih ha hb.tail
    obtain ⟨a0, a1⟩ := hb.head
    have b1 : ∀ z ∈ x :: a, varOf y < varOf z := fun z hz => by
      rcases List.mem_cons.1 hz with rfl | hz
      · exact h2
      · exact Int.lt_trans h2 (ha.head.2 z hz)
    have b2 : y ∉ x :: a ∧ -y ∉ x :: a := ⟨fun h => (ne_var (b1 _ h)).1 rfl, fun h => (ne_var (b1 _ h)).2.1 rfl⟩
    have b3 : ∀ z ∈ x :: a, -z ≠ y := fun z hz => (ne_var (b1 z hz)).2.2.1
    rw [mergeL, if_neg h1, if_pos h2]
    generalize hbb : x :: a = aa at *
    refine ⟨fun h => ?_, fun c h => ?_⟩
    · obtain ⟨z, h2, h3, h4⟩ := i1 (by simpa using h)
      exact ⟨z, h2, by simp [h3], h4⟩
    · obtain ⟨d, hd, rfl⟩ := Option.map_eq_some_iff.1 h
      obtain ⟨j1, j2, j3⟩ := i2 d hd
      have hm : ∀ z, z ∈ y :: d ↔ Mrg aa (y :: b) z := fun z => by
        rw [List.mem_cons, j2]
        unfold Mrg
        grind
      refine ⟨fun z hz hz' => ?_, hm, j3.cons a0 fun z hz => ?_⟩
      · rcases List.mem_cons.1 hz' with h | hz'
        · exact absurd h (b3 z hz)
        · exact j1 z hz hz'
      · rcases (j2 z).1 hz with h | h
        · exact b1 z h.1
        · exact a1 z h.1
  | case5 x a y b h1 h2 h3 =>
    intro ha hb
    rw [mergeL, if_neg h1, if_neg h2, if_pos h3]
    refine ⟨fun _ => ?_, fun c h => by cases h⟩
    have hv : varOf x = varOf y := by omega
    rcases varOf_inj (by have := ha.head.1; omega) hv with e | e
    · rw [e, hp] at h3; cases h3
    · have e' : y = -x := by omega
      exact ⟨x, by simp, by simp [e'], by rw [← e']; exact h3⟩
  | case6 a x b h1 h2 h3 ih =>
    intro ha hb
    obtain ⟨i1, i2⟩ := ih ha.tail hb.tail
    obtain ⟨a0, a1⟩ := ha.head
    obtain ⟨_, b1⟩ := hb.head
    have c1 : ∀ z ∈ a, z ≠ x ∧ z ≠ -x ∧ -z ≠ x ∧ -z ≠ -x := fun z hz => ne_var (a1 z hz)
    have c2 : ∀ z ∈ b, z ≠ x ∧ z ≠ -x ∧ -z ≠ x ∧ -z ≠ -x := fun z hz => ne_var (b1 z hz)
    have c3 : -x ≠ x := fun e => by have := varOf_eq (n := x) (by omega); omega
    rw [mergeL, if_neg h1, if_neg h2, if_neg h3, if_pos rfl]
    refine ⟨fun h => ?_, fun c h => ?_⟩
    · obtain ⟨z, h2, h3, h4⟩ := i1 (by simpa using h)
      exact ⟨z, by simp [h2], by simp [h3], h4⟩
    · obtain ⟨d, hd, rfl⟩ := Option.map_eq_some_iff.1 h
      obtain ⟨j1, j2, j3⟩ := i2 d hd
      refine ⟨fun z hz hz' => ?_, fun z => ?_, j3.cons a0 fun z hz => ?_⟩
      · rcases List.mem_cons.1 hz with rfl | hz
        · rcases List.mem_cons.1 hz' with h | hz'
          · exact absurd h c3
          · exact absurd rfl (c2 _ hz').2.1
        · rcases List.mem_cons.1 hz' with h | hz'
          · exact absurd h (c1 _ hz).2.2.1
          · exact j1 z hz hz'
      · rw [List.mem_cons, j2]
        unfold Mrg
        by_cases hzx : z = x
        · subst hzx
          constructor
          · intro _; left; refine ⟨by simp, fun h => ?_⟩
            rcases List.mem_cons.1 h with h | h
            · exact c3 h
            · exact (c2 _ h).2.1 rfl
          · intro _; left; rfl
        · simp only [List.mem_cons, not_or]
          constructor
          · rintro (h | ⟨h, h'⟩ | ⟨h, h'⟩)
            · exact absurd h hzx
            · exact .inl ⟨.inr h, (c1 _ h).2.2.1, h'⟩
            · exact .inr ⟨.inr h, (c2 _ h).2.2.1, h'⟩
          · rintro (⟨h | h, h', h''⟩ | ⟨h | h, h', h''⟩)
            · exact absurd h hzx
            · exact .inr (.inl ⟨h, h''⟩)
            · exact absurd h hzx
            · exact .inr (.inr ⟨h, h''⟩)
      · rcases (j2 z).1 hz with h | h
        · exact a1 z h.1
        · exact b1 z h.1
  | case7 x a y b h1 h2 h3 h4 ih =>
    intro ha hb
    obtain ⟨i1, i2⟩ := ih ha.tail hb.tail
    obtain ⟨a0, a1⟩ := ha.head
    obtain ⟨_, b1⟩ := hb.head
    have hv : varOf x = varOf y := by omega
    have e' : y = -x := by
      rcases varOf_inj (by omega) hv with e | e
      · exact absurd e h4
      · omega
    subst e'
    rw [varOf_neg] at b1
    have c1 : ∀ z ∈ a, z ≠ x ∧ z ≠ -x ∧ -z ≠ x ∧ -z ≠ -x := fun z hz => ne_var (a1 z hz)
    have c2 : ∀ z ∈ b, z ≠ x ∧ z ≠ -x ∧ -z ≠ x ∧ -z ≠ -x := fun z hz => ne_var (b1 z hz)
    have h3' : p x (-x) = true := by simpa using h3
    rw [mergeL, if_neg h1, if_neg h2, if_neg h3, if_neg h4]
    refine ⟨fun h => ?_, fun c h => ?_⟩
    · obtain ⟨z, h2, h3, h4⟩ := i1 h
      exact ⟨z, by simp [h2], by simp [h3], h4⟩
    · obtain ⟨j1, j2, j3⟩ := i2 c h
      refine ⟨fun z hz hz' => ?_, fun z => ?_, j3⟩
      · rcases List.mem_cons.1 hz with rfl | hz
        · exact h3'
        · rcases List.mem_cons.1 hz' with h | hz'
          · exact absurd h (c1 _ hz).2.2.2
          · exact j1 z hz hz'
      · rw [j2]
        unfold Mrg
        simp only [List.mem_cons, not_or]
        constructor
        · rintro (⟨h, h'⟩ | ⟨h, h'⟩)
          · exact .inl ⟨.inr h, (c1 _ h).2.2.2, h'⟩
          · exact .inr ⟨.inr h, (c2 _ h).2.2.1, h'⟩
        · rintro (⟨h | h, h', h''⟩ | ⟨h | h, h', h''⟩)
          · subst h; exact absurd rfl h'
          · exact .inl ⟨h, h''⟩
          · subst h; exact absurd (by omega) h'
          · exact .inr ⟨h, h''⟩

/-- The joined list of two. -/
def joinV (a b : List Int) : Option (List Int) := mergeL (fun x y => x == y) a b
def JoinV (a b : List Int) : List Int × Int :=
  if mayB a = true ∧ mayB b = true then (match joinV a b with | some c => (c, 0) | none => ([], 10)) else ([], 2)

theorem joinV_set {a b : List Int} (ha : Asc a) (hb : Asc b) : (joinV a b).getD [] = if mayB (setL a b) = true then setL a b else [] := by
  have hs : (setL a b).Pairwise blt := setL_sorted b (asc_blt ha)
  have hl : ∀ x ∈ setL a b, 0 < varOf x := fun x hx => ((mem_setL b a x).1 hx).elim (ha.2 x) (hb.2 x)
  have hcl := may_iff_clash hs hl
  have hsp := merge_spec (fun x y => x == y) (fun x => by simp) a b ha hb
  unfold joinV
  cases hm : mergeL (fun x y => x == y) a b with
  | none =>
    obtain ⟨x, h1, h2, h3⟩ := hsp.1 hm
    rw [if_neg]
    · rfl
    · intro h
      exact hcl.1 h x ((mem_setL b a x).2 (.inl h1)) ((mem_setL b a _).2 (.inr h2))
  | some c =>
    obtain ⟨h1, h2, h3⟩ := hsp.2 c hm
    have hno : ∀ x, x ∈ a → -x ∈ b → False := fun x hx hx' => by
      have := h1 x hx hx'
      have h4 : x = -x := by simpa using this
      have := varOf_eq (n := x) (by have := ha.2 x hx; omega)
      omega
    have hmem : ∀ z, z ∈ c ↔ z ∈ setL a b := fun z => by
      rw [h2, mem_setL]
      unfold Mrg
      constructor
      · rintro (h | h)
        · exact .inl h.1
        · exact .inr h.1
      · rintro (h | h)
        · exact .inl ⟨h, fun h' => hno z h h'⟩
        · exact .inr ⟨h, fun h' => hno (-z) h' (by rw [Int.neg_neg]; exact h)⟩
    have heq : c = setL a b := sorted_ext blt_asym (asc_blt h3) hs hmem
    rw [← heq, if_pos ((mayB_iff c).2 h3)]
    rfl

theorem joinV_none {a b : List Int} (ha : Asc a) (hb : Asc b) : (joinV a b).isSome = mayB (setL a b) := by
  have hs : (setL a b).Pairwise blt := setL_sorted b (asc_blt ha)
  have hl : ∀ x ∈ setL a b, 0 < varOf x := fun x hx => ((mem_setL b a x).1 hx).elim (ha.2 x) (hb.2 x)
  have hcl := may_iff_clash hs hl
  have hsp := merge_spec (fun x y => x == y) (fun x => by simp) a b ha hb
  unfold joinV
  cases hm : mergeL (fun x y => x == y) a b with
  | none =>
    obtain ⟨x, h1, h2, h3⟩ := hsp.1 hm
    cases hh : mayB (setL a b)
    · rfl
    · exact (hcl.1 hh x ((mem_setL b a x).2 (.inl h1)) ((mem_setL b a _).2 (.inr h2))).elim
  | some c =>
    obtain ⟨h1, h2, h3⟩ := hsp.2 c hm
    symm
    refine hcl.2 fun x hx hx' => ?_
    have two : ∀ x, x ∈ a → -x ∈ b → False := fun x hx hx' => by
      have := h1 x hx hx'
      have h4 : x = -x := by simpa using this
      have := varOf_eq (n := x) (by have := ha.2 x hx; omega)
      omega
    rcases (mem_setL b a x).1 hx with h | h <;> rcases (mem_setL b a _).1 hx' with k | k
    · have := ha.inj h k (varOf_neg x).symm
      have := varOf_eq (n := x) (by have := ha.2 x h; omega)
      omega
    · exact two x h k
    · exact two (-x) k (by rw [Int.neg_neg]; exact h)
    · have := hb.inj h k (varOf_neg x).symm
      have := varOf_eq (n := x) (by have := hb.2 x h; omega)
      omega

/-- The reference's way of joining. -/
def joinR (a b : List Int) : List Int × Int :=
  if mayB a = true ∧ mayB b = true then (if mayB (setL (setL [] a) b) = true then (setL (setL [] a) b, 0) else ([], 10)) else ([], 2)
theorem setL_asc {a : List Int} (h : a.Pairwise blt) : setL [] a = a :=
  sorted_ext blt_asym (setL_sorted a List.Pairwise.nil) h fun z => by rw [mem_setL]; simp
theorem joinR_eq (a b : List Int) : joinR a b = JoinV a b := by
  unfold joinR JoinV
  by_cases h : mayB a = true ∧ mayB b = true
  · rw [if_pos h, if_pos h]
    have ha := (mayB_iff a).1 h.1
    have hb := (mayB_iff b).1 h.2
    have h1 := joinV_set ha hb
    have h2 := joinV_none ha hb
    rw [setL_asc (asc_blt ha)]
    cases hj : joinV a b with
    | none => rw [hj] at h2; rw [← h2]; rfl
    | some c =>
      rw [hj] at h1 h2
      rw [← h2] at h1
      rw [← h2]
      have h3 : c = setL a b := h1
      rw [h3]; rfl
  · rw [if_neg h, if_neg h]

end Go.Proofs.YteokoaggkpjdeaaDoor
namespace Go.Proofs.YteokoaggkpjdeaaDoor

def par (i : Nat) : Nat := (i - 1) / 2
theorem par_lt {i : Nat} (h : 0 < i) : par i < i := by unfold par; omega

/-- The list with two places exchanged. -/
def swp (ys : List Int) (i j : Nat) : List Int := (ys.set i (ys.getD j 0)).set j (ys.getD i 0)

theorem swp_length (ys : List Int) (i j : Nat) : (swp ys i j).length = ys.length := by simp [swp]
theorem swp_perm (ys : List Int) {i j : Nat} (hi : i < ys.length) (hj : j < ys.length) : (swp ys i j).Perm ys := by
  have := List.set_set_perm hi hj
  simpa [swp, hi, hj] using this
theorem swp_get (ys : List Int) {i j : Nat} (hi : i < ys.length) (hj : j < ys.length) (k : Nat) : (swp ys i j).getD k 0 = if k = j then ys.getD i 0 else if k = i then ys.getD j 0 else ys.getD k 0 := by
  simp only [swp, List.getD_eq_getElem?_getD, List.getElem?_set, List.length_set]
  by_cases h1 : j = k
  · subst h1; simp [hj]
  · by_cases h2 : i = k
    · subst h2; simp [h1, hi, show ¬ i = j from fun h => h1 h.symm]
    · simp [h1, h2, show ¬ k = j from fun h => h1 h.symm, show ¬ k = i from fun h => h2 h.symm]

/-- Heap on the first n places, but perhaps at place j against its parent. -/
def HeapUp (ys : List Int) (n j : Nat) : Prop :=
  (∀ k, 0 < k → k < n → k ≠ j → ys.getD (par k) 0 ≤ ys.getD k 0) ∧ (∀ k, k < n → 0 < k → par k = j → 0 < j → ys.getD (par j) 0 ≤ ys.getD k 0)
/-- Heap on the first n places. -/
def HeapOn (ys : List Int) (n : Nat) : Prop := ∀ k, 0 < k → k < n → ys.getD (par k) 0 ≤ ys.getD k 0
/-- Heap on the first n places, but perhaps at place i against its children. -/
def HeapDn (ys : List Int) (n i : Nat) : Prop :=
  (∀ k, 0 < k → k < n → par k ≠ i → ys.getD (par k) 0 ≤ ys.getD k 0) ∧ (∀ k, 0 < k → k < n → par k = i → 0 < i → ys.getD (par i) 0 ≤ ys.getD k 0)

theorem HeapUp.done {ys : List Int} {n j : Nat} (h : HeapUp ys n j) (hj : 0 < j → ys.getD (par j) 0 ≤ ys.getD j 0) : HeapOn ys n := fun k h0 hk => by
  by_cases e : k = j
  · subst e; exact hj h0
  · exact h.1 k h0 hk e

theorem HeapUp.step {ys : List Int} {n j : Nat} (h : HeapUp ys n j) (hn : n ≤ ys.length) (hj : j < n) (h0 : 0 < j) (hlt : ys.getD j 0 < ys.getD (par j) 0) : HeapUp (swp ys (par j) j) n (par j) := by
  have hp := par_lt h0
  have hg := swp_get ys (show par j < ys.length by omega) (show j < ys.length by omega)
  refine ⟨fun k k0 kn kne => ?_, fun k kn k0 kp p0 => ?_⟩
  · rw [hg k, hg (par k)]
    have hpk := par_lt k0
    by_cases e1 : k = j
    · subst e1
      rw [if_pos rfl, if_neg (by omega), if_pos rfl]
      omega
    · rw [if_neg e1, if_neg kne]
      by_cases e2 : par k = j
      · rw [if_pos e2]
        exact h.2 k kn k0 e2 h0
      · rw [if_neg e2]
        by_cases e3 : par k = par j
        · rw [if_pos e3]
          have := h.1 k k0 kn e1
          rw [e3] at this
          omega
        · rw [if_neg e3]
          exact h.1 k k0 kn e1
  · have hpp := par_lt p0
    rw [hg k, hg (par (par j))]
    rw [if_neg (by omega), if_neg (by omega)]
    have h3 := h.1 (par j) p0 (by omega) (by omega)
    by_cases e1 : k = j
    · rw [if_pos e1]; exact h3
    · rw [if_neg e1]
      have hpk := par_lt k0
      rw [if_neg (by omega)]
      have := h.1 k k0 kn e1
      rw [kp] at this
      omega

theorem HeapDn.done {ys : List Int} {n i : Nat} (h : HeapDn ys n i) (hc : ∀ k, 0 < k → k < n → par k = i → ys.getD i 0 ≤ ys.getD k 0) : HeapOn ys n := fun k k0 kn => by
  by_cases e : par k = i
  · rw [e]; exact hc k k0 kn e
  · exact h.1 k k0 kn e

/-- j: the child of i that is the least. -/
theorem HeapDn.step {ys : List Int} {n i j : Nat} (h : HeapDn ys n i) (hn : n ≤ ys.length) (hj : j < n) (h0 : 0 < j) (hp : par j = i) (hlt : ys.getD j 0 < ys.getD i 0)
    (hmin : ∀ k, 0 < k → k < n → par k = i → ys.getD j 0 ≤ ys.getD k 0) : HeapDn (swp ys i j) n j := by
  have hij := par_lt h0
  have hg := swp_get ys (show i < ys.length by omega) (show j < ys.length by omega)
  refine ⟨fun k k0 kn kne => ?_, fun k k0 kn kp _ => ?_⟩
  · have hpk := par_lt k0
    rw [hg k, hg (par k), if_neg kne]
    by_cases e1 : par k = i
    · rw [if_pos e1]
      by_cases e2 : k = j
      · rw [if_pos e2]; omega
      · rw [if_neg e2, if_neg (by omega)]
        exact hmin k k0 kn e1
    · rw [if_neg e1]
      have h1 := h.1 k k0 kn e1
      by_cases e2 : k = j
      · exact absurd (e2 ▸ hp) e1
      · rw [if_neg e2]
        by_cases e3 : k = i
        · rw [if_pos e3]
          subst e3
          exact h.2 j h0 hj hp k0
        · rw [if_neg e3]; exact h1
  · have hpk := par_lt k0
    rw [hg k, hg (par j), if_neg (by omega), if_pos hp, if_neg (by omega), if_neg (by omega)]
    have := h.1 k k0 kn (by omega)
    rw [kp] at this
    exact this

theorem HeapOn.least {ys : List Int} {n : Nat} (h : HeapOn ys n) : ∀ k, k < n → ys.getD 0 0 ≤ ys.getD k 0 := by
  intro k
  induction k using Nat.strongRecOn with
  | _ k ih =>
    intro hk
    by_cases h0 : k = 0
    · subst h0; exact Int.le_refl _
    · have hp := par_lt (Nat.pos_of_ne_zero h0)
      have h1 := ih (par k) hp (by omega)
      have h2 := h k (by omega) hk
      omega

theorem HeapOn.snoc {xs : List Int} (h : HeapOn xs xs.length) (n : Int) : HeapUp (xs ++ [n]) (xs ++ [n]).length xs.length := by
  refine ⟨fun k k0 kn kne => ?_, fun k kn k0 kp _ => ?_⟩
  · have hp := par_lt k0
    rw [List.length_append, List.length_cons, List.length_nil] at kn
    have e1 : ∀ j, j < xs.length → (xs ++ [n]).getD j 0 = xs.getD j 0 := fun j hj => by
      rw [List.getD_eq_getElem?_getD, List.getElem?_append_left hj, ← List.getD_eq_getElem?_getD]
    rw [e1 k (by omega), e1 (par k) (by omega)]
    exact h k k0 (by omega)
  · have hp := par_lt k0
    rw [List.length_append, List.length_cons, List.length_nil] at kn
    omega

theorem HeapOn.swap0 {xs : List Int} {n : Nat} (h : HeapOn xs xs.length) (hn : xs.length = n + 1) : HeapDn (swp xs 0 n) n 0 := by
  have hg := swp_get xs (show 0 < xs.length by omega) (show n < xs.length by omega)
  refine ⟨fun k k0 kn kp => ?_, fun k _ _ _ h0 => absurd h0 (Nat.lt_irrefl 0)⟩
  have hp := par_lt k0
  rw [hg k, hg (par k), if_neg (by omega), if_neg (by omega), if_neg (by omega), if_neg (by omega)]
  exact h k k0 (by omega)

theorem take_getD {ys : List Int} {n k : Nat} (h : k < n) : (ys.take n).getD k 0 = ys.getD k 0 := by
  rw [List.getD_eq_getElem?_getD, List.getElem?_take, if_pos h, ← List.getD_eq_getElem?_getD]

theorem HeapOn.take {ys : List Int} {n : Nat} (h : HeapOn ys n) (hn : n ≤ ys.length) : HeapOn (ys.take n) (ys.take n).length := fun k k0 kn => by
  rw [List.length_take] at kn
  have hp := par_lt k0
  rw [take_getD (by omega), take_getD (by omega)]
  exact h k k0 (by omega)

theorem take_last {ys : List Int} {n : Nat} (h : ys.length = n + 1) : ys = ys.take n ++ [ys.getD n 0] := by
  have h1 : n < ys.length := by omega
  conv => lhs; rw [← List.take_length (l := ys), h, List.take_succ_eq_append_getElem h1]
  simp [h1]

end Go.Proofs.YteokoaggkpjdeaaDoor
