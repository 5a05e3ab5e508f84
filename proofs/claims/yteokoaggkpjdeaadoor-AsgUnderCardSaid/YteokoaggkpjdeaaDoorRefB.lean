/- What the reference's Value, Clause, Cnf, Under, as printed, come to. -/
import Derived.Test.YteokoaggkpjdeaaDoorLarge
import Derived.IntWalk
namespace Go.Proofs.YteokoaggkpjdeaaDoor.PAsgUnder
open Go.RowKit Go.Proofs.YteokoaggkpjdeaaDoorW.PrintWords

theorem wrap64_id {x : Int} (h0 : -9223372036854775808 ≤ x) (h1 : x ≤ 9223372036854775807) : wrap64 x = x := by unfold wrap64; omega

theorem size_f (x : Int) (h : I64 x) : skolemref01_size.f x = some ((x.natAbs : Nat) : Int) := by
  obtain ⟨h0, h1⟩ := h
  unfold skolemref01_size.f
  by_cases hx : x < 0
  · rw [if_pos hx, wrap64_id (x := x + 1) (by omega) (by omega), wrap64_id (by omega) (by omega), IntWalk.u64_in (-(x + 1)) ⟨by omega, by omega⟩, IntWalk.u64_in _ ⟨by omega, by omega⟩]
    congr 1; omega
  · rw [if_neg hx, IntWalk.u64_in _ ⟨by omega, by omega⟩]
    congr 1; omega
theorem literal_f (x : Int) (h : I64 x) : skolemref01_literal.f x = some (decide (varOf x ≠ 0)) := by
  unfold skolemref01_literal.f
  by_cases hx : x = 0
  · subst hx; rfl
  · rw [if_neg hx, size_f x h]
    show some _ = _
    congr 1
    rw [decide_eq_decide]
    unfold varOf
    split <;> omega
theorem Var_f (x : Int) (h : I64 x) : skolemref01_Var.f x = some (varOf x) := by
  unfold skolemref01_Var.f
  rw [literal_f x h]
  show (if decide (varOf x ≠ 0) = true then _ else _) = _
  by_cases hv : varOf x = 0
  · rw [if_neg (by simpa using hv), hv]
  · rw [if_pos (by simpa using hv), size_f x h]
    have := varOf_eq hv
    have := varOf_range x
    show some (wrap64 _) = _
    rw [wrap64_id (by omega) (by omega)]
    congr 1; omega

theorem May_l0 (xs : List Int) (h64 : All64 xs) (hb : xs.length ≤ 9223372036854775807) : ∀ n i, i + n = xs.length → Evn (fun k => skolemref01_May.l0 k xs (i : Int)) (mayFrom (if i = 0 then 0 else varOf (xs.getD (i - 1) 0)) (xs.drop i)) := by
  intro n
  induction n with
  | zero =>
    intro i hi
    refine Evn.succ (g' := fun _ => some true) (fun k => ?_) ((Evn.ret _).to ?_)
    · rw [skolemref01_May.l0, if_neg (by omega)]
    · rw [List.drop_eq_nil_of_le (by omega)]; rfl
  | succ n ih =>
    intro i hi
    have hil : i < xs.length := by omega
    have hm := h64 _ (List.getElem_mem hil)
    have hvr := varOf_range xs[i]
    refine Evn.succ (fun k => by rw [skolemref01_May.l0]) ?_
    refine Evn.pos (by omega) (Evn.pos (by omega) ?_)
    rw [rd_nat xs i hil, wrap64_nat (by omega), List.drop_eq_getElem_cons hil, mayFrom]
    refine Evn.bind (Evn.of_eq fun _ => literal_f _ hm) ?_
    have hnext := ih (i + 1) (by omega)
    rw [if_neg (by omega), show i + 1 - 1 = i by omega, show xs.getD i 0 = xs[i] by simp [hil]] at hnext
    by_cases hv : varOf xs[i] = 0
    · refine Evn.neg (by simpa using hv) ((Evn.ret _).to ?_)
      rw [if_pos]
      split
      · omega
      · have := varOf_range (xs.getD (i - 1) 0); omega
    · refine Evn.pos (by simpa using hv) ?_
      by_cases h0 : i = 0
      · subst h0
        refine Evn.neg (by omega) (hnext.to ?_)
        rw [if_neg (show ¬ varOf xs[0] ≤ (if (0 : Nat) = 0 then (0 : Int) else varOf (xs.getD (0 - 1) 0)) by rw [if_pos rfl]; omega)]
      · have hi1 : i - 1 < xs.length := by omega
        have e1 : wrap64 ((i : Int) - 1) = ((i - 1 : Nat) : Int) := by rw [wrap64_id (by omega) (by omega)]; omega
        have hm1 := h64 _ (List.getElem_mem hi1)
        rw [e1, rd_nat xs (i - 1) hi1, if_neg h0, show xs.getD (i - 1) 0 = xs[i - 1] by simp [hi1]]
        refine Evn.pos (by omega) (Evn.pos (by omega) (Evn.pos (by omega) ?_))
        refine Evn.bind (Evn.of_eq fun _ => Var_f _ hm1) (Evn.bind (Evn.of_eq fun _ => Var_f _ hm) ?_)
        by_cases hle : varOf xs[i] ≤ varOf xs[i - 1]
        · exact Evn.pos (by omega) ((Evn.ret _).to (by rw [if_pos hle]))
        · exact Evn.neg (by omega) (hnext.to (by rw [if_neg hle]))
theorem May_f (xs : List Int) (h64 : All64 xs) (hb : xs.length ≤ 9223372036854775807) : Evn (fun k => skolemref01_May.f k xs) (mayB xs) := by
  unfold skolemref01_May.f
  exact (May_l0 xs h64 hb xs.length 0 (by omega)).to (by rw [if_pos rfl]; rfl)

theorem Has_l0 (xs : List Int) (y : Int) (hb : xs.length ≤ 9223372036854775807) : ∀ n i, i + n = xs.length → Evn (fun k => skolemref01_Has.l0 k xs y (i : Int)) (decide (y ∈ xs.drop i)) := by
  intro n
  induction n with
  | zero =>
    intro i hi
    refine Evn.succ (g' := fun _ => some false) (fun k => ?_) ((Evn.ret _).to ?_)
    · rw [skolemref01_Has.l0, if_neg (by omega)]
    · rw [List.drop_eq_nil_of_le (by omega)]; simp
  | succ n ih =>
    intro i hi
    have hil : i < xs.length := by omega
    refine Evn.succ (fun k => by rw [skolemref01_Has.l0]) ?_
    refine Evn.pos (by omega) (Evn.pos (by omega) ?_)
    rw [rd_nat xs i hil, wrap64_nat (by omega), List.drop_eq_getElem_cons hil]
    by_cases h : xs[i] = y
    · exact Evn.pos h ((Evn.ret _).to (by symm; rw [decide_eq_true_eq]; exact List.mem_cons.2 (.inl h.symm)))
    · exact Evn.neg h ((ih (i + 1) (by omega)).to (by rw [decide_eq_decide, List.mem_cons]; exact ⟨.inr, fun h' => h'.elim (fun e => absurd e.symm h) id⟩))
theorem Has_f (xs : List Int) (y : Int) (hb : xs.length ≤ 9223372036854775807) : Evn (fun k => skolemref01_Has.f k xs y) (decide (y ∈ xs)) := by
  unfold skolemref01_Has.f
  exact (Has_l0 xs y hb xs.length 0 (by omega)).to (by simp)

theorem Value_f (xs : List Int) (x : Int) (h64 : All64 xs) (hx : I64 x) (hb : xs.length ≤ 9223372036854775807) : Evn (fun k => skolemref02_Value.f k xs x) (ValueV xs x) := by
  unfold skolemref02_Value.f ValueV
  refine Evn.bind (May_f xs h64 hb) ?_
  by_cases hm : mayB xs = true
  · rw [if_pos hm]
    refine Evn.pos hm (Evn.bind (Evn.of_eq fun _ => Var_f x hx) ?_)
    refine Evn.succ (fun k => by rw [skolemref02_Value.j0]) ?_
    unfold lookI
    by_cases hv : varOf x = 0
    · rw [if_pos hv]
      exact Evn.pos (by simpa using hv) (Evn.ret _)
    · rw [if_neg hv]
      have h1 := varOf_eq hv
      have h2 := varOf_range x
      refine Evn.neg (by simpa using hv) (Evn.bind (Has_f xs x hb) ?_)
      by_cases h3 : x ∈ xs
      · rw [if_pos h3]; exact Evn.pos (by simpa using h3) (Evn.ret _)
      · rw [if_neg h3, wrap64_id (by omega) (by omega)]
        refine Evn.neg (by simpa using h3) (Evn.bind (Has_f xs (-x) hb) ?_)
        by_cases h4 : -x ∈ xs
        · rw [if_pos h4]; exact Evn.pos (by simpa using h4) (Evn.ret _)
        · rw [if_neg h4]; exact Evn.neg (by simpa using h4) (Evn.ret _)
  · rw [if_neg hm]
    refine Evn.neg hm (Evn.succ (fun k => by rw [skolemref02_Value.j0]) (Evn.pos rfl (Evn.ret _)))

/-- A search from a place on. -/
def goG (g : Nat → Int) (a b : Int) : Nat → Nat → Bool → Int
  | 0, _, o => if o = true then 0 else b
  | r + 1, i, o => if g i = a then a else goG g a b r (i + 1) (o || g i == 0)
theorem goG_hit (g : Nat → Int) (a b : Int) : ∀ r i o, (∃ j, i ≤ j ∧ j < i + r ∧ g j = a) → goG g a b r i o = a
  | 0, i, o, ⟨j, h1, h2, _⟩ => by omega
  | r + 1, i, o, ⟨j, h1, h2, h3⟩ => by
    rw [goG]
    by_cases h : g i = a
    · rw [if_pos h]
    · rw [if_neg h]
      refine goG_hit g a b r (i + 1) _ ⟨j, ?_, by omega, h3⟩
      rcases Nat.lt_or_eq_of_le h1 with h4 | h4
      · exact h4
      · subst h4; exact absurd h3 h
theorem goG_open (g : Nat → Int) (a b : Int) : ∀ r i o, (∀ j, i ≤ j → j < i + r → g j ≠ a) → (o = true ∨ ∃ j, i ≤ j ∧ j < i + r ∧ g j = 0) → goG g a b r i o = 0
  | 0, i, o, _, h => by
    rcases h with h | ⟨j, h1, h2, _⟩
    · rw [goG, if_pos h]
    · omega
  | r + 1, i, o, hn, h => by
    rw [goG, if_neg (hn i (Nat.le_refl _) (by omega))]
    refine goG_open g a b r (i + 1) _ (fun j h1 h2 => hn j (by omega) (by omega)) ?_
    rcases h with h | ⟨j, h1, h2, h3⟩
    · left; rw [h]; rfl
    · rcases Nat.lt_or_eq_of_le h1 with h4 | h4
      · exact .inr ⟨j, h4, by omega, h3⟩
      · subst h4; left; simp [h3]
theorem goG_rest (g : Nat → Int) (a b : Int) : ∀ r i, (∀ j, i ≤ j → j < i + r → g j ≠ a ∧ g j ≠ 0) → goG g a b r i false = b
  | 0, i, _ => rfl
  | r + 1, i, hn => by
    have h := hn i (Nat.le_refl _) (by omega)
    rw [goG, if_neg h.1, show (false || g i == 0) = false by simpa using h.2]
    exact goG_rest g a b r (i + 1) fun j h1 h2 => hn j (by omega) (by omega)
theorem goG_zero (g : Nat → Int) (a b : Int) (n : Nat) : goG g a b n 0 false = searchG g n a b := by
  unfold searchG
  split
  · rename_i h
    obtain ⟨j, h1, h2⟩ := h
    exact goG_hit g a b n 0 false ⟨j, by omega, by omega, h2⟩
  · rename_i h
    split
    · rename_i h2
      obtain ⟨j, h3, h4⟩ := h2
      exact goG_open g a b n 0 false (fun j _ h1 h2 => h ⟨j, by omega, h2⟩) (.inr ⟨j, by omega, by omega, h4⟩)
    · rename_i h2
      exact goG_rest g a b n 0 fun j _ h1 => ⟨fun e => h ⟨j, by omega, e⟩, fun e => h2 ⟨j, by omega, e⟩⟩

theorem Clause_l0 (xs cs : List Int) (h64 : All64 xs) (k64 : All64 cs) (hb : xs.length ≤ 9223372036854775807) (kb : cs.length ≤ 9223372036854775807) (hm : mayB xs = true) :
    ∀ n i o, i + n = cs.length → Evn (fun k => skolemref02_Clause.l0 k xs cs o (i : Int)) (goG (fun k => lookI xs (cs.getD k 0)) 1 2 n i o) := by
  intro n
  induction n with
  | zero =>
    intro i o hi
    refine Evn.succ (fun k => by rw [skolemref02_Clause.l0, if_neg (by omega)]) ?_
    cases o
    · exact Evn.neg (by decide) (Evn.ret _)
    · exact Evn.pos rfl (Evn.ret _)
  | succ n ih =>
    intro i o hi
    have hil : i < cs.length := by omega
    refine Evn.succ (fun k => by rw [skolemref02_Clause.l0]) ?_
    refine Evn.pos (by omega) (Evn.pos (by omega) ?_)
    have hg : cs.getD i 0 = cs[i] := by simp [hil]
    have hva : ValueV xs cs[i] = lookI xs cs[i] := if_pos hm
    rw [rd_nat cs i hil, wrap64_nat (by omega)]
    refine Evn.bind (Value_f xs cs[i] h64 (k64 _ (List.getElem_mem hil)) hb) ?_
    rw [hva, goG, hg]
    by_cases h : lookI xs cs[i] = 1
    · rw [if_pos h]
      exact Evn.pos h (Evn.ret _)
    · rw [if_neg h]
      refine Evn.neg h ?_
      cases o
      · exact Evn.neg (by decide) (ih (i + 1) _ (by omega))
      · exact Evn.pos rfl (ih (i + 1) _ (by omega))
theorem Clause_f (xs cs : List Int) (h64 : All64 xs) (k64 : All64 cs) (hb : xs.length ≤ 9223372036854775807) (kb : cs.length ≤ 9223372036854775807) : Evn (fun k => skolemref02_Clause.f k xs cs) (ClauseV xs cs) := by
  unfold skolemref02_Clause.f ClauseV
  refine Evn.bind (May_f xs h64 hb) ?_
  by_cases hm : mayB xs = true
  · refine Evn.pos hm (Evn.bind (May_f cs k64 kb) (Evn.succ (fun k => by rw [skolemref02_Clause.j0]) ?_))
    by_cases km : mayB cs = true
    · rw [if_pos ⟨hm, km⟩, km]
      exact Evn.neg (by decide) ((Clause_l0 xs cs h64 k64 hb kb hm cs.length 0 false (by omega)).to (goG_zero ..))
    · have km' : mayB cs = false := by simpa using km
      rw [if_neg (fun h => km h.2), km']
      exact Evn.pos rfl (Evn.ret _)
  · rw [if_neg (fun h => hm h.1)]
    exact Evn.neg hm (Evn.succ (fun k => by rw [skolemref02_Clause.j0]) (Evn.pos rfl (Evn.ret _)))

end Go.Proofs.YteokoaggkpjdeaaDoor.PAsgUnder
