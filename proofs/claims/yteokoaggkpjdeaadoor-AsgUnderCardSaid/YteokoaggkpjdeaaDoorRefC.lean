/- What the reference's MayCnf, rest, Under, Cnf, as printed, come to. -/
import Derived.Test.YteokoaggkpjdeaaDoorRefB
namespace Go.Proofs.YteokoaggkpjdeaaDoor.PAsgUnder
open Go.RowKit Go.Proofs.YteokoaggkpjdeaaDoorW.PrintWords

def mcR (f : List (List Int)) : Nat → Nat → Bool
  | 0, _ => true
  | r + 1, i => decide (i < 20000) && decide (lens f (i + 1) ≤ 200000) && mayB (f.getD i []) && mcR f r (i + 1)
theorem mcR_iff (f : List (List Int)) : ∀ r i, mcR f r i = true ↔ ∀ j, i ≤ j → j < i + r → j < 20000 ∧ lens f (j + 1) ≤ 200000 ∧ mayB (f.getD j []) = true
  | 0, i => by simp [mcR]; intro j h1 h2; omega
  | r + 1, i => by
    rw [mcR, Bool.and_eq_true, Bool.and_eq_true, Bool.and_eq_true, decide_eq_true_eq, decide_eq_true_eq, mcR_iff f r (i + 1)]
    constructor
    · rintro ⟨⟨⟨h1, h2⟩, h3⟩, h4⟩ j h5 h6
      rcases Nat.lt_or_eq_of_le h5 with h7 | h7
      · exact h4 j h7 (by omega)
      · subst h7; exact ⟨h1, h2, h3⟩
    · intro h
      have h0 := h i (Nat.le_refl _) (by omega)
      exact ⟨⟨⟨h0.1, h0.2.1⟩, h0.2.2⟩, fun j h1 h2 => h j (by omega) (by omega)⟩
theorem mcR_full (f : List (List Int)) : mcR f f.length 0 = mayCnfB f := by
  rw [Bool.eq_iff_iff, mcR_iff]
  unfold mayCnfB
  rw [Bool.and_eq_true, decide_eq_true_eq, List.all_eq_true]
  constructor
  · intro h
    refine ⟨?_, fun k hk => ?_⟩
    · rcases Nat.eq_zero_or_pos f.length with h0 | h0
      · omega
      · have := (h (f.length - 1) (by omega) (by omega)).1; omega
    · have hk' : k < f.length := by simpa using hk
      have := h k (by omega) (by omega)
      rw [Bool.and_eq_true, decide_eq_true_eq]
      exact ⟨this.2.1, this.2.2⟩
  · rintro ⟨h1, h2⟩ j _ h4
    have := h2 j (by simpa using h4)
    rw [Bool.and_eq_true, decide_eq_true_eq] at this
    exact ⟨by omega, this.1, this.2⟩

theorem MayCnf_l0 (f : List (List Int)) (h64 : All64L f) (hb : f.length ≤ 9223372036854775807) (ht : total f ≤ 9223372036854775807) :
    ∀ n i, i + n = f.length → Evn (fun k => skolemref01_MayCnf.l0 k f (lens f i : Int) (i : Int)) (mcR f n i) := by
  intro n
  induction n with
  | zero =>
    intro i hi
    exact Evn.succ (g' := fun _ => some true) (fun k => by rw [skolemref01_MayCnf.l0, if_neg (by omega)]) (Evn.ret _)
  | succ n ih =>
    intro i hi
    have hil : i < f.length := by omega
    have hls := lens_succ f i hil
    have hle := lens_le f (i + 1)
    have h1 : rd_L1 f (i : Int) = f[i] := by simp [rd_L1, hil]
    have hfl : f[i].length ≤ 9223372036854775807 := by omega
    refine Evn.succ (fun k => by rw [skolemref01_MayCnf.l0]) ?_
    refine Evn.pos (by omega) (Evn.pos (by omega) ?_)
    have hnext := ih (i + 1) (by omega)
    rw [h1, wrap64_nat (by omega), wrap64_id (by omega) (by omega), show ((lens f i : Nat) : Int) + (f[i].length : Int) = ((lens f (i + 1) : Nat) : Int) by omega, mcR, getD_of f i hil]
    by_cases c1 : i < 20000
    · rw [decide_eq_true c1, Bool.true_and]
      refine Evn.neg (by omega) ?_
      by_cases c2 : lens f (i + 1) ≤ 200000
      · rw [decide_eq_true c2, Bool.true_and]
        refine Evn.neg (by omega) (Evn.bind (May_f f[i] (h64 _ (List.getElem_mem hil)) hfl) ?_)
        by_cases c3 : mayB f[i] = true
        · rw [c3, Bool.true_and]; exact Evn.pos rfl hnext
        · exact Evn.neg c3 ((Evn.ret _).to (by rw [show mayB f[i] = false by simpa using c3]; rfl))
      · exact Evn.pos (by omega) ((Evn.ret _).to (by rw [decide_eq_false c2]; rfl))
    · exact Evn.pos (by omega) ((Evn.ret _).to (by rw [decide_eq_false c1]; rfl))
theorem MayCnf_f (f : List (List Int)) (h64 : All64L f) (hb : f.length ≤ 9223372036854775807) (ht : total f ≤ 9223372036854775807) : Evn (fun k => skolemref01_MayCnf.f k f) (mayCnfB f) := by
  unfold skolemref01_MayCnf.f
  exact (MayCnf_l0 f h64 hb ht f.length 0 (by omega)).to (mcR_full f)

theorem rest_l0 (xs cs : List Int) (h64 : All64 xs) (k64 : All64 cs) (hb : xs.length ≤ 9223372036854775807) (kb : cs.length ≤ 100000000) :
    ∀ n i acc, i + n = cs.length → acc.length ≤ i → Evn (fun k => skolemref02_rest.l0 k xs cs acc (i : Int)) (acc ++ (cs.drop i).filter fun x => ValueV xs x == 0) := by
  intro n
  induction n with
  | zero =>
    intro i acc hi _
    exact Evn.succ (g' := fun _ => some acc) (fun k => by rw [skolemref02_rest.l0, if_neg (by omega)]) ((Evn.ret _).to (by rw [List.drop_eq_nil_of_le (by omega)]; simp))
  | succ n ih =>
    intro i acc hi ha
    have hil : i < cs.length := by omega
    refine Evn.succ (fun k => by rw [skolemref02_rest.l0]) ?_
    refine Evn.pos (by omega) (Evn.pos (by omega) ?_)
    rw [rd_nat cs i hil, wrap64_nat (by omega), List.drop_eq_getElem_cons hil, List.filter_cons]
    refine Evn.bind (Value_f xs cs[i] h64 (k64 _ (List.getElem_mem hil)) hb) ?_
    by_cases h : ValueV xs cs[i] = 0
    · rw [if_pos (by rw [h]; rfl)]
      refine Evn.pos h (Evn.pos (by omega) ((ih (i + 1) _ (by omega) (by simp; omega)).to ?_))
      rw [List.append_assoc]; rfl
    · rw [if_neg (by simpa using h)]
      exact Evn.neg h (ih (i + 1) acc (by omega) (by omega))
theorem rest_f (xs cs : List Int) (h64 : All64 xs) (k64 : All64 cs) (hb : xs.length ≤ 9223372036854775807) (kb : cs.length ≤ 100000000) : Evn (fun k => skolemref02_rest.f k xs cs) (cs.filter fun x => ValueV xs x == 0) := by
  unfold skolemref02_rest.f
  exact (rest_l0 xs cs h64 k64 hb kb cs.length 0 [] (by omega) (by simp)).to (by simp)

theorem underL_snoc (xs : List Int) (f : List (List Int)) (i : Nat) (hi : i < f.length) : underL xs (f.drop i) = (if clauseV xs f[i] = 1 then [] else [f[i].filter (fun x => !(lookI xs x == 2))]) ++ underL xs (f.drop (i + 1)) := by
  unfold underL
  rw [List.drop_eq_getElem_cons hi, List.filter_cons]
  by_cases hc : clauseV xs f[i] = 1
  · rw [if_pos hc, if_neg (by simp [hc])]; rfl
  · rw [if_neg hc, if_pos (by simp [hc]), List.map_cons]; rfl

theorem lookI_cases (xs : List Int) (x : Int) : lookI xs x = 0 ∨ lookI xs x = 1 ∨ lookI xs x = 2 := by
  unfold lookI
  by_cases h1 : varOf x = 0
  · rw [if_pos h1]; exact .inl rfl
  · rw [if_neg h1]
    by_cases h2 : x ∈ xs
    · rw [if_pos h2]; exact .inr (.inl rfl)
    · rw [if_neg h2]
      by_cases h3 : -x ∈ xs
      · rw [if_pos h3]; exact .inr (.inr rfl)
      · rw [if_neg h3]; exact .inl rfl
theorem rest_eq (xs c : List Int) (hm : mayB xs = true) (hc : clauseV xs c ≠ 1) : (c.filter fun x => ValueV xs x == 0) = c.filter fun x => !(lookI xs x == 2) := by
  apply List.filter_congr
  intro x hx
  rw [show ValueV xs x = lookI xs x from if_pos hm]
  have h1 : lookI xs x ≠ 1 := fun e => hc (by
    obtain ⟨j, hj, rfl⟩ := List.mem_iff_getElem.1 hx
    exact searchG_found hj (by simpa [hj] using e))
  rcases lookI_cases xs x with h | h | h
  · rw [h]; rfl
  · exact absurd h h1
  · rw [h]; rfl

theorem Under_l0 (xs : List Int) (f : List (List Int)) (h64 : All64 xs) (k64 : All64L f) (hb : xs.length ≤ 9223372036854775807) (hm : mayB xs = true) (hf : mayCnfB f = true) :
    ∀ n i acc, i + n = f.length → acc.length ≤ i → Evn (fun k => skolemref02_Under.l0 k xs f acc (i : Int)) (acc ++ underL xs (f.drop i)) := by
  intro n
  have hfl := mayCnfB_len hf
  induction n with
  | zero =>
    intro i acc hi _
    exact Evn.succ (g' := fun _ => some acc) (fun k => by rw [skolemref02_Under.l0, if_neg (by omega)]) ((Evn.ret _).to (by rw [List.drop_eq_nil_of_le (by omega)]; simp [underL]))
  | succ n ih =>
    intro i acc hi ha
    have hil : i < f.length := by omega
    have h1 : rd_L1 f (i : Int) = f[i] := by simp [rd_L1, hil]
    have hmi := mayCnfB_get hf i hil
    have hml := may_len hmi
    refine Evn.succ (fun k => by rw [skolemref02_Under.l0]) ?_
    refine Evn.pos (by omega) (Evn.pos (by omega) ?_)
    rw [h1, wrap64_nat (by omega), underL_snoc xs f i hil]
    refine Evn.bind (Clause_f xs f[i] h64 (k64 _ (List.getElem_mem hil)) hb (by omega)) ?_
    rw [show ClauseV xs f[i] = clauseV xs f[i] from if_pos ⟨hm, hmi⟩]
    by_cases h : clauseV xs f[i] = 1
    · rw [if_pos h, List.nil_append]
      exact Evn.pos h (ih (i + 1) acc (by omega) (by omega))
    · rw [if_neg h]
      refine Evn.neg h (Evn.bind (rest_f xs f[i] h64 (k64 _ (List.getElem_mem hil)) hb (by omega)) (Evn.pos (by omega) ?_))
      rw [rest_eq xs f[i] hm h, ← List.append_assoc]
      exact ih (i + 1) _ (by omega) (by simp; omega)
theorem Under_f (xs : List Int) (f : List (List Int)) (h64 : All64 xs) (k64 : All64L f) (hb : xs.length ≤ 9223372036854775807) (kb : f.length ≤ 9223372036854775807) (ht : total f ≤ 9223372036854775807) :
    Evn (fun k => skolemref02_Under.f k xs f) (UnderV xs f) := by
  unfold skolemref02_Under.f UnderV
  refine Evn.bind (May_f xs h64 hb) ?_
  by_cases hm : mayB xs = true
  · refine Evn.pos hm (Evn.bind (MayCnf_f f k64 kb ht) (Evn.succ (fun k => by rw [skolemref02_Under.j0]) ?_))
    by_cases km : mayCnfB f = true
    · rw [if_pos ⟨hm, km⟩, km]
      exact Evn.neg (by decide) ((Under_l0 xs f h64 k64 hb hm km f.length 0 [] (by omega) (by simp)).to (by simp))
    · have km' : mayCnfB f = false := by simpa using km
      rw [if_neg (fun h => km h.2), km']
      exact Evn.pos rfl (Evn.ret _)
  · rw [if_neg (fun h => hm h.1)]
    exact Evn.neg hm (Evn.succ (fun k => by rw [skolemref02_Under.j0]) (Evn.pos rfl (Evn.ret _)))

theorem Cnf_l0 (xs : List Int) (f : List (List Int)) (h64 : All64 xs) (k64 : All64L f) (hb : xs.length ≤ 9223372036854775807) (hm : mayB xs = true) (hf : mayCnfB f = true) :
    ∀ n i o, i + n = f.length → Evn (fun k => skolemref02_Cnf.l0 k xs f o (i : Int)) (goG (fun k => clauseV xs (f.getD k [])) 2 1 n i o) := by
  intro n
  have hfl := mayCnfB_len hf
  induction n with
  | zero =>
    intro i o hi
    refine Evn.succ (fun k => by rw [skolemref02_Cnf.l0, if_neg (by omega)]) ?_
    cases o
    · exact Evn.neg (by decide) (Evn.ret _)
    · exact Evn.pos rfl (Evn.ret _)
  | succ n ih =>
    intro i o hi
    have hil : i < f.length := by omega
    have h1 : rd_L1 f (i : Int) = f[i] := by simp [rd_L1, hil]
    have hmi := mayCnfB_get hf i hil
    have hml := may_len hmi
    refine Evn.succ (fun k => by rw [skolemref02_Cnf.l0]) ?_
    refine Evn.pos (by omega) (Evn.pos (by omega) ?_)
    rw [h1, wrap64_nat (by omega), goG, getD_of f i hil]
    refine Evn.bind (Clause_f xs f[i] h64 (k64 _ (List.getElem_mem hil)) hb (by omega)) ?_
    rw [show ClauseV xs f[i] = clauseV xs f[i] from if_pos ⟨hm, hmi⟩]
    by_cases h : clauseV xs f[i] = 2
    · rw [if_pos h]
      exact Evn.pos h (Evn.ret _)
    · rw [if_neg h]
      refine Evn.neg h ?_
      cases o
      · exact Evn.neg (by decide) (ih (i + 1) _ (by omega))
      · exact Evn.pos rfl (ih (i + 1) _ (by omega))
theorem Cnf_f (xs : List Int) (f : List (List Int)) (h64 : All64 xs) (k64 : All64L f) (hb : xs.length ≤ 9223372036854775807) (kb : f.length ≤ 9223372036854775807) (ht : total f ≤ 9223372036854775807) :
    Evn (fun k => skolemref02_Cnf.f k xs f) (CnfV xs f) := by
  unfold skolemref02_Cnf.f CnfV
  refine Evn.bind (May_f xs h64 hb) ?_
  by_cases hm : mayB xs = true
  · refine Evn.pos hm (Evn.bind (MayCnf_f f k64 kb ht) (Evn.succ (fun k => by rw [skolemref02_Cnf.j0]) ?_))
    by_cases km : mayCnfB f = true
    · rw [if_pos ⟨hm, km⟩, km]
      exact Evn.neg (by decide) ((Cnf_l0 xs f h64 k64 hb hm km f.length 0 false (by omega)).to (goG_zero ..))
    · have km' : mayCnfB f = false := by simpa using km
      rw [if_neg (fun h => km h.2), km']
      exact Evn.pos rfl (Evn.ret _)
  · rw [if_neg (fun h => hm h.1)]
    exact Evn.neg hm (Evn.succ (fun k => by rw [skolemref02_Cnf.j0]) (Evn.pos rfl (Evn.ret _)))

end Go.Proofs.YteokoaggkpjdeaaDoor.PAsgUnder
namespace Go.Proofs.YteokoaggkpjdeaaDoor
open Go.RowKit Go.Proofs.YteokoaggkpjdeaaDoorW.PrintWords

/-- A row of rows of the reference's own reads. -/
theorem kd_RLL {w : World} {base : Nat} {ok : Nat → Prop} {v : Value} {f : List (List Int)} (h : Kd.S (Kd.slice 3 (Kd.int .i64)) 22 w base ok v f) : RLL w v f := by
  obtain ⟨A, c, rfl, h1, -, h2, h3⟩ := Kd.S_reads h
  rcases Nat.eq_zero_or_pos f.length with h0 | h0
  · have : f = [] := List.length_eq_zero_iff.1 h0
    subst this
    exact ⟨A, c, [], rfl, Nat.zero_le _, by simp, fun j hj => by simp at hj, rfl, fun j hj => by simp at hj⟩
  · obtain ⟨ad, rfl, hh⟩ := h3 h0
    have hex : ∀ j (hj : j < f.length), ∃ u, w.cell? (ad.add j) = some u ∧ RI w u f[j] := fun j hj => by
      obtain ⟨cs, h4, ⟨A', c', h5, h6, h7⟩, h8⟩ := hh j f[j] (List.getElem?_eq_getElem hj)
      have := h8 0 (.slice A' f[j].length c') (by rw [h5]; rfl)
      have h9 : w.cell? (ad.add (j * 1 + 0)) = some (.slice A' f[j].length c') := this
      rw [Nat.mul_one, Nat.add_zero] at h9
      exact ⟨_, h9, kd_RI h7 h6⟩
    let vs := List.ofFn fun j : Fin f.length => Classical.choose (hex j.1 j.2)
    have hvl : vs.length = f.length := by simp [vs]
    have hvg : ∀ j (hj : j < vs.length) (hj' : j < f.length), w.cell? (ad.add j) = some vs[j] ∧ RI w vs[j] f[j] := fun j hj hj' => by
      have := Classical.choose_spec (hex j hj')
      simp only [vs, List.getElem_ofFn]
      exact this
    refine ⟨some ad, c, vs, by rw [hvl], by omega, by omega, fun j hj => ⟨ad, rfl, (hvg j hj (by omega)).1⟩, hvl, fun j hj hj' => (hvg j hj hj').2⟩

theorem refUnder_any (xs : List Int) (f : List (List Int)) (v u : Value) (w : World) (h64 : All64 xs) (k64 : All64L f) (hr : RI w v xs) (kr : RLL w u f) (ht : total f ≤ 9223372036854775807) :
    Calls Tryd.prog 16 #[v, u] w fun e w' => ∃ v', e = .returned v' ∧ RLL w' v' (UnderV xs f) ∧ Ext w w' := by
  obtain ⟨K, hK⟩ := PAsgUnder.Under_f xs f h64 k64 hr.max kr.max.1 ht
  obtain ⟨A, c, rfl, h1, h2⟩ := hr.kd
  obtain ⟨B, d, rfl, k1, k2⟩ := kr.kd
  refine (PAsgUnder.skolemref02_Under.calls K A c xs B d f _ w h2 h1 k2 k1 (hK K (Nat.le_refl _))).mono ?_
  rintro e w' ⟨v', rfl, hs, hE⟩
  exact ⟨v', rfl, kd_RLL hs, hE⟩
theorem refCnf_any (xs : List Int) (f : List (List Int)) (v u : Value) (w : World) (h64 : All64 xs) (k64 : All64L f) (hr : RI w v xs) (kr : RLL w u f) (ht : total f ≤ 9223372036854775807) :
    Calls Tryd.prog 18 #[v, u] w fun e w' => e = .returned (.int .u8 (CnfV xs f)) ∧ Ext w w' := by
  obtain ⟨K, hK⟩ := PAsgUnder.Cnf_f xs f h64 k64 hr.max kr.max.1 ht
  obtain ⟨A, c, rfl, h1, h2⟩ := hr.kd
  obtain ⟨B, d, rfl, k1, k2⟩ := kr.kd
  refine (PAsgUnder.skolemref02_Cnf.calls K A c xs B d f _ w h2 h1 k2 k1 (hK K (Nat.le_refl _))).mono ?_
  rintro e w' ⟨rfl, hd⟩
  exact ⟨rfl, drawn_ext hd⟩

end Go.Proofs.YteokoaggkpjdeaaDoor
