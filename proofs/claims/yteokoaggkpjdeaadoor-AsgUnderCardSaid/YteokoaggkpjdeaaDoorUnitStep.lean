/- The unit's state between its changes; one more literal. -/
import Derived.Test.YteokoaggkpjdeaaDoorUnitInit
namespace Go.Proofs.YteokoaggkpjdeaaDoor
open Go.RowKit

theorem countP_le' {α : Type} {l : List α} {p q : α → Bool} (h : ∀ a ∈ l, q a = true → p a = true) : l.countP q ≤ l.countP p := by
  induction l with
  | nil => exact Nat.le_refl _
  | cons b l ih =>
    have := ih fun a ha => h a (by simp [ha])
    rw [List.countP_cons, List.countP_cons]
    have hb := h b (by simp)
    cases hq : q b
    · simp; omega
    · simp [hb hq]; omega
theorem countP_lt {α : Type} {l : List α} {p q : α → Bool} (h : ∀ a ∈ l, q a = true → p a = true) (a : α) (ha : a ∈ l) (hp : p a = true) (hq : q a = false) : l.countP q < l.countP p := by
  induction l with
  | nil => cases ha
  | cons b l ih =>
    have hle := countP_le' (l := l) (p := p) (q := q) fun a ha => h a (by simp [ha])
    have hb := h b (by simp)
    rw [List.countP_cons, List.countP_cons]
    rcases List.mem_cons.1 ha with rfl | ha
    · simp [hp, hq]; omega
    · have := ih (fun a ha => h a (by simp [ha])) ha
      cases hq' : q b
      · simp; omega
      · simp [hb hq']; omega

/-- The clauses that are not held. -/
def nh (f : List (List Int)) (asg : List Int) : Nat := f.countP fun c => !c.any asg.contains
theorem nh_le (f : List (List Int)) (asg : List Int) : nh f asg ≤ f.length := List.countP_le_length
theorem nh_lt {f : List (List Int)} {asg : List Int} {i : Nat} (hi : i < f.length) {x : Int} (hx : x ∈ f[i]) (hh : f[i].any asg.contains = false) : nh f (asg ++ [x]) < nh f asg := by
  refine countP_lt (fun c _ hc => ?_) f[i] (List.getElem_mem hi) (by rw [hh]; rfl) ?_
  · rw [Bool.not_eq_true'] at hc ⊢
    rw [List.any_eq_false] at hc ⊢
    intro y hy
    have := hc y hy
    simp at this ⊢
    exact this.1
  · rw [Bool.not_eq_false']
    exact List.any_eq_true.2 ⟨x, hx, by simp⟩

/-- What the run has come to. -/
structure US (f : List (List Int)) (xs : List Int) (st : List (Int × Int)) (asg : List Int) : Prop where
  eq : ∃ fuel, nh f asg < fuel ∧ unitsL f (f.length + 1) xs = (st ++ (unitsL f fuel asg).1, (unitsL f fuel asg).2)
  len : st.length + nh f asg ≤ f.length
  var : ∀ x ∈ asg, varOf x ≠ 0

theorem US.init {f : List (List Int)} {xs : List Int} (h : mayB xs = true) : US f xs [] xs :=
  ⟨⟨f.length + 1, by have := nh_le f xs; omega, by simp⟩, by have := nh_le f xs; simpa using this, fun x hx => by have := ((mayB_iff _).1 h).2 x hx; omega⟩
theorem US.step {f : List (List Int)} {xs asg : List Int} {st : List (Int × Int)} {i : Nat} {x : Int} {r : List Int} (h : US f xs st asg) (hd : decF f asg = some i) (hi : i < f.length) (ho : openL asg f[i] = x :: r) (hh : f[i].any asg.contains = false) (hv : varOf x ≠ 0) :
    US f xs (st ++ [(x, (i : Int))]) (asg ++ [x]) := by
  obtain ⟨⟨fuel, hf, he⟩, hl, hvs⟩ := h
  have hx : x ∈ f[i] := by
    have : x ∈ openL asg f[i] := by rw [ho]; simp
    exact (List.mem_filter.1 this).1
  have hlt := nh_lt hi hx hh
  cases fuel with
  | zero => omega
  | succ k =>
    refine ⟨⟨k, by omega, ?_⟩, by simp; omega, fun y hy => ?_⟩
    · have : unitsL f (k + 1) asg = ((x, (i : Int)) :: (unitsL f k (asg ++ [x])).1, (unitsL f k (asg ++ [x])).2) := by
        rw [unitsL, hd]
        simp only [getD_of f i hi, ho]
      rw [he, this]
      simp
    · rcases List.mem_append.1 hy with hy | hy
      · exact hvs y hy
      · rw [List.mem_singleton.1 hy]; exact hv
theorem US.none {f : List (List Int)} {xs asg : List Int} {st : List (Int × Int)} (h : US f xs st asg) (hd : decF f asg = none) : unitsL f (f.length + 1) xs = (st, -1) := by
  obtain ⟨⟨fuel, hf, he⟩, -, -⟩ := h
  cases fuel with
  | zero => omega
  | succ k => rw [he, unitsL, hd]; simp
theorem US.conf {f : List (List Int)} {xs asg : List Int} {st : List (Int × Int)} {i : Nat} (h : US f xs st asg) (hd : decF f asg = some i) (hi : i < f.length) (ho : openL asg f[i] = []) : unitsL f (f.length + 1) xs = (st, (i : Int)) := by
  obtain ⟨⟨fuel, hf, he⟩, -, -⟩ := h
  cases fuel with
  | zero => omega
  | succ k => rw [he, unitsL, hd]; simp only [getD_of f i hi, ho, List.append_nil]

/-- The first place of a clause that is open. -/
theorem idx_open {c asg : List Int} {x : Int} {r : List Int} {p : Nat → Bool} (hp : ∀ j (hj : j < c.length), p j = !asg.contains (-c[j])) (h : openL asg c = x :: r) {n : Int} (hx : IdxOf p c.length n) :
    ∃ k, ∃ hk : k < c.length, n = (k : Int) ∧ c[k] = x := by
  unfold openL at h
  obtain ⟨l1, l2, rfl, h1, h2, -⟩ := List.filter_eq_cons_iff.1 h
  have hl : l1.length < (l1 ++ x :: l2).length := by simp
  have hpx : p l1.length = true := by rw [hp _ hl]; simpa using h2
  rcases hx with ⟨k, hk, hpk, hb, rfl⟩ | ⟨hno, -⟩
  · have : k = l1.length := by
      rcases Nat.lt_trichotomy k l1.length with hlt | he | hgt
      · have h3 := h1 (l1[k]) (List.getElem_mem hlt)
        rw [hp k hk] at hpk
        rw [List.getElem_append_left hlt] at hpk
        exact absurd hpk h3
      · exact he
      · have := hb _ hgt
        rw [hpx] at this; cases this
    subst this
    exact ⟨_, hl, rfl, by simp⟩
  · have := hno _ hl
    rw [hpx] at this; cases this

theorem UI.isNone {f : List (List Int)} {asg : List Int} {exc : Option Nat} {s : Unit1} (h : UI f asg exc s) {y : Int} (hy : y ∉ asg) (hv : varOf y ≠ 0) : (s.val (varOf y)).isNone = !asg.contains (-y) := by
  cases e : s.val (varOf y) with
  | none =>
    have : ¬ -y ∈ asg := fun hm => by
      have := h.val1 _ hm
      rw [varOf_neg, e] at this; cases this
    simp [this]
  | some u =>
    obtain ⟨x, hx, hxv, -⟩ := h.val2 _ _ e
    rcases varOf_inj (by rw [hxv]; exact hv) hxv with e1 | e1
    · exact absurd (e1 ▸ hx) hy
    · have : -y ∈ asg := e1 ▸ hx
      simp [this]
theorem UI.valV {f : List (List Int)} {asg : List Int} {exc : Option Nat} {s : Unit1} (h : UI f asg exc s) (hv : ∀ x ∈ asg, varOf x ≠ 0) (y : Int) : s.val (varOf y) = none ∨ ∃ z, z ≠ 0 ∧ s.val (varOf y) = some (.int .i64 z) := by
  cases e : s.val (varOf y) with
  | none => exact .inl rfl
  | some u =>
    obtain ⟨x, hx, -, rfl⟩ := h.val2 _ _ e
    exact .inr ⟨x, fun h0 => hv x hx (by rw [h0]; rfl), rfl⟩

/-- Between the unit's changes: its pointer's cell, what was there before. -/
structure UK (w0 : World) (U pu : Nat) (lab : Nat → Option Lab) (wr : World) : Prop where
  ext : Ext w0 wr
  cell : wr.cell? ⟨pu, 0, none⟩ = some (.pointer (some ⟨U, 0, none⟩))
  pul : lab pu = none
  pus : pu < wr.heap.size
  low : ∀ k c, lab k = some c → w0.heap.size ≤ k

theorem UK.own {w0 w w' : World} {U pu : Nat} {lab lab' : Nat → Option Lab} (h : UK w0 U pu lab w) (k : Own lab lab' w w') : UK w0 U pu lab' w' := by
  have hn : ¬ ∃ c, lab pu = some c := fun ⟨c, hc⟩ => by rw [h.pul] at hc; cases hc
  refine ⟨k.chg.toExt h.ext fun i ⟨c, hc⟩ => h.low i c hc, ?_, ?_, Nat.lt_of_lt_of_le h.pus k.chg.size, fun i c hi => ?_⟩
  · rw [World.cell?, k.chg.block pu h.pus hn]; exact h.cell
  · cases e : lab' pu with
    | none => rfl
    | some c => rcases k.grow pu c e with h1 | h1
                · exact absurd ⟨c, h1⟩ hn
                · have := h.pus; omega
  · rcases k.grow i c hi with h1 | h1
    · exact h.low i c h1
    · exact Nat.le_trans h.ext.size h1
theorem UK.mk' {w0 w w' : World} {U pu : Nat} {lab : Nat → Option Lab} (h : UK w0 U pu lab w) (k : Ext w w') : UK w0 U pu lab w' := h.own (.same (k.chg _))

def stepsV (st : List (Int × Int)) : List Value := st.flatMap fun p => [.int .i64 p.1, .int .i64 p.2]
theorem stepsV_snoc (st : List (Int × Int)) (x i : Int) : stepsV (st ++ [(x, i)]) = stepsV st ++ [.int .i64 x, .int .i64 i] := by unfold stepsV; rw [List.flatMap_append]; rfl

/-- The unit, and the steps so far. -/
structure UG (w0 : World) (U pu mv ma : Nat) (fv : Value) (f : List (List Int)) (asg : List Int) (exc : Option Nat) (t : Nat) (l : Value) (st : List (Int × Int))
    (lab : Nat → Option Lab) (lv hv wv : Value) (atv : Int → Option Value) (s : Unit1) (wr : World) : Prop where
  us : USt wr w0.heap.size lab U mv ma fv lv hv wv atv s
  ui : UI f asg exc s
  todo : todo s ≤ t
  uk : UK w0 U pu lab wr
  row : wr.ownsRow w0.heap.size 55 2 l st.length (stepsV st)
  rowl : ∀ k, l.ownBlock = some k → lab k = none
  lpu : l.ownBlock ≠ some pu

def UP2 (w0 : World) (U pu mv ma : Nat) (fv : Value) (f : List (List Int)) (asg : List Int) (exc : Option Nat) (t : Nat) (l : Value) (st : List (Int × Int)) (wr : World) : Prop :=
  ∃ lab lv hv wv atv s, UG w0 U pu mv ma fv f asg exc t l st lab lv hv wv atv s wr

theorem rowl_own {w w' : World} {B : Nat} {l : Value} {n : Nat} {xs : List Value} {e : TypeId} {size : Nat} {lab lab' : Nat → Option Lab} (hr : w.ownsRow B e size l n xs) (hl : ∀ k, l.ownBlock = some k → lab k = none) (k : Own lab lab' w w') :
    w'.ownsRow B e size l n xs ∧ ∀ k, l.ownBlock = some k → lab' k = none := by
  refine ⟨k.chg.own hr fun g hg ⟨c, hc⟩ => (by rw [hl g hg] at hc; cases hc), fun g hg => ?_⟩
  cases e : lab' g with
  | none => rfl
  | some c =>
    rcases k.grow g c e with h1 | h1
    · rw [hl g hg] at h1; cases h1
    · have := (own_typed hr hg).2.1; omega

theorem UI.left_bd {f : List (List Int)} {asg : List Int} {exc : Option Nat} {s : Unit1} (h : UI f asg exc s) (hf : mayCnfB f = true) : ∀ x ∈ s.left, 0 ≤ x ∧ x ≤ 65536 := by
  intro x hx
  obtain ⟨i, hi, rfl⟩ := List.mem_iff_getElem.1 hx
  have hi' : i < f.length := by rw [← h.leftL]; exact hi
  have := h.left i hi'
  simp [hi] at this
  rw [this]
  have h1 := may_len (mayCnfB_get hf i hi')
  have h2 : (openL asg f[i]).length ≤ f[i].length := List.length_filter_le _ _
  omega

section
variable {w0 wr : World} {U pu mv ma t : Nat} {fv l lv hv wv : Value} {f : List (List Int)} {asg : List Int} {exc : Option Nat} {st : List (Int × Int)} {lab : Nat → Option Lab} {atv : Int → Option Value} {s : Unit1}

/-- One more literal. -/
theorem UG.set_any (h : UG w0 U pu mv ma fv f asg exc t l st lab lv hv wv atv s wr) (hf : mayCnfB f = true) (lit : Int) (hv0 : varOf lit ≠ 0) (hn1 : lit ∉ asg) (hn2 : -lit ∉ asg)
    (hlits : ∀ x ∈ asg, varOf x ≠ 0) (hex : ∀ i, exc = some i → lit ∈ f.getD i []) (ht : t ≤ 1000000) :
    Calls Tryd.prog 69 #[.pointer (some ⟨U, 0, none⟩), .int .i64 lit] wr fun e w' => e = .returned (.tuple #[]) ∧ UP2 w0 U pu mv ma fv f (asg ++ [lit]) none t l st w' := by
  have hvr := varOf_eq hv0
  have hvr2 := varOf_range lit
  have hwl : s.wait.length ≤ 1000000 := by have := h.todo; unfold Go.Proofs.YteokoaggkpjdeaaDoor.todo at this; omega
  have hfl := mayCnfB_len hf
  refine (Go.Proofs.YteokoaggkpjdeaaDoor.set_any w0.heap.size lab U mv ma fv lv hv wv atv s lit ⟨by omega, by omega⟩ (by omega) wr h.us ?_ ?_ ?_ ?_ hwl).mono ?_
  · intro x i hi
    rw [h.ui.at_, mem_atF] at hi
    rw [h.ui.heldL]; exact ⟨hi.1, hi.2.1⟩
  · rw [h.ui.leftL, h.ui.heldL]
  · intro x hx
    have := h.ui.left_bd hf x hx
    omega
  · intro x
    rw [h.ui.at_]
    have := atF_len f x
    omega
  · rintro e w' ⟨lab', wv', wait, rfl, hperm, hus, hown⟩
    have hr := rowl_own h.row h.rowl hown
    exact ⟨rfl, lab', _, _, wv', _, _, hus, h.ui.set hf hv0 hn1 hn2 hlits hex hperm, Nat.le_trans (setU_todo h.ui lit wait hperm) h.todo, h.uk.own hown, hr.1, hr.2, h.lpu⟩

theorem USt.keepAll {w w' : World} {B : Nat} {S : Nat → Prop} (h : USt w B lab U mv ma fv lv hv wv atv s) (k : Chg S w w') (hS : ∀ i, S i → lab i = none) : USt w' B lab U mv ma fv lv hv wv atv s := by
  have hn : ∀ {i : Nat} {c : Lab}, lab i = some c → ¬ S i := fun hc hs => by rw [hS _ hs] at hc; cases hc
  exact ⟨k.blk h.blk (hn h.lU), h.mval.keep k (hn h.lmv), h.mat.keep k (hn h.lma), k.own h.rleft fun i hi => hn (h.lleft i hi), k.own h.rheld fun i hi => hn (h.lheld i hi), k.own h.rwait fun i hi => hn (h.lwait i hi),
    fun x => k.own (h.rat x) fun i hi => hn (h.lat x i hi), h.heap, h.lU, h.lmv, h.lma, h.lleft, h.lheld, h.lwait, h.lat, h.keepLow k⟩

theorem UG.ext {w' : World} (h : UG w0 U pu mv ma fv f asg exc t l st lab lv hv wv atv s wr) (k : Ext wr w') : UG w0 U pu mv ma fv f asg exc t l st lab lv hv wv atv s w' :=
  ⟨h.us.ext k, h.ui, h.todo, h.uk.mk' k, own_ext h.row k, h.rowl, h.lpu⟩

/-- A step more. -/
theorem UG.snoc {w' : World} {g cap : Nat} (x i : Int) (h : UG w0 U pu mv ma fv f asg exc t l st lab lv hv wv atv s wr)
    (hown : w'.ownsRow w0.heap.size 55 2 (.slice (some ⟨g, 0, none⟩) (st.length + 1) cap) (st.length + 1) (stepsV st ++ [.int .i64 x, .int .i64 i]))
    (hgr : Chg (fun k => some k = l.ownBlock) wr w') (hat : l.ownBlock = some g ∨ wr.heap.size ≤ g) :
    UG w0 U pu mv ma fv f asg exc t (.slice (some ⟨g, 0, none⟩) (st.length + 1) cap) (st ++ [(x, i)]) lab lv hv wv atv s w' := by
  have hg0 : lab g = none ∧ g ≠ pu := by
    rcases hat with ha | ha
    · exact ⟨h.rowl g ha, fun e => h.lpu (e ▸ ha)⟩
    · refine ⟨?_, fun e => by have := h.uk.pus; omega⟩
      cases e : lab g with
      | none => rfl
      | some c => have := (h.us.low g c e).2; omega
  refine ⟨h.us.keepAll hgr fun k hk => h.rowl k hk.symm, h.ui, h.todo, ⟨hgr.toExt h.uk.ext fun k hk => (own_typed h.row hk.symm).1, ?_, h.uk.pul, Nat.lt_of_lt_of_le h.uk.pus hgr.size, h.uk.low⟩, ?_, ?_, ?_⟩
  · rw [World.cell?_of_block (hgr.block pu h.uk.pus fun e => h.lpu e.symm)]; exact h.uk.cell
  · rw [stepsV_snoc, List.length_append]; exact hown
  · intro k hk; simp [Value.ownBlock] at hk; rw [← hk]; exact hg0.1
  · intro hk; simp [Value.ownBlock] at hk; exact hg0.2 hk

/-- The heap as heap.Pop wants it. -/
theorem UG.hp (h : UG w0 U pu mv ma fv f asg exc t l st lab lv hv wv atv s wr) (h0 : 0 < s.wait.length) : ∃ g c, wv = .slice (some ⟨g, 0, none⟩) s.wait.length c ∧ HpS wr U 5 81 [fv, .map (some mv), lv, hv, .map (some ma), .slice (some ⟨g, 0, none⟩) s.wait.length c] g c s.wait := by
  obtain ⟨g, c, rfl, -, -⟩ := h.us.rwait.form h0
  have hr := own_rowAt (xs := s.wait) rfl rfl h.us.rwait
  exact ⟨g, c, rfl, h.us.blk, rfl, hr.1, by decide⟩

theorem UG.pop {w' : World} {g c : Nat} {e : Ending} (h : UG w0 U pu mv ma fv f asg none t l st lab lv hv (.slice (some ⟨g, 0, none⟩) s.wait.length c) atv s wr)
    (hp : PostPop wr U 5 81 [fv, .map (some mv), lv, hv, .map (some ma), .slice (some ⟨g, 0, none⟩) s.wait.length c] g c s.wait e w') :
    ∃ i : Nat, e = .returned (.iface 3 (.int .i64 i)) ∧ ∃ ys wv' t', t = t' + 1 ∧ Popped f asg s i ys ∧ UG w0 U pu mv ma fv f asg (some i) t' l st lab lv hv wv' atv { s with wait := ys } w' := by
  obtain ⟨wv', x, ys, rfl, hperm, hmin, hus, hown⟩ := h.us.pop hp
  obtain ⟨i, rfl, hpo⟩ := h.ui.popped hperm hmin
  have hr := rowl_own h.row h.rowl hown
  have ht := h.todo
  have hl := hperm.length_eq
  unfold Go.Proofs.YteokoaggkpjdeaaDoor.todo at ht
  rw [List.length_cons] at hl
  exact ⟨i, rfl, ys, wv', t - 1, by omega, hpo, hus, hpo.rest, by unfold Go.Proofs.YteokoaggkpjdeaaDoor.todo; dsimp only; omega, h.uk.own hown, hr.1, hr.2, h.lpu⟩

/-- What the walk reads. -/
theorem UG.held {ys : List Int} {i : Nat} (h : UG w0 U pu mv ma fv f asg exc t l st lab lv hv wv atv { s with wait := ys } wr) (hi : i < f.length) (hl : s.held.length = f.length) :
    ∃ g c, hv = .slice (some ⟨g, 0, none⟩) f.length c ∧ wr.cell? ⟨g, i, none⟩ = some (.bool (s.held.getD i false)) := by
  obtain ⟨g, c, rfl, -, hc, -, -⟩ := own_at Value.bool h.us.rheld i (by show i < s.held.length; omega)
  exact ⟨g, c, by rw [← hl], by rw [hc]; simp [show i < s.held.length by omega]⟩
theorem UG.left {ys : List Int} {i : Nat} (h : UG w0 U pu mv ma fv f asg exc t l st lab lv hv wv atv { s with wait := ys } wr) (hi : i < f.length) (hl : s.left.length = f.length) :
    ∃ g c, lv = .slice (some ⟨g, 0, none⟩) f.length c ∧ wr.cell? ⟨g, i, none⟩ = some (.int .i64 (s.left.getD i 0)) := by
  obtain ⟨g, c, rfl, -, hc, -, -⟩ := own_at (Value.int .i64) h.us.rleft i (by show i < s.left.length; omega)
  exact ⟨g, c, by rw [← hl], by rw [hc]; simp [show i < s.left.length by omega]⟩
end

end Go.Proofs.YteokoaggkpjdeaaDoor
