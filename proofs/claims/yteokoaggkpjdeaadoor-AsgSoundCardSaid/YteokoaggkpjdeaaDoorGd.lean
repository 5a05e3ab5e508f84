/- Plain: what a unit's state says of the clauses under the literals that are set. Plain: the unit's state while it is made; a measure that is the least. The unit's state between its changes; one more literal. The walk of asg.Units. asg.many, Point, Number. -/
import Derived.Test.YteokoaggkpjdeaaDoorGc
import Derived.Deep.CutRange
namespace Go.Proofs.YteokoaggkpjdeaaDoor
open Go.RowKit

/-- The literals of a clause that are not false. -/
def openL (asg c : List Int) : List Int := c.filter fun x => !asg.contains (-x)
/-- The clauses in which a literal stands. -/
def atF (f : List (List Int)) (x : Int) : List Int := ((List.range f.length).filter fun i => (f.getD i []).contains x).map Int.ofNat

theorem mem_atF {f : List (List Int)} {x i : Int} : i ∈ atF f x ↔ 0 ≤ i ∧ i < f.length ∧ x ∈ f.getD i.toNat [] := by
  unfold atF
  rw [List.mem_map]
  constructor
  · rintro ⟨n, hn, rfl⟩
    rw [List.mem_filter, List.mem_range] at hn
    exact ⟨by simp, by simpa using hn.1, by simpa using hn.2⟩
  · rintro ⟨h0, h1, h2⟩
    refine ⟨i.toNat, ?_, by simp; omega⟩
    rw [List.mem_filter, List.mem_range]
    exact ⟨by omega, by simpa using h2⟩

theorem atF_nodup (f : List (List Int)) (x : Int) : (atF f x).Nodup := by
  unfold atF
  refine List.Pairwise.map _ (fun a b h e => ?_) (List.Pairwise.filter _ List.nodup_range)
  have e' : (a : Int) = (b : Int) := e
  exact h (by omega)

theorem atF_len (f : List (List Int)) (x : Int) : (atF f x).length ≤ f.length := by
  unfold atF
  rw [List.length_map]
  exact Nat.le_trans (List.length_filter_le _ _) (by simp)

theorem heldS_get (is : List Int) : ∀ (h : List Bool), (∀ i ∈ is, 0 ≤ i ∧ i < h.length) → ∀ j, (heldS h is).getD j false = (h.getD j false || is.contains (j : Int)) := by
  induction is with
  | nil => intro h _ j; simp [heldS]
  | cons i is ih =>
    intro h hb j
    have hb' : ∀ k ∈ is, 0 ≤ k ∧ k < (h.set i.toNat true).length := fun k hk => by
      have := hb k (by simp [hk]); simpa using this
    have h1 := ih (h.set i.toNat true) hb' j
    show (heldS (h.set i.toNat true) is).getD j false = _
    rw [h1]
    obtain ⟨h0, h2⟩ := hb i (by simp)
    by_cases e : (j : Int) = i
    · have e' : i.toNat = j := by omega
      simp [e', show j < h.length by omega, e]
    · have e' : ¬ i.toNat = j := by omega
      simp [List.getElem?_set_ne e', e]

theorem leftS_get' (is : List Int) : ∀ (s : List Int × List Int), is.Nodup → (∀ i ∈ is, 0 ≤ i ∧ i < s.1.length) →
    (∀ j : Nat, (is.foldl leftStep s).1.getD j 0 = s.1.getD j 0 - (if (j : Int) ∈ is then 1 else 0)) ∧ (is.foldl leftStep s).2 = s.2 ++ is.filter fun i => s.1.getD i.toNat 0 - 1 == 1 := by
  induction is with
  | nil => intro s _ _; simp
  | cons i is ih =>
    intro s hn hb
    rw [List.nodup_cons] at hn
    obtain ⟨h0, h2⟩ := hb i (by simp)
    have hi : i.toNat < s.1.length := by omega
    obtain ⟨g1, g2⟩ := ih (leftStep s i) hn.2 (fun k hk => by have := hb k (by simp [hk]); simpa [leftStep] using this)
    rw [List.foldl_cons]
    refine ⟨fun j => ?_, ?_⟩
    · rw [g1 j]
      unfold leftStep
      dsimp only
      by_cases e : (j : Int) = i
      · have e' : i.toNat = j := by omega
        have hj : j < s.1.length := by omega
        have hni : ¬ (j : Int) ∈ is := by rw [e]; exact hn.1
        rw [if_neg hni, if_pos (by rw [e]; simp)]
        simp [e', hj]
      · have e' : ¬ i.toNat = j := by omega
        have hc : ((j : Int) ∈ i :: is) ↔ (j : Int) ∈ is := by simp [e]
        simp only [hc]
        simp [List.getElem?_set_ne e']
    · rw [g2]
      have hf : is.filter (fun k => (leftStep s i).1.getD k.toNat 0 - 1 == 1) = is.filter fun k => s.1.getD k.toNat 0 - 1 == 1 := by
        apply List.filter_congr
        intro k hk
        obtain ⟨k0, k1⟩ := hb k (by simp [hk])
        have hki : k ≠ i := fun e => hn.1 (e ▸ hk)
        have : ¬ i.toNat = k.toNat := by omega
        simp [leftStep, List.getElem?_set_ne this]
      rw [hf, List.filter_cons]
      unfold leftStep
      dsimp only
      by_cases hc : s.1.getD i.toNat 0 - 1 = 1
      · have hb1 : (s.1.getD i.toNat 0 - 1 == 1) = true := by rw [hc]; rfl
        rw [if_pos hc, if_pos hb1, List.append_assoc]; rfl
      · have hb1 : ¬ (s.1.getD i.toNat 0 - 1 == 1) = true := by rw [beq_iff_eq]; exact hc
        rw [if_neg hc, if_neg hb1]

theorem leftS_get (l is : List Int) (hn : is.Nodup) (hb : ∀ i ∈ is, 0 ≤ i ∧ i < l.length) :
    (∀ j : Nat, (leftS l is).1.getD j 0 = l.getD j 0 - (if (j : Int) ∈ is then 1 else 0)) ∧ (leftS l is).2 = is.filter fun i => l.getD i.toNat 0 - 1 == 1 := by
  have := leftS_get' is (l, []) hn hb
  simpa [leftS] using this

/-- The unit knows of the clauses f under the literals asg; what waits may lack exc. -/
structure UI (f : List (List Int)) (asg : List Int) (exc : Option Nat) (s : Unit1) : Prop where
  val1 : ∀ x ∈ asg, s.val (varOf x) = some (.int .i64 x)
  val2 : ∀ v u, s.val v = some u → ∃ x ∈ asg, varOf x = v ∧ u = .int .i64 x
  leftL : s.left.length = f.length
  left : ∀ i (h : i < f.length), s.left.getD i 0 = (openL asg f[i]).length
  heldL : s.held.length = f.length
  held : ∀ i (h : i < f.length), s.held.getD i false = f[i].any asg.contains
  at_ : ∀ x, s.at_ x = atF f x
  wait1 : ∀ i ∈ s.wait, 0 ≤ i ∧ i < f.length ∧ s.left.getD i.toNat 0 ≤ 1
  wait2 : ∀ i, i < f.length → some i ≠ exc → s.left.getD i 0 ≤ 1 → s.held.getD i false = false → (i : Int) ∈ s.wait
  nodup : s.wait.Nodup

theorem asc_count {c : List Int} (hc : Asc c) (x : Int) (hx : x ∈ c) : (c.filter fun y => !(y == x)).length + 1 = c.length := by
  induction c with
  | nil => cases hx
  | cons y c ih =>
    have hp := hc.1
    rw [List.pairwise_cons] at hp
    have hc' : Asc c := ⟨hp.2, fun z hz => hc.2 z (by simp [hz])⟩
    by_cases e : y = x
    · subst e
      have hno : ∀ z ∈ c, z ≠ y := fun z hz e => by have := hp.1 z hz; rw [e] at this; omega
      have hf : c.filter (fun z => !(z == y)) = c := by
        rw [List.filter_eq_self]
        intro z hz
        simpa using hno z hz
      rw [List.filter_cons]
      simp [hf]
    · have hx' : x ∈ c := by
        rcases List.mem_cons.1 hx with h | h
        · exact absurd h.symm e
        · exact h
      have := ih hc' hx'
      rw [List.filter_cons]
      have hye : (!(y == x)) = true := by simpa using e
      rw [if_pos hye, List.length_cons, List.length_cons]
      omega

theorem openL_snoc (asg c : List Int) (lit : Int) : openL (asg ++ [lit]) c = (openL asg c).filter fun y => !(y == -lit) := by
  unfold openL
  rw [List.filter_filter]
  apply List.filter_congr
  intro x _
  have : (x = -lit) ↔ (-x = lit) := by constructor <;> intro h <;> omega
  by_cases h1 : -x = lit
  · have h2 := this.2 h1
    simp [h2]
  · have h2 : ¬ x = -lit := fun h => h1 (this.1 h)
    simp [h1, h2]

theorem Asc.filter {c : List Int} (h : Asc c) (p : Int → Bool) : Asc (c.filter p) := ⟨h.1.filter _, fun x hx => h.2 x (List.mem_filter.1 hx).1⟩

/-- A literal that is open is set. -/
theorem UI.set {f : List (List Int)} {asg : List Int} {exc : Option Nat} {s : Unit1} {lit : Int} {wait : List Int} (h : UI f asg exc s) (hf : mayCnfB f = true) (hv : varOf lit ≠ 0) (hn1 : lit ∉ asg) (hn2 : -lit ∉ asg)
    (hlits : ∀ x ∈ asg, varOf x ≠ 0) (hex : ∀ i, exc = some i → lit ∈ f.getD i []) (hw : wait.Perm (s.wait ++ (leftS s.left (s.at_ (-lit))).2)) : UI f (asg ++ [lit]) none (setU s lit wait) := by
  have hb : ∀ x, ∀ i ∈ atF f x, 0 ≤ i ∧ i < s.left.length := fun x i hi => by
    rw [mem_atF] at hi; rw [h.leftL]; exact ⟨hi.1, hi.2.1⟩
  have hbh : ∀ x, ∀ i ∈ atF f x, 0 ≤ i ∧ i < s.held.length := fun x i hi => by
    rw [mem_atF] at hi; rw [h.heldL]; exact ⟨hi.1, hi.2.1⟩
  obtain ⟨hl1, hl2⟩ := leftS_get s.left (atF f (-lit)) (atF_nodup _ _) (hb _)
  have hh := heldS_get (atF f lit) s.held (hbh _)
  have hat : ∀ (x : Int) (i : Nat) (hi : i < f.length), ((i : Int) ∈ atF f x) ↔ x ∈ f[i] := fun x i hi => by
    rw [mem_atF]; simp [hi]
  have hmay : ∀ i (hi : i < f.length), Asc f[i] := fun i hi => (mayB_iff _).1 (mayCnfB_get hf i hi)
  have hleft : ∀ i (hi : i < f.length), (setU s lit wait).left.getD i 0 = (openL (asg ++ [lit]) f[i]).length := fun i hi => by
    show (leftS s.left (s.at_ (-lit))).1.getD i 0 = _
    rw [h.at_, hl1 i, h.left i hi, openL_snoc]
    by_cases hm : -lit ∈ f[i]
    · rw [if_pos ((hat _ i hi).2 hm)]
      have hin : -lit ∈ openL asg f[i] := by unfold openL; rw [List.mem_filter]; exact ⟨hm, by simpa using hn1⟩
      have := asc_count ((hmay i hi).filter _) (-lit) hin
      unfold openL at *
      omega
    · rw [if_neg (fun hc => hm ((hat _ i hi).1 hc))]
      have : (openL asg f[i]).filter (fun y => !(y == -lit)) = openL asg f[i] := by
        rw [List.filter_eq_self]
        intro y hy
        have : y ≠ -lit := fun e => hm (e ▸ (List.mem_filter.1 hy).1)
        simpa using this
      rw [this]; omega
  have hheld : ∀ i (hi : i < f.length), (setU s lit wait).held.getD i false = f[i].any (asg ++ [lit]).contains := fun i hi => by
    show (heldS s.held (s.at_ lit)).getD i false = _
    rw [h.at_, hh i, h.held i hi, Bool.eq_iff_iff]
    simp only [Bool.or_eq_true, List.any_eq_true, List.contains_iff_mem, List.mem_append, List.mem_singleton, hat lit i hi]
    constructor
    · rintro (⟨x, h1, h2⟩ | h1)
      · exact ⟨x, h1, .inl h2⟩
      · exact ⟨lit, h1, .inr rfl⟩
    · rintro ⟨x, h1, h2 | rfl⟩
      · exact .inl ⟨x, h1, h2⟩
      · exact .inr h1
  have hmono : ∀ i (hi : i < f.length), (setU s lit wait).left.getD i 0 ≤ s.left.getD i 0 := fun i hi => by
    show (leftS s.left (s.at_ (-lit))).1.getD i 0 ≤ _
    rw [h.at_, hl1 i]; split <;> omega
  refine ⟨?_, ?_, ?_, hleft, ?_, hheld, h.at_, ?_, ?_, ?_⟩
  · intro x hx
    show mset s.val (varOf lit) (.int .i64 lit) (varOf x) = _
    unfold mset
    rcases List.mem_append.1 hx with hx1 | hx
    · have hne : ¬ varOf x = varOf lit := fun e => by
        rcases varOf_inj (hlits x hx1) e with e1 | e1
        · exact hn1 (e1 ▸ hx1)
        · exact hn2 (e1 ▸ hx1)
      rw [if_neg hne]; exact h.val1 x hx1
    · have hxl := List.mem_singleton.1 hx
      rw [hxl, if_pos rfl]
  · intro v u hu
    have hu' : mset s.val (varOf lit) (.int .i64 lit) v = some u := hu
    unfold mset at hu'
    by_cases e : v = varOf lit
    · rw [if_pos e] at hu'
      injection hu' with hu'
      exact ⟨lit, by simp, e.symm, hu'.symm⟩
    · rw [if_neg e] at hu'
      obtain ⟨x, hx, h1⟩ := h.val2 v u hu'
      exact ⟨x, by simp [hx], h1⟩
  · show (leftS s.left (s.at_ (-lit))).1.length = _
    rw [leftS_len, h.leftL]
  · show (heldS s.held (s.at_ lit)).length = _
    rw [heldS_len, h.heldL]
  · intro i hi
    have hi' : i ∈ s.wait ++ (leftS s.left (s.at_ (-lit))).2 := hw.mem_iff.1 hi
    rcases List.mem_append.1 hi' with hi' | hi'
    · obtain ⟨h0, h1, h2⟩ := h.wait1 i hi'
      exact ⟨h0, h1, Int.le_trans (hmono _ (by omega)) h2⟩
    · rw [h.at_, hl2, List.mem_filter] at hi'
      obtain ⟨hm, he⟩ := hi'
      obtain ⟨h0, h1, h2⟩ := mem_atF.1 hm
      refine ⟨h0, h1, ?_⟩
      show (leftS s.left (s.at_ (-lit))).1.getD i.toNat 0 ≤ 1
      rw [h.at_, hl1, if_pos (by rwa [Int.toNat_of_nonneg h0])]
      simp at he
      simp
      omega
  · intro i hi _ hle hnh
    refine hw.mem_iff.2 (List.mem_append.2 ?_)
    have hnh' : ((s.held.getD i false) || (atF f lit).contains (i : Int)) = false := by
      have : (heldS s.held (s.at_ lit)).getD i false = false := hnh
      rwa [h.at_, hh i] at this
    rw [Bool.or_eq_false_iff] at hnh'
    by_cases hold : s.left.getD i 0 ≤ 1
    · refine .inl (h.wait2 i hi (fun e => ?_) hold hnh'.1)
      have hlx := hex i e.symm
      have : (i : Int) ∈ atF f lit := mem_atF.2 ⟨by omega, by omega, by simpa using hlx⟩
      have := hnh'.2
      simp_all
    · right
      have hle' : (leftS s.left (s.at_ (-lit))).1.getD i 0 ≤ 1 := hle
      rw [h.at_, hl1] at hle'
      rw [h.at_, hl2, List.mem_filter]
      by_cases hm : (i : Int) ∈ atF f (-lit)
      · rw [if_pos hm] at hle'
        refine ⟨hm, ?_⟩
        simp only [Int.toNat_natCast, beq_iff_eq]
        omega
      · rw [if_neg hm] at hle'; omega
  · refine (List.Perm.nodup_iff hw).2 (List.nodup_append.2 ⟨h.nodup, ?_, ?_⟩)
    · rw [h.at_, hl2]; exact (atF_nodup _ _).filter _
    · intro a ha b hb' e
      subst e
      rw [h.at_, hl2, List.mem_filter] at hb'
      have := (h.wait1 a ha).2.2
      have h2 := hb'.2
      simp at h2 this
      omega

/-- The first clause that is false or unit. -/
def decF (f : List (List Int)) (asg : List Int) : Option Nat := (List.range f.length).find? fun i => !(f.getD i []).any asg.contains && decide ((openL asg (f.getD i [])).length ≤ 1)

/-- The steps of unit propagation from some literals on, and the clause that is false at its end (-1: none). -/
def unitsL (f : List (List Int)) : Nat → List Int → List (Int × Int) × Int
  | 0, _ => ([], -1)
  | k + 1, asg => match decF f asg with
    | none => ([], -1)
    | some i => match openL asg (f.getD i []) with
      | [] => ([], (i : Int))
      | x :: _ => let r := unitsL f k (asg ++ [x]); ((x, (i : Int)) :: r.1, r.2)

theorem decF_some {f : List (List Int)} {asg : List Int} {i : Nat} (hi : i < f.length) (h1 : f[i].any asg.contains = false) (h2 : (openL asg f[i]).length ≤ 1)
    (hn : ∀ j (hj : j < i), f[j].any asg.contains = false → 1 < (openL asg f[j]).length) : decF f asg = some i := by
  unfold decF
  rw [List.find?_range_eq_some]
  refine ⟨?_, by simpa using hi, fun j hj => ?_⟩
  · simp only [getD_of f i hi, h1, h2, decide_true, Bool.not_false, Bool.and_self]
  · have hjl : j < f.length := by omega
    rw [getD_of f j hjl]
    cases hh : f[j].any asg.contains
    · have := hn j hj hh
      simp
      omega
    · simp

theorem decF_none {f : List (List Int)} {asg : List Int} (hn : ∀ j (hj : j < f.length), f[j].any asg.contains = false → 1 < (openL asg f[j]).length) : decF f asg = none := by
  unfold decF
  rw [List.find?_eq_none]
  intro j hj
  have hjl : j < f.length := by simpa using hj
  rw [getD_of f j hjl]
  cases hh : f[j].any asg.contains
  · have := hn j hjl hh
    simp
    omega
  · simp

/-- Nothing waits: nothing decides. -/
theorem UI.empty {f : List (List Int)} {asg : List Int} {s : Unit1} (h : UI f asg none s) (hw : s.wait = []) : decF f asg = none := decF_none fun j hj hh => by
  have hl := h.left j hj
  have hd := h.held j hj
  rw [hh] at hd
  by_cases hle : s.left.getD j 0 ≤ 1
  · have := h.wait2 j hj (by simp) hle hd
    rw [hw] at this
    cases this
  · omega

/-- What is taken from the heap: the least. -/
structure Popped (f : List (List Int)) (asg : List Int) (s : Unit1) (i : Nat) (ys : List Int) : Prop where
  lt : i < f.length
  left : s.left.getD i 0 ≤ 1
  rest : UI f asg (some i) { s with wait := ys }
  before : ∀ j (_ : j < i) (hj : j < f.length), f[j].any asg.contains = false → 1 < (openL asg f[j]).length

theorem UI.popped {f : List (List Int)} {asg : List Int} {s : Unit1} (h : UI f asg none s) {x : Int} {ys : List Int} (hp : s.wait.Perm (x :: ys)) (hm : ∀ y ∈ s.wait, x ≤ y) : ∃ i : Nat, x = i ∧ Popped f asg s i ys := by
  have hx : x ∈ s.wait := hp.mem_iff.2 (by simp)
  obtain ⟨h0, h1, h2⟩ := h.wait1 x hx
  have hnd := (List.Perm.nodup_iff hp).1 h.nodup
  rw [List.nodup_cons] at hnd
  refine ⟨x.toNat, by omega, by omega, h2, ⟨h.val1, h.val2, h.leftL, h.left, h.heldL, h.held, h.at_, fun i hi => h.wait1 i (hp.mem_iff.2 (by simp [hi])), fun i hi he hl hh => ?_, hnd.2⟩, fun j hj hjl hh => ?_⟩
  · have := hp.mem_iff.1 (h.wait2 i hi (by simp) hl hh)
    rcases List.mem_cons.1 this with e | h'
    · exact absurd (by rw [← e]; simp) he
    · exact h'
  · have hl := h.left j hjl
    have hd := h.held j hjl
    rw [hh] at hd
    by_cases hle : s.left.getD j 0 ≤ 1
    · have := hm _ (h.wait2 j hjl (by simp) hle hd)
      omega
    · omega

/-- It is held: nothing is lost. -/
theorem Popped.skip {f : List (List Int)} {asg : List Int} {s : Unit1} {i : Nat} {ys : List Int} (h : Popped f asg s i ys) (hh : s.held.getD i false = true) : UI f asg none { s with wait := ys } := by
  have r := h.rest
  refine ⟨r.val1, r.val2, r.leftL, r.left, r.heldL, r.held, r.at_, r.wait1, fun j hj _ hl hd => ?_, r.nodup⟩
  by_cases e : j = i
  · subst e
    have hd' : s.held.getD j false = false := hd
    rw [hh] at hd'
    cases hd'
  · exact r.wait2 j hj (by simpa using e) hl hd

theorem Popped.dec {f : List (List Int)} {asg : List Int} {s : Unit1} {i : Nat} {ys : List Int} (h : Popped f asg s i ys) (hh : s.held.getD i false = false) : decF f asg = some i := by
  have h1 := h.rest.held i h.lt
  have h2 := h.rest.left i h.lt
  have h3 := h.left
  have hlt := h.lt
  have hh' : (s.held.getD i false) = f[i].any asg.contains := h1
  have h2' : s.left.getD i 0 = ((openL asg (f[i]'h.lt)).length : Int) := h2
  rw [hh] at hh'
  exact decF_some h.lt hh'.symm (by omega) (fun j hj => h.before j hj (by have := h.lt; omega))

end Go.Proofs.YteokoaggkpjdeaaDoor
namespace Go.Proofs.YteokoaggkpjdeaaDoor
open Go.RowKit

/-- The clauses ahead of the n-th in which a literal stands. -/
def atN (f : List (List Int)) (n : Nat) (x : Int) : List Int := ((List.range n).filter fun i => (f.getD i []).contains x).map Int.ofNat
theorem atN_full (f : List (List Int)) (x : Int) : atN f f.length x = atF f x := rfl
theorem atN_zero (f : List (List Int)) (x : Int) : atN f 0 x = [] := rfl
theorem atN_succ (f : List (List Int)) (n : Nat) (hn : n < f.length) (x : Int) : atN f (n + 1) x = atN f n x ++ if f[n].contains x then [(n : Int)] else [] := by
  unfold atN
  rw [List.range_succ, List.filter_append, List.map_append]
  congr 1
  rw [List.filter_cons, getD_of f n hn]
  split <;> rfl
theorem atN_len (f : List (List Int)) (n : Nat) (x : Int) : (atN f n x).length ≤ n := by
  unfold atN
  rw [List.length_map]
  exact Nat.le_trans (List.length_filter_le _ _) (by simp)
/-- While the n-th clause is read, its first k literals are done. -/
def atP (f : List (List Int)) (n k : Nat) (x : Int) : List Int := atN f n x ++ if ((f.getD n []).take k).contains x then [(n : Int)] else []
theorem atP_zero (f : List (List Int)) (n : Nat) (x : Int) : atP f n 0 x = atN f n x := by simp [atP]
theorem atP_len (f : List (List Int)) (n k : Nat) (x : Int) : (atP f n k x).length ≤ n + 1 := by
  unfold atP
  have := atN_len f n x
  rw [List.length_append]
  split <;> simp <;> omega
theorem atP_full (f : List (List Int)) (n : Nat) (hn : n < f.length) (x : Int) : atP f n f[n].length x = atN f (n + 1) x := by
  unfold atP
  rw [getD_of f n hn, List.take_length, atN_succ f n hn]
theorem atP_succ {f : List (List Int)} {n k : Nat} (hn : n < f.length) (ha : Asc f[n]) (hk : k < f[n].length) :
    (fun y => if y = f[n][k] then atP f n k f[n][k] ++ [(n : Int)] else atP f n k y) = atP f n (k + 1) := by
  funext y
  unfold atP
  rw [getD_of f n hn, List.take_succ_eq_append_getElem hk]
  by_cases e : y = f[n][k]
  · rw [if_pos e, e]
    have hno : (f[n].take k).contains f[n][k] = false := by
      rw [Bool.eq_false_iff]
      intro hc
      rw [List.contains_iff_mem, List.mem_iff_getElem] at hc
      obtain ⟨j, hj, he⟩ := hc
      rw [List.length_take] at hj
      rw [List.getElem_take] at he
      have := (List.pairwise_iff_getElem.1 ha.1) j k (by omega) hk (by omega)
      rw [he] at this; omega
    have hyes : (f[n].take k ++ [f[n][k]]).contains f[n][k] = true := List.contains_iff_mem.2 (List.mem_append_right _ (List.mem_singleton.2 rfl))
    rw [hno, hyes]; simp
  · rw [if_neg e]
    have : (f[n].take k ++ [f[n][k]]).contains y = (f[n].take k).contains y := by
      rw [Bool.eq_iff_iff, List.contains_iff_mem, List.contains_iff_mem, List.mem_append, List.mem_singleton]
      exact ⟨fun h => h.elim id (fun h => absurd h e), .inl⟩
    rw [this]

/-- The clauses ahead of the n-th that have at most one literal. -/
def shortN (f : List (List Int)) (n : Nat) : List Int := ((List.range n).filter fun i => decide ((f.getD i []).length ≤ 1)).map Int.ofNat
theorem shortN_succ (f : List (List Int)) (n : Nat) (hn : n < f.length) : shortN f (n + 1) = shortN f n ++ if f[n].length ≤ 1 then [(n : Int)] else [] := by
  unfold shortN
  rw [List.range_succ, List.filter_append, List.map_append]
  congr 1
  rw [List.filter_cons, getD_of f n hn]
  by_cases h : f[n].length ≤ 1
  · simp [h]
  · simp [h]
theorem shortN_len (f : List (List Int)) (n : Nat) : (shortN f n).length ≤ n := by
  unfold shortN
  rw [List.length_map]
  exact Nat.le_trans (List.length_filter_le _ _) (by simp)
theorem mem_shortN {f : List (List Int)} {i : Int} : i ∈ shortN f f.length ↔ 0 ≤ i ∧ i < f.length ∧ (f.getD i.toNat []).length ≤ 1 := by
  unfold shortN
  rw [List.mem_map]
  constructor
  · rintro ⟨n, hn, rfl⟩
    rw [List.mem_filter, List.mem_range] at hn
    exact ⟨by simp, by simpa using hn.1, by simpa using hn.2⟩
  · rintro ⟨h0, h1, h2⟩
    refine ⟨i.toNat, ?_, by simp; omega⟩
    rw [List.mem_filter, List.mem_range]
    exact ⟨by omega, by simpa using h2⟩
theorem shortN_nodup (f : List (List Int)) (n : Nat) : (shortN f n).Nodup := by
  unfold shortN
  refine List.Pairwise.map _ (fun a b h e => ?_) (List.Pairwise.filter _ List.nodup_range)
  have e' : (a : Int) = (b : Int) := e
  exact h (by omega)

/-- The unit as it is made, n clauses read. -/
def unit0 (f : List (List Int)) (n : Nat) (wait : List Int) : Unit1 :=
  { val := fun _ => none, left := (f.take n).map fun c => (c.length : Int), held := List.replicate f.length false, at_ := atN f n, wait := wait }

theorem UI.init (f : List (List Int)) (wait : List Int) (hw : wait.Perm (shortN f f.length)) : UI f [] none (unit0 f f.length wait) := by
  have hl : ∀ i (h : i < f.length), (unit0 f f.length wait).left.getD i 0 = (openL [] f[i]).length := fun i h => by
    have : openL [] f[i] = f[i] := by unfold openL; rw [List.filter_eq_self]; intro x _; rfl
    rw [this]
    show ((f.take f.length).map fun c => (c.length : Int)).getD i 0 = _
    rw [List.take_length]
    simp [h]
  refine ⟨by simp, fun v u h => (by cases h), by simp [unit0], hl, by simp [unit0], fun i h => ?_, fun x => rfl, fun i hi => ?_, fun i hi _ hle _ => ?_, (List.Perm.nodup_iff hw).2 (shortN_nodup _ _)⟩
  · show (List.replicate f.length false).getD i false = _
    simp [h]
  · obtain ⟨h0, h1, h2⟩ := mem_shortN.1 (hw.mem_iff.1 hi)
    refine ⟨h0, h1, ?_⟩
    have hi' : i.toNat < f.length := by omega
    rw [getD_of f _ hi'] at h2
    rw [hl _ hi']
    have : openL [] f[i.toNat] = f[i.toNat] := by unfold openL; rw [List.filter_eq_self]; intro x _; rfl
    rw [this]; omega
  · refine hw.mem_iff.2 (mem_shortN.2 ⟨by omega, by omega, ?_⟩)
    rw [hl i hi] at hle
    have : openL [] f[i] = f[i] := by unfold openL; rw [List.filter_eq_self]; intro x _; rfl
    rw [this] at hle
    simp only [Int.toNat_natCast]
    rw [getD_of f i hi]; omega

/-- What is left to do: the clauses that may still wait, and those that do. -/
def todo (s : Unit1) : Nat := s.left.countP (fun x => decide (2 ≤ x)) + s.wait.length

theorem leftStep_todo (s : List Int × List Int) (i : Int) (h0 : 0 ≤ i) (h1 : i < s.1.length) :
    (leftStep s i).1.countP (fun x => decide (2 ≤ x)) + (leftStep s i).2.length ≤ s.1.countP (fun x => decide (2 ≤ x)) + s.2.length := by
  have hi : i.toNat < s.1.length := by omega
  unfold leftStep
  dsimp only
  rw [List.countP_set hi]
  have hg : s.1.getD i.toNat 0 = s.1[i.toNat] := by simp [hi]
  rw [hg]
  have hp : s.1[i.toNat] ≥ 2 → 0 < s.1.countP (fun x => decide (2 ≤ x)) := fun h => List.countP_pos_iff.2 ⟨_, List.getElem_mem hi, by simpa using h⟩
  by_cases h2 : 2 ≤ s.1[i.toNat]
  · have := hp h2
    by_cases h3 : s.1[i.toNat] - 1 = 1
    · simp [h3, show ¬ (2 : Int) ≤ 1 by omega, h2]; omega
    · simp [h3, show (2 : Int) ≤ s.1[i.toNat] - 1 by omega, h2]; omega
  · simp [h2, show ¬ s.1[i.toNat] - 1 = 1 by omega, show ¬ (2 : Int) ≤ s.1[i.toNat] - 1 by omega]

theorem leftS_todo (is : List Int) : ∀ (s : List Int × List Int), (∀ i ∈ is, 0 ≤ i ∧ i < s.1.length) →
    (is.foldl leftStep s).1.countP (fun x => decide (2 ≤ x)) + (is.foldl leftStep s).2.length ≤ s.1.countP (fun x => decide (2 ≤ x)) + s.2.length := by
  induction is with
  | nil => intro s _; exact Nat.le_refl _
  | cons i is ih =>
    intro s hb
    obtain ⟨h0, h1⟩ := hb i (by simp)
    rw [List.foldl_cons]
    refine Nat.le_trans (ih (leftStep s i) fun k hk => by have := hb k (by simp [hk]); simpa [leftStep] using this) (leftStep_todo s i h0 h1)

theorem setU_todo {f : List (List Int)} {asg : List Int} {exc : Option Nat} {s : Unit1} (h : UI f asg exc s) (lit : Int) (wait : List Int) (hw : wait.Perm (s.wait ++ (leftS s.left (s.at_ (-lit))).2)) : todo (setU s lit wait) ≤ todo s := by
  have := leftS_todo (s.at_ (-lit)) (s.left, []) (fun i hi => by
    rw [h.at_, mem_atF] at hi; show 0 ≤ i ∧ i < s.left.length; rw [h.leftL]; exact ⟨hi.1, hi.2.1⟩)
  unfold todo
  have hl := hw.length_eq
  rw [List.length_append] at hl
  show ((leftS s.left (s.at_ (-lit))).1).countP _ + wait.length ≤ _
  rw [hl]
  unfold leftS at *
  simp only [List.length_nil, Nat.add_zero] at this
  omega

theorem UI.wait_len {f : List (List Int)} {asg : List Int} {exc : Option Nat} {s : Unit1} (h : UI f asg exc s) : todo s ≤ f.length + s.wait.length := by
  unfold todo
  have := List.countP_le_length (p := fun x => decide ((2 : Int) ≤ x)) (l := s.left)
  rw [h.leftL] at this
  omega

end Go.Proofs.YteokoaggkpjdeaaDoor
namespace Go.Proofs.YteokoaggkpjdeaaDoor
open Go.RowKit

theorem countP_le' {α : Type} {l : List α} {p q : α → Bool} (h : ∀ a ∈ l, q a = true → p a = true) : l.countP q ≤ l.countP p := by
  induction l with
  | nil => exact Nat.le_refl _
  | cons b l ih =>
    have := ih fun a ha => h a (by simp [ha])
    rw [List.countP_cons, List.countP_cons]
    have hb := h b (by simp)
    cases hq : q b
    · simp; omega
    · simp [hb hq]; omega
theorem countP_lt {α : Type} {l : List α} {p q : α → Bool} (h : ∀ a ∈ l, q a = true → p a = true) (a : α) (ha : a ∈ l) (hp : p a = true) (hq : q a = false) : l.countP q < l.countP p := by
  induction l with
  | nil => cases ha
  | cons b l ih =>
    have hle := countP_le' (l := l) (p := p) (q := q) fun a ha => h a (by simp [ha])
    have hb := h b (by simp)
    rw [List.countP_cons, List.countP_cons]
    rcases List.mem_cons.1 ha with rfl | ha
    · simp [hp, hq]; omega
    · have := ih (fun a ha => h a (by simp [ha])) ha
      cases hq' : q b
      · simp; omega
      · simp [hb hq']; omega

/-- The clauses that are not held. -/
def nh (f : List (List Int)) (asg : List Int) : Nat := f.countP fun c => !c.any asg.contains
theorem nh_le (f : List (List Int)) (asg : List Int) : nh f asg ≤ f.length := List.countP_le_length
theorem nh_lt {f : List (List Int)} {asg : List Int} {i : Nat} (hi : i < f.length) {x : Int} (hx : x ∈ f[i]) (hh : f[i].any asg.contains = false) : nh f (asg ++ [x]) < nh f asg := by
  refine countP_lt (fun c _ hc => ?_) f[i] (List.getElem_mem hi) (by rw [hh]; rfl) ?_
  · rw [Bool.not_eq_true'] at hc ⊢
    rw [List.any_eq_false] at hc ⊢
    intro y hy
    have := hc y hy
    simp at this ⊢
    exact this.1
  · rw [Bool.not_eq_false']
    exact List.any_eq_true.2 ⟨x, hx, by simp⟩

/-- What the run has come to. -/
structure US (f : List (List Int)) (xs : List Int) (st : List (Int × Int)) (asg : List Int) : Prop where
  eq : ∃ fuel, nh f asg < fuel ∧ unitsL f (f.length + 1) xs = (st ++ (unitsL f fuel asg).1, (unitsL f fuel asg).2)
  len : st.length + nh f asg ≤ f.length
  var : ∀ x ∈ asg, varOf x ≠ 0

theorem US.init {f : List (List Int)} {xs : List Int} (h : mayB xs = true) : US f xs [] xs :=
  ⟨⟨f.length + 1, by have := nh_le f xs; omega, by simp⟩, by have := nh_le f xs; simpa using this, fun x hx => by have := ((mayB_iff _).1 h).2 x hx; omega⟩
theorem US.step {f : List (List Int)} {xs asg : List Int} {st : List (Int × Int)} {i : Nat} {x : Int} {r : List Int} (h : US f xs st asg) (hd : decF f asg = some i) (hi : i < f.length) (ho : openL asg f[i] = x :: r) (hh : f[i].any asg.contains = false) (hv : varOf x ≠ 0) :
    US f xs (st ++ [(x, (i : Int))]) (asg ++ [x]) := by
  obtain ⟨⟨fuel, hf, he⟩, hl, hvs⟩ := h
  have hx : x ∈ f[i] := by
    have : x ∈ openL asg f[i] := by rw [ho]; simp
    exact (List.mem_filter.1 this).1
  have hlt := nh_lt hi hx hh
  cases fuel with
  | zero => omega
  | succ k =>
    refine ⟨⟨k, by omega, ?_⟩, by simp; omega, fun y hy => ?_⟩
    · have : unitsL f (k + 1) asg = ((x, (i : Int)) :: (unitsL f k (asg ++ [x])).1, (unitsL f k (asg ++ [x])).2) := by
        rw [unitsL, hd]
        simp only [getD_of f i hi, ho]
      rw [he, this]
      simp
    · rcases List.mem_append.1 hy with hy | hy
      · exact hvs y hy
      · rw [List.mem_singleton.1 hy]; exact hv
theorem US.none {f : List (List Int)} {xs asg : List Int} {st : List (Int × Int)} (h : US f xs st asg) (hd : decF f asg = none) : unitsL f (f.length + 1) xs = (st, -1) := by
  obtain ⟨⟨fuel, hf, he⟩, -, -⟩ := h
  cases fuel with
  | zero => omega
  | succ k => rw [he, unitsL, hd]; simp
theorem US.conf {f : List (List Int)} {xs asg : List Int} {st : List (Int × Int)} {i : Nat} (h : US f xs st asg) (hd : decF f asg = some i) (hi : i < f.length) (ho : openL asg f[i] = []) : unitsL f (f.length + 1) xs = (st, (i : Int)) := by
  obtain ⟨⟨fuel, hf, he⟩, -, -⟩ := h
  cases fuel with
  | zero => omega
  | succ k => rw [he, unitsL, hd]; simp only [getD_of f i hi, ho, List.append_nil]

/-- The first place of a clause that is open. -/
theorem idx_open {c asg : List Int} {x : Int} {r : List Int} {p : Nat → Bool} (hp : ∀ j (hj : j < c.length), p j = !asg.contains (-c[j])) (h : openL asg c = x :: r) {n : Int} (hx : IdxOf p c.length n) :
    ∃ k, ∃ hk : k < c.length, n = (k : Int) ∧ c[k] = x := by
  unfold openL at h
  obtain ⟨l1, l2, rfl, h1, h2, -⟩ := List.filter_eq_cons_iff.1 h
  have hl : l1.length < (l1 ++ x :: l2).length := by simp
  have hpx : p l1.length = true := by rw [hp _ hl]; simpa using h2
  rcases hx with ⟨k, hk, hpk, hb, rfl⟩ | ⟨hno, -⟩
  · have : k = l1.length := by
      rcases Nat.lt_trichotomy k l1.length with hlt | he | hgt
      · have h3 := h1 (l1[k]) (List.getElem_mem hlt)
        rw [hp k hk] at hpk
        rw [List.getElem_append_left hlt] at hpk
        exact absurd hpk h3
      · exact he
      · have := hb _ hgt
        rw [hpx] at this; cases this
    subst this
    exact ⟨_, hl, rfl, by simp⟩
  · have := hno _ hl
    rw [hpx] at this; cases this

theorem UI.isNone {f : List (List Int)} {asg : List Int} {exc : Option Nat} {s : Unit1} (h : UI f asg exc s) {y : Int} (hy : y ∉ asg) (hv : varOf y ≠ 0) : (s.val (varOf y)).isNone = !asg.contains (-y) := by
  cases e : s.val (varOf y) with
  | none =>
    have : ¬ -y ∈ asg := fun hm => by
      have := h.val1 _ hm
      rw [varOf_neg, e] at this; cases this
    simp [this]
  | some u =>
    obtain ⟨x, hx, hxv, -⟩ := h.val2 _ _ e
    rcases varOf_inj (by rw [hxv]; exact hv) hxv with e1 | e1
    · exact absurd (e1 ▸ hx) hy
    · have : -y ∈ asg := e1 ▸ hx
      simp [this]
theorem UI.valV {f : List (List Int)} {asg : List Int} {exc : Option Nat} {s : Unit1} (h : UI f asg exc s) (hv : ∀ x ∈ asg, varOf x ≠ 0) (y : Int) : s.val (varOf y) = none ∨ ∃ z, z ≠ 0 ∧ s.val (varOf y) = some (.int .i64 z) := by
  cases e : s.val (varOf y) with
  | none => exact .inl rfl
  | some u =>
    obtain ⟨x, hx, -, rfl⟩ := h.val2 _ _ e
    exact .inr ⟨x, fun h0 => hv x hx (by rw [h0]; rfl), rfl⟩

/-- Between the unit's changes: its pointer's cell, what was there before. -/
structure UK (w0 : World) (U pu : Nat) (lab : Nat → Option Lab) (wr : World) : Prop where
  ext : Ext w0 wr
  cell : wr.cell? ⟨pu, 0, none⟩ = some (.pointer (some ⟨U, 0, none⟩))
  pul : lab pu = none
  pus : pu < wr.heap.size
  low : ∀ k c, lab k = some c → w0.heap.size ≤ k

theorem UK.own {w0 w w' : World} {U pu : Nat} {lab lab' : Nat → Option Lab} (h : UK w0 U pu lab w) (k : Own lab lab' w w') : UK w0 U pu lab' w' := by
  have hn : ¬ ∃ c, lab pu = some c := fun ⟨c, hc⟩ => by rw [h.pul] at hc; cases hc
  refine ⟨k.chg.toExt h.ext fun i ⟨c, hc⟩ => h.low i c hc, ?_, ?_, Nat.lt_of_lt_of_le h.pus k.chg.size, fun i c hi => ?_⟩
  · rw [World.cell?, k.chg.block pu h.pus hn]; exact h.cell
  · cases e : lab' pu with
    | none => rfl
    | some c => rcases k.grow pu c e with h1 | h1
                · exact absurd ⟨c, h1⟩ hn
                · have := h.pus; omega
  · rcases k.grow i c hi with h1 | h1
    · exact h.low i c h1
    · exact Nat.le_trans h.ext.size h1
theorem UK.mk' {w0 w w' : World} {U pu : Nat} {lab : Nat → Option Lab} (h : UK w0 U pu lab w) (k : Ext w w') : UK w0 U pu lab w' := h.own (.same (k.chg _))

def stepsV (st : List (Int × Int)) : List Value := st.flatMap fun p => [.int .i64 p.1, .int .i64 p.2]
theorem stepsV_snoc (st : List (Int × Int)) (x i : Int) : stepsV (st ++ [(x, i)]) = stepsV st ++ [.int .i64 x, .int .i64 i] := by unfold stepsV; rw [List.flatMap_append]; rfl

/-- The unit, and the steps so far. -/
structure UG (w0 : World) (U pu mv ma : Nat) (fv : Value) (f : List (List Int)) (asg : List Int) (exc : Option Nat) (t : Nat) (l : Value) (st : List (Int × Int))
    (lab : Nat → Option Lab) (lv hv wv : Value) (atv : Int → Option Value) (s : Unit1) (wr : World) : Prop where
  us : USt wr w0.heap.size lab U mv ma fv lv hv wv atv s
  ui : UI f asg exc s
  todo : todo s ≤ t
  uk : UK w0 U pu lab wr
  row : wr.ownsRow w0.heap.size 55 2 l st.length (stepsV st)
  rowl : ∀ k, l.ownBlock = some k → lab k = none
  lpu : l.ownBlock ≠ some pu

def UP2 (w0 : World) (U pu mv ma : Nat) (fv : Value) (f : List (List Int)) (asg : List Int) (exc : Option Nat) (t : Nat) (l : Value) (st : List (Int × Int)) (wr : World) : Prop :=
  ∃ lab lv hv wv atv s, UG w0 U pu mv ma fv f asg exc t l st lab lv hv wv atv s wr

theorem rowl_own {w w' : World} {B : Nat} {l : Value} {n : Nat} {xs : List Value} {e : TypeId} {size : Nat} {lab lab' : Nat → Option Lab} (hr : w.ownsRow B e size l n xs) (hl : ∀ k, l.ownBlock = some k → lab k = none) (k : Own lab lab' w w') :
    w'.ownsRow B e size l n xs ∧ ∀ k, l.ownBlock = some k → lab' k = none := by
  refine ⟨k.chg.own hr fun g hg ⟨c, hc⟩ => (by rw [hl g hg] at hc; cases hc), fun g hg => ?_⟩
  cases e : lab' g with
  | none => rfl
  | some c =>
    rcases k.grow g c e with h1 | h1
    · rw [hl g hg] at h1; cases h1
    · have := (own_typed hr hg).2.1; omega

theorem UI.left_bd {f : List (List Int)} {asg : List Int} {exc : Option Nat} {s : Unit1} (h : UI f asg exc s) (hf : mayCnfB f = true) : ∀ x ∈ s.left, 0 ≤ x ∧ x ≤ 65536 := by
  intro x hx
  obtain ⟨i, hi, rfl⟩ := List.mem_iff_getElem.1 hx
  have hi' : i < f.length := by rw [← h.leftL]; exact hi
  have := h.left i hi'
  simp [hi] at this
  rw [this]
  have h1 := may_len (mayCnfB_get hf i hi')
  have h2 : (openL asg f[i]).length ≤ f[i].length := List.length_filter_le _ _
  omega

section
variable {w0 wr : World} {U pu mv ma t : Nat} {fv l lv hv wv : Value} {f : List (List Int)} {asg : List Int} {exc : Option Nat} {st : List (Int × Int)} {lab : Nat → Option Lab} {atv : Int → Option Value} {s : Unit1}

/-- One more literal. -/
theorem UG.set_any (h : UG w0 U pu mv ma fv f asg exc t l st lab lv hv wv atv s wr) (hf : mayCnfB f = true) (lit : Int) (hv0 : varOf lit ≠ 0) (hn1 : lit ∉ asg) (hn2 : -lit ∉ asg)
    (hlits : ∀ x ∈ asg, varOf x ≠ 0) (hex : ∀ i, exc = some i → lit ∈ f.getD i []) (ht : t ≤ 1000000) :
    Calls Tryd.prog 69 #[.pointer (some ⟨U, 0, none⟩), .int .i64 lit] wr fun e w' => e = .returned (.tuple #[]) ∧ UP2 w0 U pu mv ma fv f (asg ++ [lit]) none t l st w' := by
  have hvr := varOf_eq hv0
  have hvr2 := varOf_range lit
  have hwl : s.wait.length ≤ 1000000 := by have := h.todo; unfold Go.Proofs.YteokoaggkpjdeaaDoor.todo at this; omega
  have hfl := mayCnfB_len hf
  refine (Go.Proofs.YteokoaggkpjdeaaDoor.set_any w0.heap.size lab U mv ma fv lv hv wv atv s lit ⟨by omega, by omega⟩ (by omega) wr h.us ?_ ?_ ?_ ?_ hwl).mono ?_
  · intro x i hi
    rw [h.ui.at_, mem_atF] at hi
    rw [h.ui.heldL]; exact ⟨hi.1, hi.2.1⟩
  · rw [h.ui.leftL, h.ui.heldL]
  · intro x hx
    have := h.ui.left_bd hf x hx
    omega
  · intro x
    rw [h.ui.at_]
    have := atF_len f x
    omega
  · rintro e w' ⟨lab', wv', wait, rfl, hperm, hus, hown⟩
    have hr := rowl_own h.row h.rowl hown
    exact ⟨rfl, lab', _, _, wv', _, _, hus, h.ui.set hf hv0 hn1 hn2 hlits hex hperm, Nat.le_trans (setU_todo h.ui lit wait hperm) h.todo, h.uk.own hown, hr.1, hr.2, h.lpu⟩

theorem USt.keepAll {w w' : World} {B : Nat} {S : Nat → Prop} (h : USt w B lab U mv ma fv lv hv wv atv s) (k : Chg S w w') (hS : ∀ i, S i → lab i = none) : USt w' B lab U mv ma fv lv hv wv atv s := by
  have hn : ∀ {i : Nat} {c : Lab}, lab i = some c → ¬ S i := fun hc hs => by rw [hS _ hs] at hc; cases hc
  exact ⟨k.blk h.blk (hn h.lU), h.mval.keep k (hn h.lmv), h.mat.keep k (hn h.lma), k.own h.rleft fun i hi => hn (h.lleft i hi), k.own h.rheld fun i hi => hn (h.lheld i hi), k.own h.rwait fun i hi => hn (h.lwait i hi),
    fun x => k.own (h.rat x) fun i hi => hn (h.lat x i hi), h.heap, h.lU, h.lmv, h.lma, h.lleft, h.lheld, h.lwait, h.lat, h.keepLow k⟩

theorem UG.ext {w' : World} (h : UG w0 U pu mv ma fv f asg exc t l st lab lv hv wv atv s wr) (k : Ext wr w') : UG w0 U pu mv ma fv f asg exc t l st lab lv hv wv atv s w' :=
  ⟨h.us.ext k, h.ui, h.todo, h.uk.mk' k, own_ext h.row k, h.rowl, h.lpu⟩

/-- A step more. -/
theorem UG.snoc {w' : World} {g cap : Nat} (x i : Int) (h : UG w0 U pu mv ma fv f asg exc t l st lab lv hv wv atv s wr)
    (hown : w'.ownsRow w0.heap.size 55 2 (.slice (some ⟨g, 0, none⟩) (st.length + 1) cap) (st.length + 1) (stepsV st ++ [.int .i64 x, .int .i64 i]))
    (hgr : Chg (fun k => some k = l.ownBlock) wr w') (hat : l.ownBlock = some g ∨ wr.heap.size ≤ g) :
    UG w0 U pu mv ma fv f asg exc t (.slice (some ⟨g, 0, none⟩) (st.length + 1) cap) (st ++ [(x, i)]) lab lv hv wv atv s w' := by
  have hg0 : lab g = none ∧ g ≠ pu := by
    rcases hat with ha | ha
    · exact ⟨h.rowl g ha, fun e => h.lpu (e ▸ ha)⟩
    · refine ⟨?_, fun e => by have := h.uk.pus; omega⟩
      cases e : lab g with
      | none => rfl
      | some c => have := (h.us.low g c e).2; omega
  refine ⟨h.us.keepAll hgr fun k hk => h.rowl k hk.symm, h.ui, h.todo, ⟨hgr.toExt h.uk.ext fun k hk => (own_typed h.row hk.symm).1, ?_, h.uk.pul, Nat.lt_of_lt_of_le h.uk.pus hgr.size, h.uk.low⟩, ?_, ?_, ?_⟩
  · rw [World.cell?_of_block (hgr.block pu h.uk.pus fun e => h.lpu e.symm)]; exact h.uk.cell
  · rw [stepsV_snoc, List.length_append]; exact hown
  · intro k hk; simp [Value.ownBlock] at hk; rw [← hk]; exact hg0.1
  · intro hk; simp [Value.ownBlock] at hk; exact hg0.2 hk

/-- The heap as heap.Pop wants it. -/
theorem UG.hp (h : UG w0 U pu mv ma fv f asg exc t l st lab lv hv wv atv s wr) (h0 : 0 < s.wait.length) : ∃ g c, wv = .slice (some ⟨g, 0, none⟩) s.wait.length c ∧ HpS wr U 5 81 [fv, .map (some mv), lv, hv, .map (some ma), .slice (some ⟨g, 0, none⟩) s.wait.length c] g c s.wait := by
  obtain ⟨g, c, rfl, -, -⟩ := h.us.rwait.form h0
  have hr := own_rowAt (xs := s.wait) rfl rfl h.us.rwait
  exact ⟨g, c, rfl, h.us.blk, rfl, hr.1, by decide⟩

theorem UG.pop {w' : World} {g c : Nat} {e : Ending} (h : UG w0 U pu mv ma fv f asg none t l st lab lv hv (.slice (some ⟨g, 0, none⟩) s.wait.length c) atv s wr)
    (hp : PostPop wr U 5 81 [fv, .map (some mv), lv, hv, .map (some ma), .slice (some ⟨g, 0, none⟩) s.wait.length c] g c s.wait e w') :
    ∃ i : Nat, e = .returned (.iface 3 (.int .i64 i)) ∧ ∃ ys wv' t', t = t' + 1 ∧ Popped f asg s i ys ∧ UG w0 U pu mv ma fv f asg (some i) t' l st lab lv hv wv' atv { s with wait := ys } w' := by
  obtain ⟨wv', x, ys, rfl, hperm, hmin, hus, hown⟩ := h.us.pop hp
  obtain ⟨i, rfl, hpo⟩ := h.ui.popped hperm hmin
  have hr := rowl_own h.row h.rowl hown
  have ht := h.todo
  have hl := hperm.length_eq
  unfold Go.Proofs.YteokoaggkpjdeaaDoor.todo at ht
  rw [List.length_cons] at hl
  exact ⟨i, rfl, ys, wv', t - 1, by omega, hpo, hus, hpo.rest, by unfold Go.Proofs.YteokoaggkpjdeaaDoor.todo; dsimp only; omega, h.uk.own hown, hr.1, hr.2, h.lpu⟩

/-- What the walk reads. -/
theorem UG.held {ys : List Int} {i : Nat} (h : UG w0 U pu mv ma fv f asg exc t l st lab lv hv wv atv { s with wait := ys } wr) (hi : i < f.length) (hl : s.held.length = f.length) :
    ∃ g c, hv = .slice (some ⟨g, 0, none⟩) f.length c ∧ wr.cell? ⟨g, i, none⟩ = some (.bool (s.held.getD i false)) := by
  obtain ⟨g, c, rfl, -, hc, -, -⟩ := own_at Value.bool h.us.rheld i (by show i < s.held.length; omega)
  exact ⟨g, c, by rw [← hl], by rw [hc]; simp [show i < s.held.length by omega]⟩
theorem UG.left {ys : List Int} {i : Nat} (h : UG w0 U pu mv ma fv f asg exc t l st lab lv hv wv atv { s with wait := ys } wr) (hi : i < f.length) (hl : s.left.length = f.length) :
    ∃ g c, lv = .slice (some ⟨g, 0, none⟩) f.length c ∧ wr.cell? ⟨g, i, none⟩ = some (.int .i64 (s.left.getD i 0)) := by
  obtain ⟨g, c, rfl, -, hc, -, -⟩ := own_at (Value.int .i64) h.us.rleft i (by show i < s.left.length; omega)
  exact ⟨g, c, by rw [← hl], by rw [hc]; simp [show i < s.left.length by omega]⟩
end

end Go.Proofs.YteokoaggkpjdeaaDoor
namespace Go.Proofs.YteokoaggkpjdeaaDoor
open Go.RowKit

theorem info_bool : (Tryd.prog.info? 4).map (fun i => (i.zero, i.size, i.bytes)) = some (some (.bool false), 1, 1) := by kernel_rfl
theorem info_step : (Tryd.prog.info? 55).map (fun i => (i.zero, i.size, i.bytes)) = some (some (.agg #[.int .i64 0, .int .i64 0]), 2, 16) := by kernel_rfl
theorem zeroValue_int (w : World) : (zeroValue 3).run Tryd.prog w = .ok (.int .i64 0) w := by kernel_rfl
theorem fv_units1 : Fv Tryd.prog 72 := ⟨_, Tryd.func72, by kernel_rfl, by kernel_rfl⟩

set_option maxHeartbeats 400000 in
theorem units_fn (pu U mv : Nat) (c0 c2 c3 c4 c5 : Value) (val : Int → Option Value) (x : Int) (hx : I64 x) (w : World) (hp : w.cell? ⟨pu, 0, none⟩ = some (.pointer (some ⟨U, 0, none⟩)))
    (hU : Blk w U 81 [c0, .map (some mv), c2, c3, c4, c5]) (hm : MapAt w mv val) (hv : val (varOf x) = none ∨ ∃ y, y ≠ 0 ∧ val (varOf x) = some (.int .i64 y)) :
    Calls Tryd.prog 72 #[.int .i64 x, .pointer (some ⟨pu, 0, none⟩)] w fun e w' => e = .returned (.bool (val (varOf x)).isNone) ∧ ∃ n, w' = w.drewN n := by
  have c1 : w.cell? ⟨U, 1, none⟩ = some (.map (some mv)) := hU.cell 1
  obtain ⟨y, b, hy, hb, hv'⟩ : ∃ (y : Int) (b : Bool), (y == 0) = b ∧ (val (varOf x)).isNone = b ∧ (val (varOf x)).getD (.int .i64 0) = .int .i64 y := by
    rcases hv with h | ⟨y, hy, h⟩
    · exact ⟨0, true, rfl, by rw [h]; rfl, by rw [h]; rfl⟩
    · exact ⟨y, false, by simpa using hy, by rw [h]; rfl, by rw [h]; rfl⟩
  have hlk : ∀ n, (Instr.lookup 76 (.map (some mv)) (.int .i64 (varOf x)) false).run Tryd.prog (w.drewN n) = .ok (.int .i64 y) (w.drewN n) := fun n => by
    have := (hm.ext (Ext.drewN w n)).lookup (P := Tryd.prog) Tryd.underlying76 Tryd.underlying3 (zeroValue_int _) (varOf x)
    rwa [hv'] at this
  have HB := Lib.hid hb
  clear hU hm hv hv' hb
  go_enter Tryd.func72, Tryd.ntmps72
  go_wp2
  go_quiet ((go_at_call 57; exact quiet_same (var_any _ hx _)))
  go_wp2
  go_ret
  exact ⟨ret_bool HB.out.symm, _, rfl⟩

def PostUnits (w : World) (r : List (Int × Int)) (c e : Int) (en : Ending) (w' : World) : Prop :=
  ∃ v, en = .returned (.tuple #[v, .int .i64 c, .int .i64 e]) ∧ w'.ownsRow w.heap.size 55 2 v r.length (stepsV r) ∧ Ext w w'

set_option maxRecDepth 100000 in
set_option maxHeartbeats 4000000 in
theorem units_arg (f : List (List Int)) (xs : List Int) (v u : Value) (w : World) (h64 : All64 xs) (k64 : All64L f) (hr : RI w v xs) (kr : RLL w u f) (ht : f.length ≤ 20000 → total f ≤ 9223372036854775807)
    (hbad : mayB xs = false ∨ mayCnfB f = false) :
    Calls Tryd.prog 34 #[u, v] w (PostUnits w [] (-1) 2) := by
  have HL := Lib.hid (may_any _ xs _ hr h64)
  have KL := Lib.hid (fun w' (h : Ext w w') => mayCnf_any _ f w' (kr.ext' h) k64 ht)
  cases hm : mayB xs
  · rw [hm] at HL
    clear hm hbad
    go_enter Tryd.func34, Tryd.ntmps34
    go_wp2_with (go_at_call 43; refine HL.out.mono ?_; rintro e w' ⟨rfl, rfl⟩)
    go_ret3
    exact ⟨_, rfl, World.ownsRow_nil w _ _ 2, Ext.refl _⟩
  · have hk : mayCnfB f = false := by rcases hbad with h | h <;> simp_all
    rw [hk] at KL
    rw [hm] at HL
    clear hm hbad hk
    go_enter Tryd.func34, Tryd.ntmps34
    go_wp2_with (first
      | (go_at_call 43; refine HL.out.mono ?_; rintro e w' ⟨rfl, rfl⟩)
      | (go_at_call 44; refine (KL.out _ (Ext.refl _)).mono ?_; rintro e w' ⟨rfl, hE⟩))
    go_ret3
    exact ⟨_, rfl, World.ownsRow_nil w' _ _ 2, hE⟩

/-- While the unit is made. -/
def UP1 (w0 : World) (U pu mv ma : Nat) (fv hv : Value) (f : List (List Int)) (n : Nat) (left : List Int) (atx : Int → List Int) (wr : World) : Prop :=
  ∃ lab lv wv atv wait, USt wr w0.heap.size lab U mv ma fv lv hv wv atv { unit0 f n wait with left := left, at_ := atx } ∧ wait.Perm (shortN f n) ∧ UK w0 U pu lab wr

theorem unit_init (f : List (List Int)) (w w1 w2 : World) (fv : Value) (n H : Nat) (hE : Ext w w1) (hH : H = w1.heap.size + 1 + 1) (hn : n = f.length)
    (hown : w2.ownsRow w.heap.size 4 1 (.slice (some ⟨H, 0, none⟩) n n) n (madeCells (Value.bool false).cells (n * 1)).toList)
    (hg : ((w1.alloc (.map #[] 0)).alloc (.map #[] 0)).grownBy w2 none) (hlt : H < w2.heap.size) :
    UP1 w w2.heap.size (w2.heap.size + 1) w1.heap.size (w1.heap.size + 1) fv (.slice (some ⟨H, 0, none⟩) n n) f 0 [] (fun _ => [])
      ((w2.alloc (.cells #[fv, .map (some w1.heap.size), .slice none 0 0, .slice (some ⟨H, 0, none⟩) n n, .map (some (w1.heap.size + 1)), .slice none 0 0] 81)).alloc (.cells #[.pointer (some ⟨w2.heap.size, 0, none⟩)] 75)) := by
  subst hn
  have e1 : Ext ((w1.alloc (.map #[] 0)).alloc (.map #[] 0)) w2 := (Ext.refl _).grown hg (fun k hk => by cases hk)
  have e2 := (Ext.alloc w2 (.cells #[fv, .map (some w1.heap.size), .slice none 0 0, .slice (some ⟨H, 0, none⟩) f.length f.length, .map (some (w1.heap.size + 1)), .slice none 0 0] 81)).trans (Ext.alloc _ (.cells #[.pointer (some ⟨w2.heap.size, 0, none⟩)] 75))
  have hU : Blk (w2.alloc (.cells #[fv, .map (some w1.heap.size), .slice none 0 0, .slice (some ⟨H, 0, none⟩) f.length f.length, .map (some (w1.heap.size + 1)), .slice none 0 0] 81)) w2.heap.size 81
    [fv, .map (some w1.heap.size), .slice none 0 0, .slice (some ⟨H, 0, none⟩) f.length f.length, .map (some (w1.heap.size + 1)), .slice none 0 0] := Blk.new w2 _ _
  have m1 : MapAt w2 w1.heap.size (fun _ => none) := ((MapAt.new w1).ext (Ext.alloc _ _)).ext e1
  have m2 : MapAt w2 (w1.heap.size + 1) (fun _ => none) := by
    have := (MapAt.new (w1.alloc (.map #[] 0))).ext e1
    simpa using this
  have hrow : w2.ownsRow w.heap.size 4 1 (.slice (some ⟨H, 0, none⟩) f.length f.length) (List.replicate f.length false).length ((List.replicate f.length false).map Value.bool) := by
    rw [List.length_replicate, List.map_replicate, ← toList_madeCells_one]
    rw [Nat.mul_one] at hown
    exact hown
  have hs1 := e1.size
  simp at hs1
  have hs0 := hE.size
  have hs2 := e2.size
  refine ⟨fun k => if k = w2.heap.size then some .u else if k = w1.heap.size then some .mv else if k = w1.heap.size + 1 then some .ma else if k = H then some .held else none,
    .slice none 0 0, .slice none 0 0, fun _ => none, [], ⟨hU.ext (Ext.alloc _ _), m1.ext e2, m2.ext e2, World.ownsRow_nil _ _ _ 1, own_ext hrow e2, World.ownsRow_nil _ _ _ 1, fun x => World.ownsRow_nil _ _ _ 1, fun k _ hk => absurd hk (by simp [unit0]), ?_, ?_, ?_, ?_, ?_, ?_, ?_, ?_⟩,
    by simp [shortN], ⟨?_, ?_, ?_, ?_, ?_⟩⟩
  · simp
  · rw [if_neg (by omega), if_pos rfl]
  · rw [if_neg (by omega), if_neg (by omega), if_pos rfl]
  · intro k hk; simp [Value.ownBlock] at hk
  · intro k hk; simp [Value.ownBlock] at hk; subst hk; rw [if_neg (by omega), if_neg (by omega), if_neg (by omega), if_pos rfl]
  · intro k hk; simp [Value.ownBlock] at hk
  · intro x k hk; simp [Value.ownBlock] at hk
  · intro k c hk
    simp at hs2
    simp
    try dsimp only at hk
    split at hk
    · omega
    · split at hk
      · omega
      · split at hk
        · omega
        · split at hk
          · omega
          · cases hk
  · exact ((hE.trans ((Ext.alloc w1 _).trans (Ext.alloc _ _))).trans e1).trans e2
  · simp
  · rw [if_neg (by omega), if_neg (by omega), if_neg (by omega), if_neg (by omega)]
  · simp
  · intro k c hk
    try dsimp only at hk
    split at hk
    · omega
    · split at hk
      · omega
      · split at hk
        · omega
        · split at hk
          · omega
          · cases hk

theorem USt.appendLeft {w w1 : World} {B : Nat} {lab : Nat → Option Lab} {U mv ma : Nat} {fv hv wv : Value} {atv : Int → Option Value} {s : Unit1} {A : Option Addr} {n lc g cap : Nat} (x : Int)
    (h : USt w B lab U mv ma fv (.slice A n lc) hv wv atv s)
    (hown : w1.ownsRow B 3 1 (.slice (some ⟨g, 0, none⟩) (s.left.length + 1) cap) (s.left.length + 1) (s.left.map (Value.int .i64) ++ [.int .i64 x]))
    (hgr : Chg (fun i => some i = (Value.slice A n lc).ownBlock) w w1) (hat : (Value.slice A n lc).ownBlock = some g ∨ w.heap.size ≤ g) :
    ∃ lab', USt (w1.setCell ⟨U, 2, none⟩ (.slice (some ⟨g, 0, none⟩) (s.left.length + 1) cap)) B lab' U mv ma fv (.slice (some ⟨g, 0, none⟩) (s.left.length + 1) cap) hv wv atv { s with left := s.left ++ [x] } ∧
      Own lab lab' w (w1.setCell ⟨U, 2, none⟩ (.slice (some ⟨g, 0, none⟩) (s.left.length + 1) cap)) := by
  have hb1 := hgr.blk h.blk (own_blk_ne h.blk h.rleft (by decide))
  have hne := own_blk_ne hb1 hown (by decide)
  have ht := own_typed hown rfl
  have hc := Chg.set w1 U 2 (.slice (some ⟨g, 0, none⟩) (s.left.length + 1) cap)
  refine h.newLeft ((hgr.mono fun _ h => .inr h).trans (hc.mono fun _ h => .inl h)) (hb1.set 2 _) ?_ rfl hat ht.1 (Nat.lt_of_lt_of_le ht.2.1 hc.size)
  have := hc.own hown (fun k hk he => hne (he ▸ hk.symm))
  rw [List.map_append, List.length_append]
  exact this

theorem USt.appendAt {w w1 w2 : World} {B : Nat} {lab : Nat → Option Lab} {U mv ma : Nat} {fv lv hv wv : Value} {atv : Int → Option Value} {s : Unit1} {A : Option Addr} {n lc g cap : Nat} (x i : Int)
    (h : USt w B lab U mv ma fv lv hv wv atv s) (he : (atv x).getD (.slice none 0 0) = .slice A n lc)
    (hown : w1.ownsRow B 3 1 (.slice (some ⟨g, 0, none⟩) ((s.at_ x).length + 1) cap) ((s.at_ x).length + 1) ((s.at_ x).map (Value.int .i64) ++ [.int .i64 i]))
    (hgr : Chg (fun i => some i = (Value.slice A n lc).ownBlock) w w1) (hat : (Value.slice A n lc).ownBlock = some g ∨ w.heap.size ≤ g)
    (hc2 : Chg (fun i => i = ma) w1 w2) (hm : MapAt w2 ma (mset atv x (.slice (some ⟨g, 0, none⟩) ((s.at_ x).length + 1) cap))) :
    ∃ lab', USt w2 B lab' U mv ma fv lv hv wv (mset atv x (.slice (some ⟨g, 0, none⟩) ((s.at_ x).length + 1) cap)) { s with at_ := fun y => if y = x then s.at_ x ++ [i] else s.at_ y } ∧ Own lab lab' w w2 := by
  have ht := own_typed hown rfl
  refine h.newAt (x := x) (by rw [he]; exact hgr) ?_ rfl (by rw [he]; exact hat) ht.1 ht.2.1 hc2 hm
  rw [List.map_append, List.length_append]
  exact hown

theorem USt.leftAt {w w1 : World} {B : Nat} {lab : Nat → Option Lab} {U mv ma : Nat} {fv lv hv wv : Value} {atv : Int → Option Value} {s : Unit1}
    (h : USt w B lab U mv ma fv lv hv wv atv s) (hgr : Chg (fun i => some i = lv.ownBlock) w w1) : w1.cell? ⟨U, 2, none⟩ = some lv ∧ w1.frozen? ⟨U, 2, none⟩ = false := by
  have hb1 := hgr.blk h.blk (own_blk_ne h.blk h.rleft (by decide))
  exact ⟨hb1.cell 2, hb1.free 2⟩
theorem USt.leftPu {w w1 w0 : World} {B pu : Nat} {lab : Nat → Option Lab} {U mv ma : Nat} {fv lv hv wv : Value} {atv : Int → Option Value} {s : Unit1}
    (h : USt w B lab U mv ma fv lv hv wv atv s) (hgr : Chg (fun i => some i = lv.ownBlock) w w1) (k : UK w0 U pu lab w) : w1.cell? ⟨pu, 0, none⟩ = some (.pointer (some ⟨U, 0, none⟩)) := by
  rw [World.cell?, hgr.block pu k.pus (fun e => by have := h.lleft pu e.symm; rw [k.pul] at this; cases this)]
  exact k.cell
theorem huk0 {w0 wr : World} {U pu : Nat} {lab : Nat → Option Lab} (h : UK w0 U pu lab wr) : w0.heap.size ≤ wr.heap.size := h.ext.size

/-- What a round reads of the unit. -/
theorem UP1.opened {w0 : World} {U pu mv ma : Nat} {fv hv : Value} {f : List (List Int)} {n : Nat} {left : List Int} {atx : Int → List Int} {wr : World} (h : UP1 w0 U pu mv ma fv hv f n left atx wr) :
    ∃ lab A lc wv atv wait, USt wr w0.heap.size lab U mv ma fv (.slice A left.length lc) hv wv atv { unit0 f n wait with left := left, at_ := atx } ∧ wait.Perm (shortN f n) ∧ UK w0 U pu lab wr := by
  obtain ⟨lab, lv, wv, atv, wait, h1, h2, h3⟩ := h
  obtain ⟨A, c, he, -⟩ := own_row (show wr.ownsRow w0.heap.size 3 1 lv (left.map (Value.int .i64)).length (left.map (Value.int .i64)) by rw [List.length_map]; exact h1.rleft)
  rw [List.length_map] at he
  subst he
  exact ⟨lab, A, c, wv, atv, wait, h1, h2, h3⟩

theorem UP1.left {w0 w w1 : World} {U pu mv ma : Nat} {fv hv wv : Value} {f : List (List Int)} {n : Nat} {L : List Int} {atx : Int → List Int} {lab : Nat → Option Lab} {atv : Int → Option Value} {wait : List Int} {A : Option Addr} {m lc g cap : Nat} (x : Int)
    (h : USt w w0.heap.size lab U mv ma fv (.slice A m lc) hv wv atv { unit0 f n wait with left := L, at_ := atx }) (hp : wait.Perm (shortN f n)) (hk : UK w0 U pu lab w)
    (hown : w1.ownsRow w0.heap.size 3 1 (.slice (some ⟨g, 0, none⟩) (L.length + 1) cap) (L.length + 1) (L.map (Value.int .i64) ++ [.int .i64 x]))
    (hgr : Chg (fun i => some i = (Value.slice A m lc).ownBlock) w w1) (hat : (Value.slice A m lc).ownBlock = some g ∨ g = w.heap.size + 1) :
    UP1 w0 U pu mv ma fv hv f n (L ++ [x]) atx (w1.setCell ⟨U, 2, none⟩ (.slice (some ⟨g, 0, none⟩) (L.length + 1) cap)) := by
  obtain ⟨lab', h1, h2⟩ := h.appendLeft (s := { unit0 f n wait with left := L, at_ := atx }) x hown hgr (hat.imp id fun h => by omega)
  exact ⟨lab', _, _, _, wait, h1, hp, hk.own h2⟩

theorem UP1.at {w0 w w1 w2 : World} {U pu mv ma : Nat} {fv lv hv wv : Value} {f : List (List Int)} {n : Nat} {L : List Int} {atx : Int → List Int} {lab : Nat → Option Lab} {atv : Int → Option Value} {wait : List Int} {A : Option Addr} {m lc g cap : Nat} (x i : Int)
    (h : USt w w0.heap.size lab U mv ma fv lv hv wv atv { unit0 f n wait with left := L, at_ := atx }) (hp : wait.Perm (shortN f n)) (hk : UK w0 U pu lab w) (he : (atv x).getD (.slice none 0 0) = .slice A m lc)
    (hown : w1.ownsRow w0.heap.size 3 1 (.slice (some ⟨g, 0, none⟩) ((atx x).length + 1) cap) ((atx x).length + 1) ((atx x).map (Value.int .i64) ++ [.int .i64 i]))
    (hgr : Chg (fun i => some i = (Value.slice A m lc).ownBlock) w w1) (hat : (Value.slice A m lc).ownBlock = some g ∨ g = w.heap.size + 1)
    (hc2 : Chg (fun i => i = ma) w1 w2) (hm : MapAt w2 ma (mset atv x (.slice (some ⟨g, 0, none⟩) ((atx x).length + 1) cap))) :
    UP1 w0 U pu mv ma fv hv f n L (fun y => if y = x then atx x ++ [i] else atx y) w2 := by
  obtain ⟨lab', h1, h2⟩ := h.appendAt (s := { unit0 f n wait with left := L, at_ := atx }) x i he hown hgr (hat.imp id fun h => by omega) hc2 hm
  exact ⟨lab', _, _, _, wait, h1, hp, hk.own h2⟩

theorem USt.atFacts {w w1 w0 : World} {B pu : Nat} {lab : Nat → Option Lab} {U mv ma : Nat} {fv lv hv wv : Value} {atv : Int → Option Value} {s : Unit1} {x : Int}
    (h : USt w B lab U mv ma fv lv hv wv atv s) (k : UK w0 U pu lab w) (hgr : Chg (fun i => some i = ((atv x).getD (.slice none 0 0)).ownBlock) w w1) :
    w1.cell? ⟨pu, 0, none⟩ = some (.pointer (some ⟨U, 0, none⟩)) ∧ w1.cell? ⟨U, 4, none⟩ = some (.map (some ma)) ∧ MapAt w1 ma atv := by
  have hn : ∀ g, (∀ c, lab g = some c → c ≠ .at_ x) → ¬ some g = ((atv x).getD (.slice none 0 0)).ownBlock := fun g hc e => hc _ (h.lat x g e.symm) rfl
  refine ⟨?_, (hgr.blk h.blk (hn U fun c hc e => by rw [h.lU] at hc; injection hc with hc; rw [← hc] at e; cases e)).cell 4, h.mat.keep hgr (hn ma fun c hc e => by rw [h.lma] at hc; injection hc with hc; rw [← hc] at e; cases e)⟩
  rw [World.cell?, hgr.block pu k.pus (hn pu fun c hc => by rw [k.pul] at hc; cases hc)]
  exact k.cell

theorem USt.ne_ma {w w0 : World} {B pu : Nat} {lab : Nat → Option Lab} {U mv ma : Nat} {fv lv hv wv : Value} {atv : Int → Option Value} {s : Unit1}
    (h : USt w B lab U mv ma fv lv hv wv atv s) (k : UK w0 U pu lab w) : pu ≠ ma ∧ U ≠ ma :=
  ⟨fun e => by (have := k.pul; rw [e, h.lma] at this; cases this), fun e => by (have := h.lU; rw [e, h.lma] at this; injection this with this; cases this)⟩

theorem USt.ne_u {w w0 : World} {B pu : Nat} {lab : Nat → Option Lab} {U mv ma : Nat} {fv lv hv wv : Value} {atv : Int → Option Value} {s : Unit1}
    (h : USt w B lab U mv ma fv lv hv wv atv s) (k : UK w0 U pu lab w) : ¬ pu = U := fun e => by have := k.pul; rw [e, h.lU] at this; cases this

theorem UP1.pushed {w0 w w' : World} {U pu mv ma : Nat} {fv lv hv wv : Value} {f : List (List Int)} {n : Nat} {L : List Int} {atx : Int → List Int} {lab : Nat → Option Lab} {atv : Int → Option Value} {wait : List Int} {e : Ending}
    (h : USt w w0.heap.size lab U mv ma fv lv hv wv atv { unit0 f n wait with left := L, at_ := atx }) (hp : wait.Perm (shortN f n)) (hk : UK w0 U pu lab w) (hn : n < f.length) (hs : f[n].length ≤ 1)
    (hpp : PostPush w U 5 81 [fv, .map (some mv), lv, hv, .map (some ma), wv] w0.heap.size wv wait n e w') :
    e = .returned (.tuple #[]) ∧ UP1 w0 U pu mv ma fv hv f (n + 1) L atx w' := by
  obtain ⟨lab', wv', ys, he, hperm, hu, ho⟩ := h.push hpp
  exact ⟨he, lab', lv, wv', atv, ys, hu, by rw [shortN_succ f n hn, if_pos hs]; exact hperm.trans (hp.append_right _), hk.own ho⟩
theorem UP1.unpushed {w0 w : World} {U pu mv ma : Nat} {fv hv : Value} {f : List (List Int)} {n : Nat} {L : List Int} {atx : Int → List Int} (h : UP1 w0 U pu mv ma fv hv f n L atx w) (hn : n < f.length) (hs : ¬ f[n].length ≤ 1) :
    UP1 w0 U pu mv ma fv hv f (n + 1) L atx w := by
  obtain ⟨lab, lv, wv, atv, wait, h1, h2, h3⟩ := h
  exact ⟨lab, lv, wv, atv, wait, h1, by rw [shortN_succ f n hn, if_neg hs, List.append_nil]; exact h2, h3⟩

theorem asc_take {xs : List Int} (h : Asc xs) {k : Nat} (hk : k < xs.length) : xs[k] ∉ xs.take k ∧ -xs[k] ∉ xs.take k := by
  have hno : ∀ y ∈ xs.take k, varOf y ≠ varOf xs[k] := fun y hy => by
    obtain ⟨j, hj, rfl⟩ := List.mem_iff_getElem.1 hy
    rw [List.length_take] at hj
    rw [List.getElem_take]
    have := h.lt j k (by omega) hk
    omega
  exact ⟨fun hm => hno _ hm rfl, fun hm => hno _ hm (varOf_neg _)⟩

set_option maxRecDepth 100000 in
set_option maxHeartbeats 20000000 in
theorem units_good (f : List (List Int)) (xs : List Int) (v u : Value) (w : World) (h64 : All64 xs) (k64 : All64L f) (hr : RI w v xs) (kr : RLL w u f) (ht : f.length ≤ 20000 → total f ≤ 9223372036854775807)
    (hm : mayB xs = true) (hf : mayCnfB f = true) :
    Calls Tryd.prog 34 #[u, v] w (PostUnits w (unitsL f (f.length + 1) xs).1 (unitsL f (f.length + 1) xs).2 0) := by
  have HL := Lib.hid (may_any _ xs _ hr h64)
  have KL := Lib.hid (mayCnf_any _ f w kr k64 ht)
  rw [hf] at KL
  rw [hm] at HL
  have HF := Lib.hid hf
  have HM := Lib.hid hm
  have hmm := @run_makeMap Tryd.prog
  have hfl := mayCnfB_len hf
  clear hm hf
  obtain ⟨A, c, rfl, h1, h2, h3⟩ := hr
  obtain ⟨B, d, vs, rfl, k1, k2, k3, k4, k5⟩ := kr
  obtain ⟨i0, hi, hz0, hz1, hz2⟩ := info_parts info_bool
  have H3 := Lib.hid h3
  have K3 := Lib.hid k3
  have K4 := Lib.hid k4
  have K5 := Lib.hid k5
  have HI := Lib.hid hi
  have HZ := Lib.hid hz0
  have HZ1 := Lib.hid hz1
  have HZ2 := Lib.hid hz2
  rw [← k4] at hfl
  clear h3 k3 k4 k5 ht hi hz0 hz1 hz2
  go_enter Tryd.func34, Tryd.ntmps34
  go_wp2_with (first
    | (go_at_call 43; refine HL.out.mono ?_; rintro e w' ⟨rfl, rfl⟩)
    | (go_at_call 44; refine KL.out.mono ?_; rintro e w1 ⟨rfl, hE1⟩; have HE1 := Lib.hid hE1; clear hE1)
    | ((with_reducible refine at_dst 29 rfl ?_); refine wpList_make_full _ rfl (.tmp 28) (.tmp 28) 78 rfl w.heap.size 4 i0 (.bool false) 1 Tryd.underlying78 HI.out HZ.out HZ1.out .i64 .i64 _ _ vs.length rfl rfl rfl rfl (by rw [HZ2.out]; omega) (by unfold maxLen; omega) ?hb ?_
       case hb => have := HE1.out.size; simp; omega
       intro w2 hown hg
       rw [show ((w1.alloc (.map #[] 0)).alloc (.map #[] 0)).heap.size = w1.heap.size + 1 + 1 by simp] at hown
       have HOWN := Lib.hid hown
       have HG := Lib.hid hg
       clear hown hg))
  have hH2 : w1.heap.size + 1 + 1 < w2.heap.size := (own_typed HOWN.out rfl).2.1
  have HUP : Hid (UP1 w w2.heap.size (w2.heap.size + 1) w1.heap.size (w1.heap.size + 1) (.slice B vs.length d) (.slice (some ⟨w1.heap.size + 1 + 1, 0, none⟩) vs.length vs.length) f 0 [] (fun _ => [])
      ((w2.alloc (.cells #[.slice B vs.length d, .map (some w1.heap.size), .slice none 0 0, .slice (some ⟨w1.heap.size + 1 + 1, 0, none⟩) vs.length vs.length, .map (some (w1.heap.size + 1)), .slice none 0 0] 81)).alloc (.cells #[.pointer (some ⟨w2.heap.size, 0, none⟩)] 75))) :=
    Lib.hid (unit_init f w w1 w2 _ _ _ HE1.out rfl K4.out HOWN.out HG.out hH2)
  clear hH2
  clear HOWN HG HI HZ HZ1 HZ2
  obtain ⟨j0, hj, hy0, hy1, hy2⟩ := info_parts info_int
  have HJ := Lib.hid hj
  have HY := Lib.hid hy0
  have HY1 := Lib.hid hy1
  have HY2 := Lib.hid hy2
  clear hj hy0 hy1 hy2
  have HE2 := HUP.out.opened
  generalize (w2.alloc (.cells #[.slice B vs.length d, .map (some w1.heap.size), .slice none 0 0, .slice (some ⟨w1.heap.size + 1 + 1, 0, none⟩) vs.length vs.length, .map (some (w1.heap.size + 1)), .slice none 0 0] 81)).alloc (.cells #[.pointer (some ⟨w2.heap.size, 0, none⟩)] 75) = w3 at HUP ⊢
  clear HE2
  generalize w2.heap.size + 1 = pu at HUP ⊢
  generalize w2.heap.size = U at HUP ⊢
  generalize w1.heap.size + 1 + 1 = hb at HUP ⊢
  generalize w1.heap.size + 1 = ma at HUP ⊢
  generalize w1.heap.size = mv at HUP ⊢
  clear w2 HE1 
  go_loopg [34] vs.length (fun gn i wr => ∃ k : Nat, k ≤ vs.length ∧ gn + k = vs.length ∧ i = .int .i64 k ∧ Hid (UP1 w U pu mv ma (.slice B vs.length d) (.slice (some ⟨hb, 0, none⟩) vs.length vs.length) f k ((f.take k).map fun c => (c.length : Int)) (atN f k) wr))
  case atStart => exact ⟨0, Nat.zero_le _, rfl, rfl, HUP⟩
  case round =>
    obtain ⟨k, hk, hgk, rfl, HS⟩ := hrel
    by_cases hlt : k < vs.length
    · have hkf : k < f.length := by rw [← K4.out]; exact hlt
      obtain ⟨L, hL⟩ : ∃ L : List Int, L = (f.take k).map fun c => (c.length : Int) := ⟨_, rfl⟩
      rw [← hL] at HS
      have HLL := Lib.hid hL
      have HL1 : Hid (L ++ [(f[k].length : Int)] = (f.take (k + 1)).map fun c => (c.length : Int)) := Lib.hid (by rw [hL, List.take_succ_eq_append_getElem hkf, List.map_append]; rfl)
      clear hL
      obtain ⟨lab, LA, lc, wv, atv, wait, hus, hperm, huk⟩ := HS.out.opened
      have c2 : wr.cell? ⟨U, 2, none⟩ = some (.slice LA L.length lc) := hus.blk.cell 2
      have cp := huk.cell
      obtain ⟨ad, rfl, hvk⟩ := (K3.out.ext huk.ext) k hlt
      have HKR := Lib.hid ((K5.out k hlt hkf).ext huk.ext)
      obtain ⟨CA, cc, hve, hcc1, hcc2, -⟩ := HKR.out
      rw [hve] at hvk
      have HVE := Lib.hid hve
      have HUS := Lib.hid hus
      have HUK := Lib.hid huk
      have HPM := Lib.hid hperm
      clear hus huk hve hperm HUP
      have hll : L.length ≤ 20000 := by rw [HLL.out, List.length_map, List.length_take]; omega
      go_upto_region 7 with fail
      go_cut [34] from 34 to 81 (fun s34 wx => s34 = .int .i64 k ∧ Hid (UP1 w U pu mv ma (.slice (some ad) vs.length d) (.slice (some ⟨hb, 0, none⟩) vs.length vs.length) f k ((f.take (k + 1)).map fun c => (c.length : Int)) (atN f k) wx))
      case first =>
        have c2b : (wr.alloc (.cells #[.int .i64 f[k].length] 3)).cell? ⟨U, 2, none⟩ = some (.slice LA L.length lc) := (Ext.alloc wr _).cell c2
        have cpb : (wr.alloc (.cells #[.int .i64 f[k].length] 3)).cell? ⟨pu, 0, none⟩ = some (.pointer (some ⟨U, 0, none⟩)) := (Ext.alloc wr _).cell cp
        have hsz := huk0 HUK.out
        go_region_law ((
          refine step_append_lies _ rfl (.tmp 43) (.tmp 46) 22 rfl w.heap.size 3 j0 (.int .i64 0) 1 8 Tryd.underlying22 HJ.out HY.out HY1.out HY2.out rfl (by decide) (.slice LA L.length lc) L.length (L.map (Value.int .i64)) rfl ?c1 ⟨wr.heap.size, 0, none⟩ 1 1 [.int .i64 f[k].length] rfl rfl ?c2 (by simp [Value.oneCell']) (by omega) (by unfold maxLen; omega) (by omega) (by simp; omega) (wr.heap.size + 1) (by simp) ?_
          case c1 => exact own_ext HUS.out.rleft ((Ext.alloc wr _).trans (Ext.drew _))
          case c2 => exact one_cell wr _ _
          intro g cap w1 hown hgrow hat hlt
          have HOWN := Lib.hid hown
          have HGR := Lib.hid ((((Ext.alloc wr _).trans (Ext.drew _)).chg _).trans (grown_chg hgrow))
          have HAT := Lib.hid hat
          have c3 := (HUS.out.leftAt HGR.out).1
          have f3 := (HUS.out.leftAt HGR.out).2
          have cp3 := (HUS.out.leftPu HGR.out HUK.out)
          have HD := Lib.hid (UP1.left f[k].length HUS.out HPM.out HUK.out hown HGR.out hat)
          rw [HL1.out] at HD
          clear hown hgrow hat hlt))
        all_goals (go_wp2; go_meet; exact ⟨rfl, HD⟩)
      case rest =>
      obtain ⟨rfl, HS1⟩ := hcut
      clear HUS HUK HPM c2 cp HS HLL hll HL1
      have hcl := (HKR.out)
      have hcl2 := may_len (mayCnfB_get HF.out k hkf)
      obtain ⟨-, -, -, -, -, hcrow⟩ := HKR.out
      have hkl : k < 20000 := by omega
      clear hcl hvk
      go_wp2_with fail
      go_loopg [52] f[k].length (fun gn j wr => ∃ m : Nat, m ≤ f[k].length ∧ gn + m = f[k].length ∧ j = .int .i64 m ∧ Hid (UP1 w U pu mv ma (.slice (some ad) vs.length d) (.slice (some ⟨hb, 0, none⟩) vs.length vs.length) f k ((f.take (k + 1)).map fun c => (c.length : Int)) (atP f k m) wr))
      case atStart => exact ⟨0, Nat.zero_le _, by omega, rfl, by rw [show atP f k 0 = atN f k from funext fun x => atP_zero f k x]; exact HS1⟩
      case round =>
        obtain ⟨m, hm, hgm, rfl, HS⟩ := hrel
        by_cases hmt : m < f[k].length
        · obtain ⟨lab, lv, wv, atv, wait, hus, hperm, huk⟩ := HS.out
          obtain ⟨R, hR⟩ : ∃ R, RI wr vs[k] f[k] ∧ R = 0 := ⟨0, (K5.out k hlt hkf).ext huk.ext, rfl⟩
          obtain ⟨CA', cc', hve', -, -, hcr⟩ := hR.1
          have hv2 := HVE.out.symm.trans hve'
          cases hv2
          obtain ⟨ac, rfl, hxc⟩ := hcr.int m hmt
          have hrl := own_row (show wr.ownsRow w.heap.size 3 1 ((atv f[k][m]).getD (.slice none 0 0)) ((atP f k m f[k][m]).map (Value.int .i64)).length ((atP f k m f[k][m]).map (Value.int .i64)) by rw [List.length_map]; exact hus.rat f[k][m])
          rw [List.length_map] at hrl
          obtain ⟨A1, C1, hv1, -⟩ := hrl
          have hlk : ∀ w', Ext wr w' → (Instr.lookup 77 (.map (some ma)) (.int .i64 f[k][m]) false).run Tryd.prog w' = .ok (.slice A1 (atP f k m f[k][m]).length C1) w' := fun w' he => by
            have := (hus.mat.ext he).lookup (P := Tryd.prog) Tryd.underlying77 Tryd.underlying3 (zeroValue_ints w') f[k][m]
            rwa [hv1] at this
          have hl1 := hlk _ (Ext.drew wr)
          have hl2 := hlk _ ((Ext.alloc wr (.cells #[.int .i64 k] 3)).trans (Ext.drew _))
          have hl3 := hlk _ ((Ext.drew wr).trans (Ext.alloc _ (.cells #[.int .i64 k] 3)))
          have c4 : wr.cell? ⟨U, 4, none⟩ = some (.map (some ma)) := hus.blk.cell 4
          have c4b : (wr.alloc (.cells #[.int .i64 k] 3)).cell? ⟨U, 4, none⟩ = some (.map (some ma)) := (Ext.alloc wr _).cell c4
          have cp := huk.cell
          have cpb : (wr.alloc (.cells #[.int .i64 k] 3)).cell? ⟨pu, 0, none⟩ = some (.pointer (some ⟨U, 0, none⟩)) := (Ext.alloc wr _).cell cp
          have hsz := huk0 huk
          have hpl := atP_len f k m f[k][m]
          obtain ⟨P, hP⟩ : ∃ P, P = atP f k m f[k][m] := ⟨_, rfl⟩
          rw [← hP] at hl1 hl2 hl3 hpl
          have HP := Lib.hid hP
          have HUS := Lib.hid hus
          have HUK := Lib.hid huk
          have HPM := Lib.hid hperm
          have HV1 := Lib.hid hv1
          clear hus huk hperm HS hR hve' hcr hv1 hlk hP
          go_wp2_with fail
          go_region_held3 (fun w' => w'.cell? ⟨pu, 0, none⟩ = some (.pointer (some ⟨U, 0, none⟩)) ∧ w'.cell? ⟨U, 4, none⟩ = some (.map (some ma))) (first | exact ⟨cp, c4⟩ | exact ⟨cpb, c4b⟩ | exact ⟨cp3, c43⟩ | exact ⟨cpu, c4u⟩ | go_keep) (first | (
            refine step_append_lies _ rfl (.tmp 66) (.tmp 68) 22 rfl w.heap.size 3 j0 (.int .i64 0) 1 8 Tryd.underlying22 HJ.out HY.out HY1.out HY2.out rfl (by decide) (.slice A1 P.length C1) P.length (P.map (Value.int .i64)) rfl ?c1 ⟨wr.heap.size, 0, none⟩ 1 1 [.int .i64 k] rfl rfl ?c2 (by simp [Value.oneCell']) (by omega) (by unfold maxLen; omega) (by omega) (by simp; omega) (wr.heap.size + 1) (by simp) ?_
            case c1 => exact own_ext (by have := HUS.out.rat f[k][m]; rw [HV1.out] at this; rw [HP.out]; exact this) ((Ext.alloc wr _).trans (Ext.drew _))
            case c2 => exact one_cell wr _ _
            intro g cap w1 hown hgrow hat hlt
            have hGR := (((Ext.alloc wr _).trans (Ext.drew _)).chg _).trans (grown_chg hgrow)
            have hAF := HUS.out.atFacts (x := f[k][m]) HUK.out (by rw [HV1.out, ← HP.out]; exact hGR)
            have cp3 := hAF.1
            have c43 := hAF.2.1
            obtain ⟨wu, hrun, hmu, hcu⟩ := hAF.2.2.update (P := Tryd.prog) Tryd.underlying77 Tryd.underlying3 f[k][m] (.slice (some ⟨g, 0, none⟩) (P.length + 1) cap)
            have hUm := HUS.out.ne_ma HUK.out
            have cpu : wu.cell? ⟨pu, 0, none⟩ = some (.pointer (some ⟨U, 0, none⟩)) := (World.cell?_of_block (hcu.block pu (World.block_lt_of_cell? _ _ cp3) hUm.1)).trans cp3
            have c4u : wu.cell? ⟨U, 4, none⟩ = some (.map (some ma)) := (World.cell?_of_block (hcu.block U (World.block_lt_of_cell? _ _ c43) hUm.2)).trans c43
            rw [HP.out] at hown hGR hat hmu
            have HD := Lib.hid (UP1.at f[k][m] k HUS.out HPM.out HUK.out HV1.out hown hGR hat hcu hmu)
            clear hown hgrow hat hlt hAF hGR hmu hcu hUm))
          all_goals
            go_wp2
            go_roundg (f[k].length - (m + 1))
            case measure => omega
            case rel => exact ⟨m + 1, by omega, by omega, by go_num, by rw [← atP_succ hkf ((mayB_iff _).1 (mayCnfB_get HF.out k hkf)) hmt]; exact HD.out⟩
        · obtain rfl : m = f[k].length := by omega
          rw [show atP f k f[k].length = atN f (k + 1) from funext fun x => atP_full f k hkf x] at HS
          obtain ⟨wx, rfl⟩ : ∃ wx : World, wx = wr := ⟨_, rfl⟩
          by_cases hsh : f[k].length ≤ 1
          · obtain ⟨lab, lv, wv, atv, wait, hus, hperm, huk⟩ := HS.out
            have cp := huk.cell
            have hwl : wait.length ≤ 20000 := by have := hperm.length_eq; have := shortN_len f k; omega
            have HPU := Lib.hid ((heapPush_any U 5 81 _ w.heap.size wv wait (k : Int) wx hus.blk (by decide) rfl hus.rwait (huk0 huk) (by omega) hus.heap).mono fun e w' hp => UP1.pushed hus hperm huk hkf hsh hp)
            have hsh' : (f[k].length : Int) ≤ 1 := by omega
            clear hus hperm huk HS
            go_wp2_with (go_at_call 68; refine HPU.out.mono ?_; rintro e w2 ⟨rfl, hup⟩; have HUP := Lib.hid hup; clear hup)
            go_roundg (vs.length - (k + 1))
            case measure => omega
            case rel => exact ⟨k + 1, by omega, by omega, by go_num, HUP⟩
          · have HS' := Lib.hid (HS.out.unpushed hkf hsh)
            have hsh' : ¬ (f[k].length : Int) ≤ 1 := by omega
            clear HS
            go_wp2
            go_roundg (vs.length - (k + 1))
            case measure => omega
            case rel => exact ⟨k + 1, by omega, by omega, by go_num, HS'⟩
    · obtain rfl : k = vs.length := by omega
      obtain ⟨lab, lv, wv, atv, wait, hus, hperm, huk⟩ := HS.out
      rw [K4.out, List.take_length] at hus
      rw [K4.out] at hperm
      have hui := UI.init f wait hperm
      have hwt : todo (unit0 f f.length wait) ≤ 40000 := by
        have h1 := hui.wait_len
        have h2 := hperm.length_eq
        have h3 := shortN_len f f.length
        have h4 : (unit0 f f.length wait).wait.length = wait.length := rfl
        have h5 := K4.out
        omega
      rw [show { unit0 f f.length wait with left := f.map fun c => (c.length : Int), at_ := atN f f.length } = unit0 f f.length wait by unfold unit0; rw [List.take_length]] at hus
      have H2 : Hid (UP2 w U pu mv ma (.slice B f.length d) f [] none 40000 (.slice none 0 0) [] wr) := Lib.hid ⟨lab, lv, _, wv, atv, _, hus, hui, hwt, huk, World.ownsRow_nil _ _ _ 2, fun k hk => by simp [Value.ownBlock] at hk, fun hk => by simp [Value.ownBlock] at hk⟩
      obtain ⟨w3, rfl⟩ : ∃ w3 : World, w3 = wr := ⟨_, rfl⟩
      clear hus hperm huk hui hwt HS HUP
      go_wp2_with fail
      go_loopg [84] xs.length (fun gn i wr => ∃ k : Nat, k ≤ xs.length ∧ gn + k = xs.length ∧ i = .int .i64 k ∧ Hid (UP2 w U pu mv ma (.slice B f.length d) f (xs.take k) none 40000 (.slice none 0 0) [] wr))
      case atStart => exact ⟨0, Nat.zero_le _, by omega, rfl, H2⟩
      case round =>
        obtain ⟨k, hk, hgk, rfl, HS⟩ := hrel
        have hxa := (mayB_iff _).1 HM.out
        by_cases hkx : k < xs.length
        · obtain ⟨lab, lv, hv, wv, atv, s, hug⟩ := HS.out
          obtain ⟨ad, rfl, hxc⟩ := (H3.out.ext hug.uk.ext).int k hkx
          have hvk := hxa.2 _ (List.getElem_mem hkx)
          have hno := asc_take hxa hkx
          have HC := Lib.hid (hug.set_any HF.out xs[k] (by omega) hno.1 hno.2 (fun x hx => by have := hxa.2 x (List.mem_of_mem_take hx); omega) (fun i hi => by cases hi) (by omega))
          have cp := hug.uk.cell
          clear HS hug hno hxa
          go_wp2_with (go_at_call 69; refine HC.out.mono ?_; rintro e w2 ⟨rfl, hup⟩; rw [← List.take_succ_eq_append_getElem hkx] at hup; have HUP := Lib.hid hup; clear hup)
          go_roundg (xs.length - (k + 1))
          case measure => omega
          case rel => exact ⟨k + 1, by omega, by omega, by go_num, HUP⟩
        · obtain rfl : k = xs.length := by omega
          rw [List.take_length] at HS
          have HUS := Lib.hid (US.init (f := f) HM.out)
          obtain ⟨w4, rfl⟩ : ∃ w4 : World, w4 = wr := ⟨_, rfl⟩
          clear H2 hxa
          go_wp2_with fail
          go_loopg [4] 40000 (fun gn l wr => gn ≤ 40000 ∧ Hid (∃ st asg, US f xs st asg ∧ UP2 w U pu mv ma (.slice B f.length d) f asg none gn l st wr))
          case atStart => exact ⟨Nat.le_refl _, [], xs, HUS.out, HS.out⟩
          case round =>
            obtain ⟨hgn, HS⟩ := hrel
            obtain ⟨st, asg, hus, lab, lv, hv, wv, atv, s, hug⟩ := HS.out
            obtain ⟨LA, lc, rfl, -⟩ : ∃ A c, u4 = Value.slice A st.length c ∧ True := by
              obtain ⟨-, ⟨rfl, h0⟩ | ⟨g, c, cur, h1, -⟩⟩ := hug.row
              · exact ⟨none, 0, by rw [h0], trivial⟩
              · exact ⟨_, c, h1, trivial⟩
            have cp := hug.uk.cell
            by_cases h0 : s.wait.length = 0
            · have hres := hus.none (hug.ui.empty (List.length_eq_zero_iff.1 h0))
              have hrw := own_row (show wr.ownsRow w.heap.size 3 1 wv (s.wait.map (Value.int .i64)).length (s.wait.map (Value.int .i64)) by rw [List.length_map]; exact hug.us.rwait)
              rw [List.length_map] at hrw
              obtain ⟨WA, wc, rfl, -⟩ := hrw
              have c5 : wr.cell? ⟨U, 5, none⟩ = some (.slice WA s.wait.length wc) := hug.us.blk.cell 5
              rw [h0] at c5
              have HR := Lib.hid hres
              have HUG := Lib.hid hug
              clear hres hug hus HS
              go_wp2
              go_ret3
              rw [HR.out]
              exact ⟨_, rfl, HUG.out.row, HUG.out.uk.ext⟩
            · obtain ⟨wg, wc, rfl, hhp⟩ := hug.hp (by omega)
              have c5 : wr.cell? ⟨U, 5, none⟩ = some (.slice (some ⟨wg, 0, none⟩) s.wait.length wc) := hug.us.blk.cell 5
              have hwl : s.wait.length ≤ 40000 := by have := hug.todo; unfold todo at this; omega
              have HPO := Lib.hid ((heapPop_any U 5 81 _ wg wc s.wait wr hhp (by omega) (by omega) hug.us.heap).mono fun e w' hp => hug.pop hp)
              have h0' : (0 : Int) < (s.wait.length : Int) := by omega
              have HUS2 := Lib.hid hus
              clear hug hhp hus HS
              go_upto_region 23 with (go_at_call 70; refine HPO.out.mono ?_; rintro e w5 ⟨i, rfl, ys, wv', t', ht', hpo, hug⟩; have hta := ta_int (i : Int); have HPP := Lib.hid hpo; have HUG := Lib.hid hug; have HT := Lib.hid ht'; clear hug hpo ht')
              have hif := HPP.out.lt
              have hiv : i < vs.length := by rw [K4.out]; exact hif
              have cp5 := HUG.out.uk.cell
              obtain ⟨gh, ch, rfl, hch⟩ := HUG.out.held hif HPP.out.rest.heldL
              have c53 : w5.cell? ⟨U, 3, none⟩ = some (.slice (some ⟨gh, 0, none⟩) f.length ch) := HUG.out.us.blk.cell 3
              have hif' : (i : Int) < (f.length : Int) := by omega
              by_cases hh : s.held.getD i false = true
              · rw [hh] at hch
                have HN := Lib.hid (HPP.out.skip hh)
                clear hh
                go_wp2
                go_roundg t'
                case measure => have := HT.out; omega
                case rel => exact ⟨by have := HT.out; omega, st, asg, HUS2.out, _, _, _, _, _, _, ⟨HUG.out.us, HN.out, HUG.out.todo, HUG.out.uk, HUG.out.row, HUG.out.rowl, HUG.out.lpu⟩⟩
              · have hh' : s.held.getD i false = false := by simpa using hh
                rw [hh'] at hch
                obtain ⟨gl, cl, rfl, hcl⟩ := HUG.out.left hif HPP.out.rest.leftL
                have c52 : w5.cell? ⟨U, 2, none⟩ = some (.slice (some ⟨gl, 0, none⟩) f.length cl) := HUG.out.us.blk.cell 2
                have hlf : s.left.getD i 0 = ((openL asg f[i]).length : Int) := HPP.out.rest.left i hif
                have hhf : f[i].any asg.contains = false := by
                  have : s.held.getD i false = f[i].any asg.contains := HPP.out.rest.held i hif
                  rw [← this]; exact hh'
                have HD := Lib.hid (HPP.out.dec hh')
                have hle := HPP.out.left
                rw [hlf] at hcl hle
                have HHF := Lib.hid hhf
                clear hh hh' hlf hhf
                by_cases hno : (openL asg f[i]).length = 0
                · have HR := Lib.hid (HUS2.out.conf HD.out hif (List.length_eq_zero_iff.1 hno))
                  rw [hno] at hcl
                  clear hle
                  go_wp2
                  go_ret3
                  rw [HR.out]
                  exact ⟨_, rfl, HUG.out.row, HUG.out.uk.ext⟩
                · obtain ⟨x, r, hor⟩ : ∃ x r, openL asg f[i] = x :: r := by
                    cases hq : openL asg f[i] with
                    | nil => rw [hq] at hno; simp at hno
                    | cons x r => exact ⟨x, r, rfl⟩
                  have hlone : (((openL asg f[i]).length : Int) == 0) = false := by rw [beq_eq_false_iff_ne]; omega
                  have HOR := Lib.hid hor
                  clear hor hle
                  go_upto_region 26 with fail
                  have hE5 := HUG.out.uk.ext
                  obtain ⟨ad, rfl, hvk0⟩ := K3.out i hiv
                  obtain ⟨CA, cc, hve, hcc1, hcc2, hcrow0⟩ := K5.out i hiv hif
                  rw [hve] at hvk0
                  have HRD := Lib.hid (fun (w' : World) (he : Ext w w') => (show w'.cell? (ad.add i) = some (.slice CA f[i].length cc) ∧ Row w' CA (f[i].map (Value.int .i64)) from ⟨he.cell hvk0, hcrow0.ext he⟩))
                  obtain ⟨hvk, hcrow⟩ := HRD.out _ hE5
                  have hsl := HUS2.out.len
                  have HX0 := Lib.hid (show x ∈ f[i] from (List.mem_filter.1 (show x ∈ openL asg f[i] by rw [HOR.out]; simp)).1)
                  have HX1 := Lib.hid (show -x ∉ asg from by
                    have := (List.mem_filter.1 (show x ∈ openL asg f[i] by rw [HOR.out]; simp)).2
                    simpa using this)
                  have hasc := (mayB_iff _).1 (mayCnfB_get HF.out i hif)
                  have hnotin : ∀ y ∈ f[i], y ∉ asg := fun y hy hm => by
                    have := List.any_eq_false.1 HHF.out y hy
                    simp [hm] at this
                  have hp : ∀ j (hj : j < f[i].length), (s.val (varOf (f[i].getD j 0))).isNone = !asg.contains (-f[i][j]) := fun j hj => by
                    have hm := List.getElem_mem hj
                    rw [show f[i].getD j 0 = f[i][j] by simp [hj]]
                    exact HPP.out.rest.isNone (hnotin _ hm) (by have := hasc.2 _ hm; omega)
                  have hix := indexFuncI 72 #[.pointer (some ⟨pu, 0, none⟩)] fv_units1 CA cc (f[i].map (Value.int .i64)) (by rw [List.length_map]; exact hcc2) (fun j => (s.val (varOf (f[i].getD j 0))).isNone) (fun _ w' => Ext w5 w') w5
                    (fun _ w' hw => hcrow.ext hw)
                    (fun j hj w' hw => by
                      have hj' : j < f[i].length := by simpa using hj
                      have h6 := HUG.out.ext hw
                      have hg : f[i].getD j 0 = f[i][j] := by simp [hj']
                      have := units_fn pu U mv _ _ _ _ _ s.val f[i][j] (k64 _ (List.getElem_mem hif) _ (List.getElem_mem hj')) w' h6.uk.cell h6.us.blk h6.us.mval (HPP.out.rest.valV HUS2.out.var _)
                      rw [List.getElem_map]
                      refine this.mono ?_
                      rintro e w'' ⟨rfl, n, rfl⟩
                      exact ⟨by rw [hg], hw.trans (Ext.drewN _ _)⟩)
                    (Ext.refl _)
                  rw [List.length_map] at hix
                  have HIX := Lib.hid (hix.mono fun e w6 (hq : PostIdx _ _ _ e w6) => by
                    obtain ⟨r', he, hq⟩ := hq
                    have h1 : IdxOf (fun j => (s.val (varOf (f[i].getD j 0))).isNone) f[i].length r' ∧ Ext w5 w6 := by
                      rcases hq with ⟨k, h1, h2, h3, h4, h5⟩ | ⟨h1, h2, h3⟩
                      · exact ⟨.inl ⟨k, h1, h2, h3, h4⟩, h5⟩
                      · exact ⟨.inr ⟨h1, h2⟩, h3⟩
                    obtain ⟨k, hk, hr', hx⟩ := idx_open hp HOR.out h1.1
                    exact (show ∃ k : Nat, ∃ hk : k < f[i].length, e = .returned (.int .i64 k) ∧ f[i][k] = x ∧ Ext w5 w6 from ⟨k, hk, by rw [he, hr'], hx, h1.2⟩))
                  have HCR := Lib.hid hcrow
                  have HVK := Lib.hid hvk
                  have HX2 := Lib.hid (hnotin x HX0.out)
                  have HX3 := Lib.hid (show varOf x ≠ 0 from by have := hasc.2 _ HX0.out; omega)
                  clear hix hp hnotin hasc hcrow hve hE5 hvk0 hcrow0
                  obtain ⟨j1, hj1, hy10, hy11, hy12⟩ := info_parts info_step
                  have HJ1 := Lib.hid hj1
                  have HY10 := Lib.hid hy10
                  have HY11 := Lib.hid hy11
                  have HY12 := Lib.hid hy12
                  have hfl2 := mayCnfB_len HF.out
                  clear hj1 hy10 hy11 hy12
                  go_upto_region 28 with (first
                    | (go_at_call 71; refine HIX.out.mono ?_; rintro e w6 ⟨k, hk, rfl, hx, hE6⟩; have HX := Lib.hid hx; have HE6 := Lib.hid hE6; have hvk6 := hE6.cell HVK.out; obtain ⟨ac, rfl, hxc⟩ := (HCR.out.ext hE6).int k hk; rw [hx] at hxc; clear hx hE6)
                    | ((with_reducible refine at_dst 140 rfl ?_)
                       have hsz6 := huk0 (HUG.out.ext HE6.out).uk
                       refine wpList_append_lies _ rfl (.tmp 129) (.tmp 139) 48 rfl w.heap.size 55 j1 (.agg #[.int .i64 0, .int .i64 0]) 2 16 Tryd.underlying48 HJ1.out HY10.out HY11.out HY12.out rfl (by decide) (.slice LA st.length lc) st.length (stepsV st) rfl ?c1 ⟨w6.heap.size, 0, none⟩ 1 1 [.int .i64 x, .int .i64 i] rfl rfl ?c2 (by simp [Value.oneCell']) (by omega) (by unfold maxLen; omega) (by omega) (by simp; omega) (w6.heap.size + 1) (by simp) ?_
                       case c1 => exact own_ext (HUG.out.ext HE6.out).row (Ext.alloc w6 _)
                       case c2 => exact World.news_of_block (heap_alloc_new w6 _)
                       intro g cap w7 hown hgrow hat hlt
                       have HUG7 := Lib.hid ((HUG.out.ext HE6.out).snoc x i hown (((Ext.alloc w6 _).chg _).trans (grown_chg hgrow)) (hat.imp id fun h => by omega))
                       clear hown hgrow hat hlt hsz6))
                  have cp7 := HUG7.out.uk.cell
                  obtain ⟨hvk7, hcr7⟩ := HRD.out _ HUG7.out.uk.ext
                  obtain ⟨ac', hac, hxc7⟩ := hcr7.int k hk
                  cases hac
                  rw [HX.out] at hxc7
                  have HC := Lib.hid ((HUG7.out.ext (Ext.drew w7)).set_any HF.out x HX3.out HX2.out HX1.out HUS2.out.var (fun j hj => by cases hj; rw [getD_of f i hif]; exact HX0.out) (by have := HT.out; omega))
                  clear hcr7
                  have HUS8 := Lib.hid (HUS2.out.step HD.out hif HOR.out HHF.out HX3.out)
                  go_still_tail 8, (by kernel_rfl)
                  change wpList _ _ _ _ _ w7.drew
                  go_wp2_with (go_at_call 69; refine HC.out.mono ?_; rintro e w8 ⟨rfl, hup⟩; have HUP8 := Lib.hid hup; clear hup)
                  go_roundg t'
                  case measure => have := HT.out; omega
                  case rel => exact ⟨by have := HT.out; omega, st ++ [(x, (i : Int))], asg ++ [x], HUS8.out, HUP8.out⟩

/-- What Units returns: the steps, the clause that is false, the error. -/
def UnitsV (f : List (List Int)) (xs : List Int) : List (Int × Int) × Int × Int :=
  if mayB xs = true ∧ mayCnfB f = true then ((unitsL f (f.length + 1) xs).1, (unitsL f (f.length + 1) xs).2, 0) else ([], -1, 2)

theorem Units_any (f : List (List Int)) (xs : List Int) (v u : Value) (w : World) (h64 : All64 xs) (k64 : All64L f) (hr : RI w v xs) (kr : RLL w u f) (ht : f.length ≤ 20000 → total f ≤ 9223372036854775807) :
    Calls Tryd.prog 34 #[u, v] w (PostUnits w (UnitsV f xs).1 (UnitsV f xs).2.1 (UnitsV f xs).2.2) := by
  unfold UnitsV
  split
  · rename_i h
    exact units_good f xs v u w h64 k64 hr kr ht h.1 h.2
  · rename_i h
    refine units_arg f xs v u w h64 k64 hr kr ht ?_
    cases h1 : mayB xs
    · exact .inl rfl
    · cases h2 : mayCnfB f
      · exact .inr rfl
      · exact absurd ⟨h1, h2⟩ h

end Go.Proofs.YteokoaggkpjdeaaDoor
namespace Go.Proofs.YteokoaggkpjdeaaDoor
open Go.RowKit

def manyB (xs : List Int) : Bool := decide (xs.length ≤ 64) && mayB xs && xs.all fun x => decide (0 ≤ x)

theorem fv_many1 : Fv Tryd.prog 83 := ⟨_, Tryd.func83, by kernel_rfl, by kernel_rfl⟩
set_option maxHeartbeats 400000 in
theorem many1_fn (x : Int) (w : World) : Calls Tryd.prog 83 #[.int .i64 x] w fun e w' => e = .returned (.bool (decide (x < 0))) ∧ w' = w := by
  go_enter Tryd.func83, Tryd.ntmps83
  go_wp2
  go_ret
  exact ⟨rfl, rfl⟩

theorem idx_cont {p : Nat → Bool} {n : Nat} {r : Int} (h : IdxOf p n r) : decide (0 ≤ r) = (List.range n).any p := by
  rcases h with ⟨k, hk, hp, hb, rfl⟩ | ⟨hno, rfl⟩
  · have : (List.range n).any p = true := List.any_eq_true.2 ⟨k, by simpa using hk, hp⟩
    rw [this]; simp
  · have : (List.range n).any p = false := List.any_eq_false.2 fun k hk => by rw [hno k (by simpa using hk)]; simp
    rw [this]; rfl

theorem range_any_get (xs : List Int) (q : Int → Bool) : (List.range xs.length).any (fun j => q (xs.getD j 0)) = xs.any q := by
  rw [Bool.eq_iff_iff, List.any_eq_true, List.any_eq_true]
  constructor
  · rintro ⟨k, hk, hq⟩
    have hk' : k < xs.length := by simpa using hk
    exact ⟨xs[k], List.getElem_mem hk', by simpa [hk'] using hq⟩
  · rintro ⟨x, hx, hq⟩
    obtain ⟨k, hk, rfl⟩ := List.mem_iff_getElem.1 hx
    exact ⟨k, by simpa using hk, by simpa [hk] using hq⟩

set_option maxHeartbeats 1000000 in
theorem many_any (xs : List Int) (v : Value) (w : World) (h64 : All64 xs) (hr : RI w v xs) : Calls Tryd.prog 53 #[v] w fun e w' => e = .returned (.bool (manyB xs)) ∧ w = w' := by
  have HL := Lib.hid (may_any _ xs _ hr h64)
  obtain ⟨A, c, rfl, h1, h2, h3⟩ := hr
  have hix := containsFuncI 83 #[] fv_many1 A c (xs.map (Value.int .i64)) (by rw [List.length_map]; exact h2) (fun j => decide (xs.getD j 0 < 0)) (fun _ w' => w' = w) w
    (fun _ w' hw => hw ▸ h3)
    (fun j hj w' hw => by
      subst hw
      have hj' : j < xs.length := by simpa using hj
      rw [List.getElem_map, show xs[j] = xs.getD j 0 by simp [hj']]
      exact many1_fn (xs.getD j 0) w')
    rfl
  rw [List.length_map] at hix
  have HIX := Lib.hid (hix.mono fun e w' (hq : PostCont _ _ _ e w') => by
    obtain ⟨r', he, hq⟩ := hq
    have h1 : IdxOf (fun j => decide (xs.getD j 0 < 0)) xs.length r' ∧ w' = w := by
      rcases hq with ⟨k, h1, h2, h3, h4, h5⟩ | ⟨h1, h2, h3⟩
      · exact ⟨.inl ⟨k, h1, h2, h3, h4⟩, h5⟩
      · exact ⟨.inr ⟨h1, h2⟩, h3⟩
    have := (idx_cont h1.1).trans (range_any_get xs fun x => decide (x < 0))
    exact (show e = .returned (.bool (xs.any fun x => decide (x < 0))) ∧ w = w' from ⟨by rw [he, this], h1.2.symm⟩))
  clear hix h3
  by_cases hl : xs.length ≤ 64
  · have hl' : decide ((xs.length : Int) ≤ 64) = true := decide_eq_true (by omega)
    have HLL := Lib.hid hl
    have hll : (xs.length : Int) ≤ 64 := by omega
    cases hm : mayB xs
    · rw [hm] at HL
      have HM := Lib.hid hm
      clear hm
      go_enter Tryd.func53, Tryd.ntmps53
      go_wp2_with (go_at_call 43; refine HL.out.mono ?_; rintro e w' ⟨rfl, rfl⟩)
      go_ret
      exact ⟨ret_bool (by unfold manyB; rw [HM.out]; simp), rfl⟩
    · rw [hm] at HL
      have HM := Lib.hid hm
      clear hm
      go_enter Tryd.func53, Tryd.ntmps53
      go_wp2_with (first
        | (go_at_call 43; refine HL.out.mono ?_; rintro e w' ⟨rfl, rfl⟩)
        | (go_at_call 82; refine HIX.out.mono ?_; rintro e w' ⟨rfl, rfl⟩))
      go_ret
      exact ⟨ret_bool (by unfold manyB; rw [HM.out, decide_eq_true HLL.out, Bool.eq_iff_iff]; simp), rfl⟩
  · have hll : ¬ (xs.length : Int) ≤ 64 := by omega
    have HLL := Lib.hid hl
    go_enter Tryd.func53, Tryd.ntmps53
    go_wp2
    go_ret
    exact ⟨ret_bool (by unfold manyB; rw [decide_eq_false HLL.out]; simp), rfl⟩

theorem many_len {xs : List Int} (h : manyB xs = true) : xs.length ≤ 64 := by
  unfold manyB at h
  simp only [Bool.and_eq_true, decide_eq_true_eq] at h
  exact h.1.1

/-- The value of a variable in point n. -/
def bitOf (n : Int) (i : Nat) : Int := Go.bits .and .u64 (n / 2 ^ min i 64) 1
def pointP (n : Int) (k : Nat) (xs : List Int) : List Int := xs.mapIdx fun i x => if i < k ∧ bitOf n i = 0 then -x else x
def pointL (n : Int) (xs : List Int) : List Int := pointP n xs.length xs

theorem pointP_len (n : Int) (k : Nat) (xs : List Int) : (pointP n k xs).length = xs.length := by simp [pointP]
theorem pointP_get (n : Int) (k : Nat) (xs : List Int) (i : Nat) (hi : i < xs.length) : (pointP n k xs)[i]'(by rw [pointP_len]; exact hi) = if i < k ∧ bitOf n i = 0 then -xs[i] else xs[i] := by simp [pointP]
theorem pointP_zero (n : Int) (xs : List Int) : pointP n 0 xs = xs := by
  refine List.ext_getElem (pointP_len ..) fun i h1 h2 => ?_
  rw [pointP_get n 0 xs i h2, if_neg (by omega)]
theorem pointP_neg (n : Int) (k : Nat) (xs : List Int) (hk : k < xs.length) (hb : bitOf n k = 0) : pointP n (k + 1) xs = (pointP n k xs).set k (-xs[k]) := by
  refine List.ext_getElem (by simp [pointP_len]) fun i h1 h2 => ?_
  have hi : i < xs.length := by rw [pointP_len] at h1; exact h1
  rw [pointP_get n (k + 1) xs i hi, List.getElem_set]
  by_cases e : k = i
  · subst e; rw [if_pos ⟨by omega, hb⟩, if_pos rfl]
  · rw [if_neg e, pointP_get n k xs i hi]
    by_cases hl : i < k
    · simp [hl, show i < k + 1 by omega]
    · simp [hl, show ¬ i < k + 1 by omega]
theorem pointP_pos (n : Int) (k : Nat) (xs : List Int) (hb : bitOf n k ≠ 0) : pointP n (k + 1) xs = pointP n k xs := by
  refine List.ext_getElem (by simp [pointP_len]) fun i h1 h2 => ?_
  have hi : i < xs.length := by rw [pointP_len] at h1; exact h1
  rw [pointP_get n (k + 1) xs i hi, pointP_get n k xs i hi]
  by_cases e : k = i
  · subst e; simp [hb]
  · by_cases hl : i < k
    · simp [hl, show i < k + 1 by omega]
    · simp [hl, show ¬ i < k + 1 by omega]

theorem many_get {xs : List Int} (h : manyB xs = true) (k : Nat) (hk : k < xs.length) : 0 < xs[k] ∧ xs[k] ≤ 65536 := by
  unfold manyB at h
  simp only [Bool.and_eq_true, List.all_eq_true, decide_eq_true_eq] at h
  have h1 := h.2 _ (List.getElem_mem hk)
  have h2 := ((mayB_iff _).1 h.1.2).2 _ (List.getElem_mem hk)
  have h3 := varOf_range xs[k]
  have h4 := varOf_eq (n := xs[k]) (by omega)
  omega

set_option maxHeartbeats 1000000 in
theorem point_good (xs : List Int) (n : Int) (v : Value) (w : World) (h64 : All64 xs) (hr : RI w v xs) (hm : manyB xs = true) (hn : n / 2 ^ xs.length = 0) :
    Calls Tryd.prog 19 #[v, .int .u64 n] w fun e w' => ∃ v', e = .returned (.tuple #[v', .int .i64 0]) ∧ OwnI w' w.heap.size v' (pointL n xs) ∧ Ext w w' := by
  have HL := Lib.hid (many_any xs v w h64 hr)
  rw [hm] at HL
  have HM := Lib.hid hm
  have hml := many_len hm
  have HC := Lib.hid (cloneI_any v xs w hr (by omega))
  have hns : ¬ 0 < n / 2 ^ xs.length := by rw [hn]; omega
  obtain ⟨A, c, rfl, h1, h2, h3⟩ := hr
  clear hm h3 hn
  go_enter Tryd.func19, Tryd.ntmps19
  go_wp2_with (first
    | (go_at_call 53; refine HL.out.mono ?_; rintro e w' ⟨rfl, rfl⟩)
    | (go_at_call 13; refine HC.out.mono ?_; rintro e w1 ⟨v', rfl, hown, hE⟩; obtain ⟨OA, oc, rfl, ho1, ho2, -⟩ := hown.reads; have HOWN := Lib.hid hown; have HE := Lib.hid hE; clear hown hE))
  go_loopg [22] xs.length (fun gn i wr => ∃ k : Nat, k ≤ xs.length ∧ gn + k = xs.length ∧ i = .int .i64 k ∧ Hid (OwnI wr w.heap.size (.slice OA xs.length oc) (pointP n k xs) ∧ Ext w wr))
  case atStart => exact ⟨0, Nat.zero_le _, by omega, rfl, by rw [pointP_zero]; exact HOWN.out, HE.out⟩
  case round =>
    obtain ⟨k, hk, hgk, rfl, HS⟩ := hrel
    by_cases hlt : k < xs.length
    · obtain ⟨g, c', hv, hBg, hcell, hfree, hset⟩ := own_at (Value.int .i64) HS.out.1 k (by rw [pointP_len]; exact hlt)
      injection hv with e1 e2 e3
      subst e1 e3
      obtain ⟨hx0, hx1⟩ := many_get HM.out k hlt
      rw [pointP_get n k xs k hlt, if_neg (by omega)] at hcell
      have HSET := Lib.hid hset
      have HBG := Lib.hid hBg
      clear e2 hset hBg
      obtain ⟨x, hx⟩ : ∃ x, x = xs[k] := ⟨_, rfl⟩
      rw [← hx] at hcell hx0 hx1
      have HX := Lib.hid hx
      clear hx
      have hkm : min k 64 = k := by omega
      by_cases hb : bitOf n k = 0
      · have hbb : (Go.bits .and .u64 (n / 2 ^ k) 1 == 0) = true := by unfold bitOf at hb; rw [hkm] at hb; rw [hb]; rfl
        have HB := Lib.hid hb
        clear hb hkm
        go_wp2
        go_roundg (xs.length - (k + 1))
        case measure => omega
        case rel =>
          refine ⟨k + 1, by omega, by omega, by go_num, ?_, (Chg.set wr g k _).toExt HS.out.2 (fun i hi => hi ▸ HBG.out)⟩
          rw [pointP_neg n k xs hlt HB.out, ← HX.out]
          unfold OwnI
          rw [List.length_set]
          exact HSET.out (-x)
      · have hbb : (Go.bits .and .u64 (n / 2 ^ k) 1 == 0) = false := by unfold bitOf at hb; rw [hkm] at hb; rw [beq_eq_false_iff_ne]; exact hb
        have HB := Lib.hid hb
        clear hb hkm
        go_wp2
        go_roundg (xs.length - (k + 1))
        case measure => omega
        case rel => exact ⟨k + 1, by omega, by omega, by go_num, by rw [pointP_pos n k xs HB.out]; exact HS.out⟩
    · obtain rfl : k = xs.length := by omega
      go_wp2
      go_ret2
      exact ⟨_, rfl, HS.out.1, HS.out.2⟩

def PointV (n : Int) (xs : List Int) : List Int × Int := if manyB xs = true then (if n / 2 ^ xs.length = 0 then (pointL n xs, 0) else ([], 4)) else ([], 2)

set_option maxHeartbeats 1000000 in
theorem Point_any (xs : List Int) (n : Int) (hn0 : 0 ≤ n) (_hn1 : n < 18446744073709551616) (v : Value) (w : World) (h64 : All64 xs) (hr : RI w v xs) :
    Calls Tryd.prog 19 #[v, .int .u64 n] w fun e w' => ∃ v', e = .returned (.tuple #[v', .int .i64 (PointV n xs).2]) ∧ OwnI w' w.heap.size v' (PointV n xs).1 ∧ Ext w w' := by
  unfold PointV
  have HL := Lib.hid (many_any xs v w h64 hr)
  cases hm : manyB xs
  · rw [hm] at HL
    rw [if_neg (by decide)]
    obtain ⟨A, c, rfl, h1, h2, h3⟩ := hr
    clear hm h3
    go_enter Tryd.func19, Tryd.ntmps19
    go_wp2_with (go_at_call 53; refine HL.out.mono ?_; rintro e w' ⟨rfl, rfl⟩)
    go_ret2
    exact ⟨_, rfl, OwnI.nil _ _, Ext.refl _⟩
  · by_cases hn : n / 2 ^ xs.length = 0
    · rw [if_pos rfl, if_pos hn]
      exact point_good xs n v w h64 hr hm hn
    · rw [if_pos rfl, if_neg hn]
      rw [hm] at HL
      have hml := many_len hm
      have hpos : 0 ≤ n / 2 ^ xs.length := Int.ediv_nonneg hn0 (Int.le_of_lt (Int.pow_pos (by decide)))
      have hns : 0 < n / 2 ^ xs.length := by omega
      obtain ⟨A, c, rfl, h1, h2, h3⟩ := hr
      clear hm h3 hn hpos
      go_enter Tryd.func19, Tryd.ntmps19
      go_wp2_with (go_at_call 53; refine HL.out.mono ?_; rintro e w' ⟨rfl, rfl⟩)
      go_ret2
      exact ⟨_, rfl, OwnI.nil _ _, Ext.refl _⟩

/-! ### Number -/
theorem fv_number1 : Fv Tryd.prog 56 := ⟨_, Tryd.func56, by kernel_rfl, by kernel_rfl⟩
set_option maxHeartbeats 400000 in
theorem number1_fn (y x : Int) (hx : I64 x) (w : World) : Calls Tryd.prog 56 #[.int .i64 y, .int .i64 x] w fun e w' => e = .returned (.bool (y == varOf x)) ∧ w = w' := by
  go_enter Tryd.func56, Tryd.ntmps56
  go_wp2_with (go_at_call 57; refine (var_any x hx _).mono ?_; rintro e w' ⟨rfl, rfl⟩)
  go_ret
  exact ⟨rfl, rfl⟩

/-- EqualFunc over two rows of integers. -/
def eqfB (p : Int → Int → Bool) : List Int → List Int → Bool
  | [], [] => true
  | x :: xs, y :: ys => p x y && eqfB p xs ys
  | _, _ => false
theorem eqfB_iff (p : Int → Int → Bool) : ∀ (xs ys : List Int), eqfB p xs ys = true ↔ xs.length = ys.length ∧ ∀ i (h : i < xs.length) (h' : i < ys.length), p xs[i] ys[i] = true
  | [], [] => by simp [eqfB]
  | [], _ :: _ => by simp [eqfB]
  | _ :: _, [] => by simp [eqfB]
  | x :: xs, y :: ys => by
    unfold eqfB
    rw [Bool.and_eq_true, eqfB_iff p xs ys]
    constructor
    · rintro ⟨h1, h2, h3⟩
      refine ⟨by simp [h2], fun i h h' => ?_⟩
      cases i with
      | zero => exact h1
      | succ i => exact h3 i (by simpa using h) (by simpa using h')
    · rintro ⟨h1, h2⟩
      exact ⟨h2 0 (by simp) (by simp), by simpa using h1, fun i h h' => by have := h2 (i + 1) (by simpa using h) (by simpa using h'); simpa using this⟩

set_option maxHeartbeats 1000000 in
theorem equalFunc_any (f : FuncId) (cap : Array Value) (hf : Fv Tryd.prog f) (p : Int → Int → Bool) (xs ys : List Int) (v u : Value) (w : World) (hr : RI w v xs) (kr : RI w u ys)
    (hcl : ∀ i (h : i < xs.length) (h' : i < ys.length), Calls Tryd.prog f (#[.int .i64 xs[i], .int .i64 ys[i]] ++ cap) w fun e w' => e = .returned (.bool (p xs[i] ys[i])) ∧ w = w') :
    Calls Tryd.prog 55 #[v, u, .func (.func f) #[] cap] w fun e w' => e = .returned (.bool (eqfB p xs ys)) ∧ w = w' := by
  obtain ⟨A, c, rfl, h1, h2, h3⟩ := hr
  obtain ⟨B, d, rfl, k1, k2, k3⟩ := kr
  have H3 := Lib.hid h3
  have K3 := Lib.hid k3
  have HCL := Lib.hid hcl
  clear h3 k3 hcl
  by_cases hl : xs.length = ys.length
  · have HLN := Lib.hid hl
    have hne : ((xs.length : Int) != (ys.length : Int)) = false := by rw [hl]; simp
    clear hl
    go_enter Tryd.func55, Tryd.ntmps55
    go_wp2
    go_loopg [17] xs.length (fun gn i wr => ∃ k : Nat, k ≤ xs.length ∧ gn + k = xs.length ∧ i = .int .i64 k ∧ w = wr ∧ Hid (∀ i (h : i < xs.length) (h' : i < ys.length), i < k → p xs[i] ys[i] = true))
    case atStart => exact ⟨0, Nat.zero_le _, by omega, rfl, rfl, fun i _ _ h => absurd h (Nat.not_lt_zero i)⟩
    case round =>
      obtain ⟨k, hk, hgk, rfl, rfl, HP⟩ := hrel
      by_cases hkx : k < xs.length
      · have hlt : k < ys.length := by have := HLN.out; omega
        obtain ⟨ad, rfl, hx⟩ := H3.out.int k hkx
        obtain ⟨bd, rfl, hy⟩ := K3.out.int k hlt
        cases hp : p xs[k] ys[k]
        · have HC := Lib.hid (HCL.out k hkx hlt)
          rw [hp] at HC
          have HPP := Lib.hid hp
          clear hp
          go_wp2_with (refine wpList_callv (.tmp 26) #[.tmp 27, .tmp 28] _ rfl rfl cap rfl hf (#[.int .i64 xs[k], .int .i64 ys[k]] ++ cap) (by simp only [List.map_toArray, List.map_cons, List.map_nil]; rfl) ?_; refine HC.out.mono ?_; rintro e w' ⟨rfl, rfl⟩; refine ⟨_, rfl, ?_⟩)
          go_ret
          exact ⟨ret_bool (by cases hq : eqfB p xs ys; rfl; exact absurd (((eqfB_iff p xs ys).1 hq).2 k hkx hlt) (by rw [HPP.out]; decide)), rfl⟩
        · have HC := Lib.hid (HCL.out k hkx hlt)
          rw [hp] at HC
          have HPP := Lib.hid hp
          clear hp
          go_wp2_with (refine wpList_callv (.tmp 26) #[.tmp 27, .tmp 28] _ rfl rfl cap rfl hf (#[.int .i64 xs[k], .int .i64 ys[k]] ++ cap) (by simp only [List.map_toArray, List.map_cons, List.map_nil]; rfl) ?_; refine HC.out.mono ?_; rintro e w' ⟨rfl, rfl⟩; refine ⟨_, rfl, ?_⟩)
          go_roundg (xs.length - (k + 1))
          case measure => omega
          case rel => exact ⟨k + 1, by omega, by omega, by go_num, rfl, fun i h h' hi => if e : i = k then by subst e; exact HPP.out else HP.out i h h' (by omega)⟩
      · obtain rfl : k = xs.length := by omega
        go_wp2
        go_ret
        exact ⟨ret_bool ((eqfB_iff p xs ys).2 ⟨HLN.out, fun i h h' => HP.out i h h' h⟩).symm, rfl⟩
  · have HLN := Lib.hid hl
    have hne : ((xs.length : Int) != (ys.length : Int)) = true := by simpa using (show ¬ (xs.length : Int) = (ys.length : Int) by omega)
    clear hl
    go_enter Tryd.func55, Tryd.ntmps55
    go_wp2
    go_ret
    exact ⟨ret_bool (by cases hq : eqfB p xs ys; rfl; exact absurd ((eqfB_iff p xs ys).1 hq).1 HLN.out), rfl⟩

/-- The number of an assignment: bit i is set where the i-th literal is positive. -/
def numL (xs : List Int) : Nat → Int
  | 0 => 0
  | k + 1 => if 0 < xs.getD k 0 then Go.bits .or .u64 (numL xs k) (IntKind.u64.wrap (2 ^ min k 64)) else numL xs k
def NumberV (vs xs : List Int) : Int × Int := if manyB vs = true ∧ mayB xs = true then (if eqfB (fun v x => v == varOf x) vs xs = true then (numL xs xs.length, 0) else (0, 6)) else (0, 2)

set_option maxHeartbeats 1000000 in
theorem Number_any (vs xs : List Int) (v u : Value) (w : World) (h64 : All64 vs) (k64 : All64 xs) (hr : RI w v vs) (kr : RI w u xs) :
    Calls Tryd.prog 21 #[v, u] w fun e w' => e = .returned (.tuple #[.int .u64 (NumberV vs xs).1, .int .i64 (NumberV vs xs).2]) ∧ w = w' := by
  unfold NumberV
  have HL := Lib.hid (many_any vs v w h64 hr)
  have KL := Lib.hid (may_any _ xs _ kr k64)
  have HEF := Lib.hid (equalFunc_any 56 #[] fv_number1 (fun v x => v == varOf x) vs xs v u w hr kr (fun i h h' => number1_fn _ _ (k64 _ (List.getElem_mem h')) w))
  cases hm : manyB vs
  · rw [hm] at HL
    clear hm
    obtain ⟨A, c, rfl, h1, h2, h3⟩ := hr
    obtain ⟨B, d, rfl, k1, k2, k3⟩ := kr
    rw [if_neg (by simp)]
    clear h3 k3
    go_enter Tryd.func21, Tryd.ntmps21
    go_wp2_with (go_at_call 53; refine HL.out.mono ?_; rintro e w' ⟨rfl, rfl⟩)
    go_ret2
    exact ⟨rfl, rfl⟩
  · rw [hm] at HL
    cases km : mayB xs
    · rw [km] at KL
      clear hm km
      obtain ⟨A, c, rfl, h1, h2, h3⟩ := hr
      obtain ⟨B, d, rfl, k1, k2, k3⟩ := kr
      rw [if_neg (by simp)]
      clear h3 k3
      go_enter Tryd.func21, Tryd.ntmps21
      go_wp2_with (first
        | (go_at_call 53; refine HL.out.mono ?_; rintro e w' ⟨rfl, rfl⟩)
        | (go_at_call 43; refine KL.out.mono ?_; rintro e w' ⟨rfl, rfl⟩))
      go_ret2
      exact ⟨rfl, rfl⟩
    · rw [km] at KL
      rw [if_pos ⟨rfl, rfl⟩]
      have hml := many_len hm
      clear hm km
      cases he : eqfB (fun v x => v == varOf x) vs xs
      · rw [he] at HEF
        obtain ⟨A, c, rfl, h1, h2, h3⟩ := hr
        obtain ⟨B, d, rfl, k1, k2, k3⟩ := kr
        rw [if_neg (by simp)]
        clear h3 k3 he
        go_enter Tryd.func21, Tryd.ntmps21
        go_wp2_with (first
          | (go_at_call 53; refine HL.out.mono ?_; rintro e w' ⟨rfl, rfl⟩)
          | (go_at_call 43; refine KL.out.mono ?_; rintro e w' ⟨rfl, rfl⟩)
          | (go_at_call 55; refine HEF.out.mono ?_; rintro e w' ⟨rfl, rfl⟩))
        go_ret2
        exact ⟨rfl, rfl⟩
      · rw [he] at HEF
        have hle := ((eqfB_iff _ _ _).1 he).1
        obtain ⟨A, c, rfl, h1, h2, h3⟩ := hr
        obtain ⟨B, d, rfl, k1, k2, k3⟩ := kr
        rw [if_pos rfl]
        have K3 := Lib.hid k3
        have hxl : xs.length ≤ 64 := by omega
        clear h3 k3 he hle
        go_enter Tryd.func21, Tryd.ntmps21
        go_wp2_with (first
          | (go_at_call 53; refine HL.out.mono ?_; rintro e w' ⟨rfl, rfl⟩)
          | (go_at_call 43; refine KL.out.mono ?_; rintro e w' ⟨rfl, rfl⟩)
          | (go_at_call 55; refine HEF.out.mono ?_; rintro e w' ⟨rfl, rfl⟩))
        go_loopg [6, 25] xs.length (fun gn s i wr => ∃ k : Nat, k ≤ xs.length ∧ gn + k = xs.length ∧ i = .int .i64 k ∧ w = wr ∧ s = .int .u64 (numL xs k))
        case atStart => exact ⟨0, Nat.zero_le _, by omega, rfl, rfl, rfl⟩
        case round =>
          obtain ⟨k, hk, hgk, rfl, rfl, rfl⟩ := hrel
          by_cases hlt : k < xs.length
          · obtain ⟨bd, rfl, hy⟩ := K3.out.int k hlt
            have hg : xs.getD k 0 = xs[k] := by simp [hlt]
            obtain ⟨y, hy'⟩ : ∃ y, y = xs[k] := ⟨_, rfl⟩
            obtain ⟨q, hq⟩ : ∃ q, q = numL xs k := ⟨_, rfl⟩
            rw [← hy'] at hy hg
            rw [← hq]
            have HY := Lib.hid hy'
            have HG := Lib.hid hg
            have HQ := Lib.hid hq
            clear hy' hg hq
            by_cases hpos : 0 < y
            · have hwr : IntKind.u64.wrap (2 ^ min k 64) = IntKind.u64.wrap (2 ^ k) := by rw [show min k 64 = k by omega]
              have HWR := Lib.hid hwr
              have HPOS := Lib.hid hpos
              clear hwr
              go_wp2
              go_roundg (xs.length - (k + 1))
              case measure => omega
              case rel =>
                refine ⟨k + 1, by omega, by omega, by go_num, rfl, ?_⟩
                unfold numL
                rw [HG.out, if_pos HPOS.out, ← HQ.out, HWR.out]
            · have HPOS := Lib.hid hpos
              go_wp2
              go_roundg (xs.length - (k + 1))
              case measure => omega
              case rel =>
                refine ⟨k + 1, by omega, by omega, by go_num, rfl, ?_⟩
                unfold numL
                rw [HG.out, if_neg (by have := HPOS.out; omega), ← HQ.out]
          · obtain rfl : k = xs.length := by omega
            go_wp2
            go_ret2
            exact ⟨rfl, rfl⟩

end Go.Proofs.YteokoaggkpjdeaaDoor
