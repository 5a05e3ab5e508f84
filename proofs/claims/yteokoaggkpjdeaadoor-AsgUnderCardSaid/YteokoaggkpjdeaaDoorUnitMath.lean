/- Plain: what a unit's state says of the clauses under the literals that are set. -/
import Derived.Test.YteokoaggkpjdeaaDoorSet
namespace Go.Proofs.YteokoaggkpjdeaaDoor
open Go.RowKit

/-- The literals of a clause that are not false. -/
def openL (asg c : List Int) : List Int := c.filter fun x => !asg.contains (-x)
/-- The clauses in which a literal stands. -/
def atF (f : List (List Int)) (x : Int) : List Int := ((List.range f.length).filter fun i => (f.getD i []).contains x).map Int.ofNat

theorem mem_atF {f : List (List Int)} {x i : Int} : i ∈ atF f x ↔ 0 ≤ i ∧ i < f.length ∧ x ∈ f.getD i.toNat [] := by
  unfold atF
  rw [List.mem_map]
  constructor
  · rintro ⟨n, hn, rfl⟩
    rw [List.mem_filter, List.mem_range] at hn
    exact ⟨by simp, by simpa using hn.1, by simpa using hn.2⟩
  · rintro ⟨h0, h1, h2⟩
    refine ⟨i.toNat, ?_, by simp; omega⟩
    rw [List.mem_filter, List.mem_range]
    exact ⟨by omega, by simpa using h2⟩

theorem atF_nodup (f : List (List Int)) (x : Int) : (atF f x).Nodup := by
  unfold atF
  refine List.Pairwise.map _ (fun a b h e => ?_) (List.Pairwise.filter _ List.nodup_range)
  have e' : (a : Int) = (b : Int) := e
  exact h (by omega)

theorem atF_len (f : List (List Int)) (x : Int) : (atF f x).length ≤ f.length := by
  unfold atF
  rw [List.length_map]
  exact Nat.le_trans (List.length_filter_le _ _) (by simp)

theorem heldS_get (is : List Int) : ∀ (h : List Bool), (∀ i ∈ is, 0 ≤ i ∧ i < h.length) → ∀ j, (heldS h is).getD j false = (h.getD j false || is.contains (j : Int)) := by
  induction is with
  | nil => intro h _ j; simp [heldS]
  | cons i is ih =>
    intro h hb j
    have hb' : ∀ k ∈ is, 0 ≤ k ∧ k < (h.set i.toNat true).length := fun k hk => by
      have := hb k (by simp [hk]); simpa using this
    have h1 := ih (h.set i.toNat true) hb' j
    show (heldS (h.set i.toNat true) is).getD j false = _
    rw [h1]
    obtain ⟨h0, h2⟩ := hb i (by simp)
    by_cases e : (j : Int) = i
    · have e' : i.toNat = j := by omega
      simp [e', show j < h.length by omega, e]
    · have e' : ¬ i.toNat = j := by omega
      simp [List.getElem?_set_ne e', e]

theorem leftS_get' (is : List Int) : ∀ (s : List Int × List Int), is.Nodup → (∀ i ∈ is, 0 ≤ i ∧ i < s.1.length) →
    (∀ j : Nat, (is.foldl leftStep s).1.getD j 0 = s.1.getD j 0 - (if (j : Int) ∈ is then 1 else 0)) ∧ (is.foldl leftStep s).2 = s.2 ++ is.filter fun i => s.1.getD i.toNat 0 - 1 == 1 := by
  induction is with
  | nil => intro s _ _; simp
  | cons i is ih =>
    intro s hn hb
    rw [List.nodup_cons] at hn
    obtain ⟨h0, h2⟩ := hb i (by simp)
    have hi : i.toNat < s.1.length := by omega
    obtain ⟨g1, g2⟩ := ih (leftStep s i) hn.2 (fun k hk => by have := hb k (by simp [hk]); simpa [leftStep] using this)
    rw [List.foldl_cons]
    refine ⟨fun j => ?_, ?_⟩
    · rw [g1 j]
      unfold leftStep
      dsimp only
      by_cases e : (j : Int) = i
      · have e' : i.toNat = j := by omega
        have hj : j < s.1.length := by omega
        have hni : ¬ (j : Int) ∈ is := by rw [e]; exact hn.1
        rw [if_neg hni, if_pos (by rw [e]; simp)]
        simp [e', hj]
      · have e' : ¬ i.toNat = j := by omega
        have hc : ((j : Int) ∈ i :: is) ↔ (j : Int) ∈ is := by simp [e]
        simp only [hc]
        simp [List.getElem?_set_ne e']
    · rw [g2]
      have hf : is.filter (fun k => (leftStep s i).1.getD k.toNat 0 - 1 == 1) = is.filter fun k => s.1.getD k.toNat 0 - 1 == 1 := by
        apply List.filter_congr
        intro k hk
        obtain ⟨k0, k1⟩ := hb k (by simp [hk])
        have hki : k ≠ i := fun e => hn.1 (e ▸ hk)
        have : ¬ i.toNat = k.toNat := by omega
        simp [leftStep, List.getElem?_set_ne this]
      rw [hf, List.filter_cons]
      unfold leftStep
      dsimp only
      by_cases hc : s.1.getD i.toNat 0 - 1 = 1
      · have hb1 : (s.1.getD i.toNat 0 - 1 == 1) = true := by rw [hc]; rfl
        rw [if_pos hc, if_pos hb1, List.append_assoc]; rfl
      · have hb1 : ¬ (s.1.getD i.toNat 0 - 1 == 1) = true := by rw [beq_iff_eq]; exact hc
        rw [if_neg hc, if_neg hb1]

theorem leftS_get (l is : List Int) (hn : is.Nodup) (hb : ∀ i ∈ is, 0 ≤ i ∧ i < l.length) :
    (∀ j : Nat, (leftS l is).1.getD j 0 = l.getD j 0 - (if (j : Int) ∈ is then 1 else 0)) ∧ (leftS l is).2 = is.filter fun i => l.getD i.toNat 0 - 1 == 1 := by
  have := leftS_get' is (l, []) hn hb
  simpa [leftS] using this

/-- The unit knows of the clauses f under the literals asg; what waits may lack exc. -/
structure UI (f : List (List Int)) (asg : List Int) (exc : Option Nat) (s : Unit1) : Prop where
  val1 : ∀ x ∈ asg, s.val (varOf x) = some (.int .i64 x)
  val2 : ∀ v u, s.val v = some u → ∃ x ∈ asg, varOf x = v ∧ u = .int .i64 x
  leftL : s.left.length = f.length
  left : ∀ i (h : i < f.length), s.left.getD i 0 = (openL asg f[i]).length
  heldL : s.held.length = f.length
  held : ∀ i (h : i < f.length), s.held.getD i false = f[i].any asg.contains
  at_ : ∀ x, s.at_ x = atF f x
  wait1 : ∀ i ∈ s.wait, 0 ≤ i ∧ i < f.length ∧ s.left.getD i.toNat 0 ≤ 1
  wait2 : ∀ i, i < f.length → some i ≠ exc → s.left.getD i 0 ≤ 1 → s.held.getD i false = false → (i : Int) ∈ s.wait
  nodup : s.wait.Nodup

theorem asc_count {c : List Int} (hc : Asc c) (x : Int) (hx : x ∈ c) : (c.filter fun y => !(y == x)).length + 1 = c.length := by
  induction c with
  | nil => cases hx
  | cons y c ih =>
    have hp := hc.1
    rw [List.pairwise_cons] at hp
    have hc' : Asc c := ⟨hp.2, fun z hz => hc.2 z (by simp [hz])⟩
    by_cases e : y = x
    · subst e
      have hno : ∀ z ∈ c, z ≠ y := fun z hz e => by have := hp.1 z hz; rw [e] at this; omega
      have hf : c.filter (fun z => !(z == y)) = c := by
        rw [List.filter_eq_self]
        intro z hz
        simpa using hno z hz
      rw [List.filter_cons]
      simp [hf]
    · have hx' : x ∈ c := by
        rcases List.mem_cons.1 hx with h | h
        · exact absurd h.symm e
        · exact h
      have := ih hc' hx'
      rw [List.filter_cons]
      have hye : (!(y == x)) = true := by simpa using e
      rw [if_pos hye, List.length_cons, List.length_cons]
      omega

theorem openL_snoc (asg c : List Int) (lit : Int) : openL (asg ++ [lit]) c = (openL asg c).filter fun y => !(y == -lit) := by
  unfold openL
  rw [List.filter_filter]
  apply List.filter_congr
  intro x _
  have : (x = -lit) ↔ (-x = lit) := by constructor <;> intro h <;> omega
  by_cases h1 : -x = lit
  · have h2 := this.2 h1
    simp [h2]
  · have h2 : ¬ x = -lit := fun h => h1 (this.1 h)
    simp [h1, h2]

theorem Asc.filter {c : List Int} (h : Asc c) (p : Int → Bool) : Asc (c.filter p) := ⟨h.1.filter _, fun x hx => h.2 x (List.mem_filter.1 hx).1⟩

/-- A literal that is open is set. -/
theorem UI.set {f : List (List Int)} {asg : List Int} {exc : Option Nat} {s : Unit1} {lit : Int} {wait : List Int} (h : UI f asg exc s) (hf : mayCnfB f = true) (hv : varOf lit ≠ 0) (hn1 : lit ∉ asg) (hn2 : -lit ∉ asg)
    (hlits : ∀ x ∈ asg, varOf x ≠ 0) (hex : ∀ i, exc = some i → lit ∈ f.getD i []) (hw : wait.Perm (s.wait ++ (leftS s.left (s.at_ (-lit))).2)) : UI f (asg ++ [lit]) none (setU s lit wait) := by
  have hb : ∀ x, ∀ i ∈ atF f x, 0 ≤ i ∧ i < s.left.length := fun x i hi => by
    rw [mem_atF] at hi; rw [h.leftL]; exact ⟨hi.1, hi.2.1⟩
  have hbh : ∀ x, ∀ i ∈ atF f x, 0 ≤ i ∧ i < s.held.length := fun x i hi => by
    rw [mem_atF] at hi; rw [h.heldL]; exact ⟨hi.1, hi.2.1⟩
  obtain ⟨hl1, hl2⟩ := leftS_get s.left (atF f (-lit)) (atF_nodup _ _) (hb _)
  have hh := heldS_get (atF f lit) s.held (hbh _)
  have hat : ∀ (x : Int) (i : Nat) (hi : i < f.length), ((i : Int) ∈ atF f x) ↔ x ∈ f[i] := fun x i hi => by
    rw [mem_atF]; simp [hi]
  have hmay : ∀ i (hi : i < f.length), Asc f[i] := fun i hi => (mayB_iff _).1 (mayCnfB_get hf i hi)
  have hleft : ∀ i (hi : i < f.length), (setU s lit wait).left.getD i 0 = (openL (asg ++ [lit]) f[i]).length := fun i hi => by
    show (leftS s.left (s.at_ (-lit))).1.getD i 0 = _
    rw [h.at_, hl1 i, h.left i hi, openL_snoc]
    by_cases hm : -lit ∈ f[i]
    · rw [if_pos ((hat _ i hi).2 hm)]
      have hin : -lit ∈ openL asg f[i] := by unfold openL; rw [List.mem_filter]; exact ⟨hm, by simpa using hn1⟩
      have := asc_count ((hmay i hi).filter _) (-lit) hin
      unfold openL at *
      omega
    · rw [if_neg (fun hc => hm ((hat _ i hi).1 hc))]
      have : (openL asg f[i]).filter (fun y => !(y == -lit)) = openL asg f[i] := by
        rw [List.filter_eq_self]
        intro y hy
        have : y ≠ -lit := fun e => hm (e ▸ (List.mem_filter.1 hy).1)
        simpa using this
      rw [this]; omega
  have hheld : ∀ i (hi : i < f.length), (setU s lit wait).held.getD i false = f[i].any (asg ++ [lit]).contains := fun i hi => by
    show (heldS s.held (s.at_ lit)).getD i false = _
    rw [h.at_, hh i, h.held i hi, Bool.eq_iff_iff]
    simp only [Bool.or_eq_true, List.any_eq_true, List.contains_iff_mem, List.mem_append, List.mem_singleton, hat lit i hi]
    constructor
    · rintro (⟨x, h1, h2⟩ | h1)
      · exact ⟨x, h1, .inl h2⟩
      · exact ⟨lit, h1, .inr rfl⟩
    · rintro ⟨x, h1, h2 | rfl⟩
      · exact .inl ⟨x, h1, h2⟩
      · exact .inr h1
  have hmono : ∀ i (hi : i < f.length), (setU s lit wait).left.getD i 0 ≤ s.left.getD i 0 := fun i hi => by
    show (leftS s.left (s.at_ (-lit))).1.getD i 0 ≤ _
    rw [h.at_, hl1 i]; split <;> omega
  refine ⟨?_, ?_, ?_, hleft, ?_, hheld, h.at_, ?_, ?_, ?_⟩
  · intro x hx
    show mset s.val (varOf lit) (.int .i64 lit) (varOf x) = _
    unfold mset
    rcases List.mem_append.1 hx with hx1 | hx
    · have hne : ¬ varOf x = varOf lit := fun e => by
        rcases varOf_inj (hlits x hx1) e with e1 | e1
        · exact hn1 (e1 ▸ hx1)
        · exact hn2 (e1 ▸ hx1)
      rw [if_neg hne]; exact h.val1 x hx1
    · have hxl := List.mem_singleton.1 hx
      rw [hxl, if_pos rfl]
  · intro v u hu
    have hu' : mset s.val (varOf lit) (.int .i64 lit) v = some u := hu
    unfold mset at hu'
    by_cases e : v = varOf lit
    · rw [if_pos e] at hu'
      injection hu' with hu'
      exact ⟨lit, by simp, e.symm, hu'.symm⟩
    · rw [if_neg e] at hu'
      obtain ⟨x, hx, h1⟩ := h.val2 v u hu'
      exact ⟨x, by simp [hx], h1⟩
  · show (leftS s.left (s.at_ (-lit))).1.length = _
    rw [leftS_len, h.leftL]
  · show (heldS s.held (s.at_ lit)).length = _
    rw [heldS_len, h.heldL]
  · intro i hi
    have hi' : i ∈ s.wait ++ (leftS s.left (s.at_ (-lit))).2 := hw.mem_iff.1 hi
    rcases List.mem_append.1 hi' with hi' | hi'
    · obtain ⟨h0, h1, h2⟩ := h.wait1 i hi'
      exact ⟨h0, h1, Int.le_trans (hmono _ (by omega)) h2⟩
    · rw [h.at_, hl2, List.mem_filter] at hi'
      obtain ⟨hm, he⟩ := hi'
      obtain ⟨h0, h1, h2⟩ := mem_atF.1 hm
      refine ⟨h0, h1, ?_⟩
      show (leftS s.left (s.at_ (-lit))).1.getD i.toNat 0 ≤ 1
      rw [h.at_, hl1, if_pos (by rwa [Int.toNat_of_nonneg h0])]
      simp at he
      simp
      omega
  · intro i hi _ hle hnh
    refine hw.mem_iff.2 (List.mem_append.2 ?_)
    have hnh' : ((s.held.getD i false) || (atF f lit).contains (i : Int)) = false := by
      have : (heldS s.held (s.at_ lit)).getD i false = false := hnh
      rwa [h.at_, hh i] at this
    rw [Bool.or_eq_false_iff] at hnh'
    by_cases hold : s.left.getD i 0 ≤ 1
    · refine .inl (h.wait2 i hi (fun e => ?_) hold hnh'.1)
      have hlx := hex i e.symm
      have : (i : Int) ∈ atF f lit := mem_atF.2 ⟨by omega, by omega, by simpa using hlx⟩
      have := hnh'.2
      simp_all
    · right
      have hle' : (leftS s.left (s.at_ (-lit))).1.getD i 0 ≤ 1 := hle
      rw [h.at_, hl1] at hle'
      rw [h.at_, hl2, List.mem_filter]
      by_cases hm : (i : Int) ∈ atF f (-lit)
      · rw [if_pos hm] at hle'
        refine ⟨hm, ?_⟩
        simp only [Int.toNat_natCast, beq_iff_eq]
        omega
      · rw [if_neg hm] at hle'; omega
  · refine (List.Perm.nodup_iff hw).2 (List.nodup_append.2 ⟨h.nodup, ?_, ?_⟩)
    · rw [h.at_, hl2]; exact (atF_nodup _ _).filter _
    · intro a ha b hb' e
      subst e
      rw [h.at_, hl2, List.mem_filter] at hb'
      have := (h.wait1 a ha).2.2
      have h2 := hb'.2
      simp at h2 this
      omega

/-- The first clause that is false or unit. -/
def decF (f : List (List Int)) (asg : List Int) : Option Nat := (List.range f.length).find? fun i => !(f.getD i []).any asg.contains && decide ((openL asg (f.getD i [])).length ≤ 1)

/-- The steps of unit propagation from some literals on, and the clause that is false at its end (-1: none). -/
def unitsL (f : List (List Int)) : Nat → List Int → List (Int × Int) × Int
  | 0, _ => ([], -1)
  | k + 1, asg => match decF f asg with
    | none => ([], -1)
    | some i => match openL asg (f.getD i []) with
      | [] => ([], (i : Int))
      | x :: _ => let r := unitsL f k (asg ++ [x]); ((x, (i : Int)) :: r.1, r.2)

theorem decF_some {f : List (List Int)} {asg : List Int} {i : Nat} (hi : i < f.length) (h1 : f[i].any asg.contains = false) (h2 : (openL asg f[i]).length ≤ 1)
    (hn : ∀ j (hj : j < i), f[j].any asg.contains = false → 1 < (openL asg f[j]).length) : decF f asg = some i := by
  unfold decF
  rw [List.find?_range_eq_some]
  refine ⟨?_, by simpa using hi, fun j hj => ?_⟩
  · simp only [getD_of f i hi, h1, h2, decide_true, Bool.not_false, Bool.and_self]
  · have hjl : j < f.length := by omega
    rw [getD_of f j hjl]
    cases hh : f[j].any asg.contains
    · have := hn j hj hh
      simp
      omega
    · simp

theorem decF_none {f : List (List Int)} {asg : List Int} (hn : ∀ j (hj : j < f.length), f[j].any asg.contains = false → 1 < (openL asg f[j]).length) : decF f asg = none := by
  unfold decF
  rw [List.find?_eq_none]
  intro j hj
  have hjl : j < f.length := by simpa using hj
  rw [getD_of f j hjl]
  cases hh : f[j].any asg.contains
  · have := hn j hjl hh
    simp
    omega
  · simp

/-- Nothing waits: nothing decides. -/
theorem UI.empty {f : List (List Int)} {asg : List Int} {s : Unit1} (h : UI f asg none s) (hw : s.wait = []) : decF f asg = none := decF_none fun j hj hh => by
  have hl := h.left j hj
  have hd := h.held j hj
  rw [hh] at hd
  by_cases hle : s.left.getD j 0 ≤ 1
  · have := h.wait2 j hj (by simp) hle hd
    rw [hw] at this
    cases this
  · omega

/-- What is taken from the heap: the least. -/
structure Popped (f : List (List Int)) (asg : List Int) (s : Unit1) (i : Nat) (ys : List Int) : Prop where
  lt : i < f.length
  left : s.left.getD i 0 ≤ 1
  rest : UI f asg (some i) { s with wait := ys }
  before : ∀ j (_ : j < i) (hj : j < f.length), f[j].any asg.contains = false → 1 < (openL asg f[j]).length

theorem UI.popped {f : List (List Int)} {asg : List Int} {s : Unit1} (h : UI f asg none s) {x : Int} {ys : List Int} (hp : s.wait.Perm (x :: ys)) (hm : ∀ y ∈ s.wait, x ≤ y) : ∃ i : Nat, x = i ∧ Popped f asg s i ys := by
  have hx : x ∈ s.wait := hp.mem_iff.2 (by simp)
  obtain ⟨h0, h1, h2⟩ := h.wait1 x hx
  have hnd := (List.Perm.nodup_iff hp).1 h.nodup
  rw [List.nodup_cons] at hnd
  refine ⟨x.toNat, by omega, by omega, h2, ⟨h.val1, h.val2, h.leftL, h.left, h.heldL, h.held, h.at_, fun i hi => h.wait1 i (hp.mem_iff.2 (by simp [hi])), fun i hi he hl hh => ?_, hnd.2⟩, fun j hj hjl hh => ?_⟩
  · have := hp.mem_iff.1 (h.wait2 i hi (by simp) hl hh)
    rcases List.mem_cons.1 this with e | h'
    · exact absurd (by rw [← e]; simp) he
    · exact h'
  · have hl := h.left j hjl
    have hd := h.held j hjl
    rw [hh] at hd
    by_cases hle : s.left.getD j 0 ≤ 1
    · have := hm _ (h.wait2 j hjl (by simp) hle hd)
      omega
    · omega

/-- It is held: nothing is lost. -/
theorem Popped.skip {f : List (List Int)} {asg : List Int} {s : Unit1} {i : Nat} {ys : List Int} (h : Popped f asg s i ys) (hh : s.held.getD i false = true) : UI f asg none { s with wait := ys } := by
  have r := h.rest
  refine ⟨r.val1, r.val2, r.leftL, r.left, r.heldL, r.held, r.at_, r.wait1, fun j hj _ hl hd => ?_, r.nodup⟩
  by_cases e : j = i
  · subst e
    have hd' : s.held.getD j false = false := hd
    rw [hh] at hd'
    cases hd'
  · exact r.wait2 j hj (by simpa using e) hl hd

theorem Popped.dec {f : List (List Int)} {asg : List Int} {s : Unit1} {i : Nat} {ys : List Int} (h : Popped f asg s i ys) (hh : s.held.getD i false = false) : decF f asg = some i := by
  have h1 := h.rest.held i h.lt
  have h2 := h.rest.left i h.lt
  have h3 := h.left
  have hlt := h.lt
  have hh' : (s.held.getD i false) = f[i].any asg.contains := h1
  have h2' : s.left.getD i 0 = ((openL asg (f[i]'h.lt)).length : Int) := h2
  rw [hh] at hh'
  exact decF_some h.lt hh'.symm (by omega) (fun j hj => h.before j hj (by have := h.lt; omega))

end Go.Proofs.YteokoaggkpjdeaaDoor
