/- Plain: the unit's state while it is made; a measure that is the least. -/
import Derived.Test.YteokoaggkpjdeaaDoorUnitMath
namespace Go.Proofs.YteokoaggkpjdeaaDoor
open Go.RowKit

/-- The clauses ahead of the n-th in which a literal stands. -/
def atN (f : List (List Int)) (n : Nat) (x : Int) : List Int := ((List.range n).filter fun i => (f.getD i []).contains x).map Int.ofNat
theorem atN_full (f : List (List Int)) (x : Int) : atN f f.length x = atF f x := rfl
theorem atN_zero (f : List (List Int)) (x : Int) : atN f 0 x = [] := rfl
theorem atN_succ (f : List (List Int)) (n : Nat) (hn : n < f.length) (x : Int) : atN f (n + 1) x = atN f n x ++ if f[n].contains x then [(n : Int)] else [] := by
  unfold atN
  rw [List.range_succ, List.filter_append, List.map_append]
  congr 1
  rw [List.filter_cons, getD_of f n hn]
  split <;> rfl
theorem atN_len (f : List (List Int)) (n : Nat) (x : Int) : (atN f n x).length ≤ n := by
  unfold atN
  rw [List.length_map]
  exact Nat.le_trans (List.length_filter_le _ _) (by simp)
/-- While the n-th clause is read, its first k literals are done. -/
def atP (f : List (List Int)) (n k : Nat) (x : Int) : List Int := atN f n x ++ if ((f.getD n []).take k).contains x then [(n : Int)] else []
theorem atP_zero (f : List (List Int)) (n : Nat) (x : Int) : atP f n 0 x = atN f n x := by simp [atP]
theorem atP_len (f : List (List Int)) (n k : Nat) (x : Int) : (atP f n k x).length ≤ n + 1 := by
  unfold atP
  have := atN_len f n x
  rw [List.length_append]
  split <;> simp <;> omega
theorem atP_full (f : List (List Int)) (n : Nat) (hn : n < f.length) (x : Int) : atP f n f[n].length x = atN f (n + 1) x := by
  unfold atP
  rw [getD_of f n hn, List.take_length, atN_succ f n hn]
theorem atP_succ {f : List (List Int)} {n k : Nat} (hn : n < f.length) (ha : Asc f[n]) (hk : k < f[n].length) :
    (fun y => if y = f[n][k] then atP f n k f[n][k] ++ [(n : Int)] else atP f n k y) = atP f n (k + 1) := by
  funext y
  unfold atP
  rw [getD_of f n hn, List.take_succ_eq_append_getElem hk]
  by_cases e : y = f[n][k]
  · rw [if_pos e, e]
    have hno : (f[n].take k).contains f[n][k] = false := by
      rw [Bool.eq_false_iff]
      intro hc
      rw [List.contains_iff_mem, List.mem_iff_getElem] at hc
      obtain ⟨j, hj, he⟩ := hc
      rw [List.length_take] at hj
      rw [List.getElem_take] at he
      have := (List.pairwise_iff_getElem.1 ha.1) j k (by omega) hk (by omega)
      rw [he] at this; omega
    have hyes : (f[n].take k ++ [f[n][k]]).contains f[n][k] = true := List.contains_iff_mem.2 (List.mem_append_right _ (List.mem_singleton.2 rfl))
    rw [hno, hyes]; simp
  · rw [if_neg e]
    have : (f[n].take k ++ [f[n][k]]).contains y = (f[n].take k).contains y := by
      rw [Bool.eq_iff_iff, List.contains_iff_mem, List.contains_iff_mem, List.mem_append, List.mem_singleton]
      exact ⟨fun h => h.elim id (fun h => absurd h e), .inl⟩
    rw [this]

/-- The clauses ahead of the n-th that have at most one literal. -/
def shortN (f : List (List Int)) (n : Nat) : List Int := ((List.range n).filter fun i => decide ((f.getD i []).length ≤ 1)).map Int.ofNat
theorem shortN_succ (f : List (List Int)) (n : Nat) (hn : n < f.length) : shortN f (n + 1) = shortN f n ++ if f[n].length ≤ 1 then [(n : Int)] else [] := by
  unfold shortN
  rw [List.range_succ, List.filter_append, List.map_append]
  congr 1
  rw [List.filter_cons, getD_of f n hn]
  by_cases h : f[n].length ≤ 1
  · simp [h]
  · simp [h]
theorem shortN_len (f : List (List Int)) (n : Nat) : (shortN f n).length ≤ n := by
  unfold shortN
  rw [List.length_map]
  exact Nat.le_trans (List.length_filter_le _ _) (by simp)
theorem mem_shortN {f : List (List Int)} {i : Int} : i ∈ shortN f f.length ↔ 0 ≤ i ∧ i < f.length ∧ (f.getD i.toNat []).length ≤ 1 := by
  unfold shortN
  rw [List.mem_map]
  constructor
  · rintro ⟨n, hn, rfl⟩
    rw [List.mem_filter, List.mem_range] at hn
    exact ⟨by simp, by simpa using hn.1, by simpa using hn.2⟩
  · rintro ⟨h0, h1, h2⟩
    refine ⟨i.toNat, ?_, by simp; omega⟩
    rw [List.mem_filter, List.mem_range]
    exact ⟨by omega, by simpa using h2⟩
theorem shortN_nodup (f : List (List Int)) (n : Nat) : (shortN f n).Nodup := by
  unfold shortN
  refine List.Pairwise.map _ (fun a b h e => ?_) (List.Pairwise.filter _ List.nodup_range)
  have e' : (a : Int) = (b : Int) := e
  exact h (by omega)

/-- The unit as it is made, n clauses read. -/
def unit0 (f : List (List Int)) (n : Nat) (wait : List Int) : Unit1 :=
  { val := fun _ => none, left := (f.take n).map fun c => (c.length : Int), held := List.replicate f.length false, at_ := atN f n, wait := wait }

theorem UI.init (f : List (List Int)) (wait : List Int) (hw : wait.Perm (shortN f f.length)) : UI f [] none (unit0 f f.length wait) := by
  have hl : ∀ i (h : i < f.length), (unit0 f f.length wait).left.getD i 0 = (openL [] f[i]).length := fun i h => by
    have : openL [] f[i] = f[i] := by unfold openL; rw [List.filter_eq_self]; intro x _; rfl
    rw [this]
    show ((f.take f.length).map fun c => (c.length : Int)).getD i 0 = _
    rw [List.take_length]
    simp [h]
  refine ⟨by simp, fun v u h => (by cases h), by simp [unit0], hl, by simp [unit0], fun i h => ?_, fun x => rfl, fun i hi => ?_, fun i hi _ hle _ => ?_, (List.Perm.nodup_iff hw).2 (shortN_nodup _ _)⟩
  · show (List.replicate f.length false).getD i false = _
    simp [h]
  · obtain ⟨h0, h1, h2⟩ := mem_shortN.1 (hw.mem_iff.1 hi)
    refine ⟨h0, h1, ?_⟩
    have hi' : i.toNat < f.length := by omega
    rw [getD_of f _ hi'] at h2
    rw [hl _ hi']
    have : openL [] f[i.toNat] = f[i.toNat] := by unfold openL; rw [List.filter_eq_self]; intro x _; rfl
    rw [this]; omega
  · refine hw.mem_iff.2 (mem_shortN.2 ⟨by omega, by omega, ?_⟩)
    rw [hl i hi] at hle
    have : openL [] f[i] = f[i] := by unfold openL; rw [List.filter_eq_self]; intro x _; rfl
    rw [this] at hle
    simp only [Int.toNat_natCast]
    rw [getD_of f i hi]; omega

/-- What is left to do: the clauses that may still wait, and those that do. -/
def todo (s : Unit1) : Nat := s.left.countP (fun x => decide (2 ≤ x)) + s.wait.length

theorem leftStep_todo (s : List Int × List Int) (i : Int) (h0 : 0 ≤ i) (h1 : i < s.1.length) :
    (leftStep s i).1.countP (fun x => decide (2 ≤ x)) + (leftStep s i).2.length ≤ s.1.countP (fun x => decide (2 ≤ x)) + s.2.length := by
  have hi : i.toNat < s.1.length := by omega
  unfold leftStep
  dsimp only
  rw [List.countP_set hi]
  have hg : s.1.getD i.toNat 0 = s.1[i.toNat] := by simp [hi]
  rw [hg]
  have hp : s.1[i.toNat] ≥ 2 → 0 < s.1.countP (fun x => decide (2 ≤ x)) := fun h => List.countP_pos_iff.2 ⟨_, List.getElem_mem hi, by simpa using h⟩
  by_cases h2 : 2 ≤ s.1[i.toNat]
  · have := hp h2
    by_cases h3 : s.1[i.toNat] - 1 = 1
    · simp [h3, show ¬ (2 : Int) ≤ 1 by omega, h2]; omega
    · simp [h3, show (2 : Int) ≤ s.1[i.toNat] - 1 by omega, h2]; omega
  · simp [h2, show ¬ s.1[i.toNat] - 1 = 1 by omega, show ¬ (2 : Int) ≤ s.1[i.toNat] - 1 by omega]

theorem leftS_todo (is : List Int) : ∀ (s : List Int × List Int), (∀ i ∈ is, 0 ≤ i ∧ i < s.1.length) →
    (is.foldl leftStep s).1.countP (fun x => decide (2 ≤ x)) + (is.foldl leftStep s).2.length ≤ s.1.countP (fun x => decide (2 ≤ x)) + s.2.length := by
  induction is with
  | nil => intro s _; exact Nat.le_refl _
  | cons i is ih =>
    intro s hb
    obtain ⟨h0, h1⟩ := hb i (by simp)
    rw [List.foldl_cons]
    refine Nat.le_trans (ih (leftStep s i) fun k hk => by have := hb k (by simp [hk]); simpa [leftStep] using this) (leftStep_todo s i h0 h1)

theorem setU_todo {f : List (List Int)} {asg : List Int} {exc : Option Nat} {s : Unit1} (h : UI f asg exc s) (lit : Int) (wait : List Int) (hw : wait.Perm (s.wait ++ (leftS s.left (s.at_ (-lit))).2)) : todo (setU s lit wait) ≤ todo s := by
  have := leftS_todo (s.at_ (-lit)) (s.left, []) (fun i hi => by
    rw [h.at_, mem_atF] at hi; show 0 ≤ i ∧ i < s.left.length; rw [h.leftL]; exact ⟨hi.1, hi.2.1⟩)
  unfold todo
  have hl := hw.length_eq
  rw [List.length_append] at hl
  show ((leftS s.left (s.at_ (-lit))).1).countP _ + wait.length ≤ _
  rw [hl]
  unfold leftS at *
  simp only [List.length_nil, Nat.add_zero] at this
  omega

theorem UI.wait_len {f : List (List Int)} {asg : List Int} {exc : Option Nat} {s : Unit1} (h : UI f asg exc s) : todo s ≤ f.length + s.wait.length := by
  unfold todo
  have := List.countP_le_length (p := fun x => decide ((2 : Int) ≤ x)) (l := s.left)
  rw [h.leftL] at this
  omega

end Go.Proofs.YteokoaggkpjdeaaDoor
