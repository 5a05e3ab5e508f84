/- Words for the reference's functions as printed: what holds from some number on; how rows are read. What the functions of the reference, as printed, come to. -/
import Derived.Test.YtlompphnngnaiaaGreatDoorWWords
import Derived.Test.YtlompphnngnaiaaGreatDoorWLast
import Derived.Test.YtlompphnngnaiaaGreatDoorWTab
import Derived.Test.YtlompphnngnaiaaGreatDoorWFour
import Derived.Test.YtlompphnngnaiaaGreatDoorWQPut
import Derived.Test.YtlompphnngnaiaaGreatDoorWApart
import Derived.Test.YtlompphnngnaiaaGreatDoorWArr
import Derived.Test.YtlompphnngnaiaaGreatDoorWZeros
import Derived.Test.YtlompphnngnaiaaGreatDoorWFoot
import Derived.Test.YtlompphnngnaiaaGreatDoorWKept
import Derived.Test.YtlompphnngnaiaaGreatDoorWShare
import Derived.Test.YtlompphnngnaiaaGreatDoorWN
import Derived.Test.YtlompphnngnaiaaGreatDoorWFootNe
import Derived.Test.YtlompphnngnaiaaGreatDoorWAt
import Derived.Test.YtlompphnngnaiaaGreatDoorWEqStruct
import Derived.Test.YtlompphnngnaiaaGreatDoorWRepsOne
import Derived.Test.YtlompphnngnaiaaGreatDoorWInv
import Derived.Test.YtlompphnngnaiaaGreatDoorWInvWords
import Derived.Test.YtlompphnngnaiaaGreatDoorWGuard
import Derived.Test.YtlompphnngnaiaaGreatDoorWNEv
import Derived.Test.YtlompphnngnaiaaGreatDoorWMore
import Derived.IntWalk
import Derived.Test.YtlompphnngnaiaaGreatDoorLb
import Derived.Test.YtlompphnngnaiaaGreatDoorPLitsManyx10
import Derived.Test.YtlompphnngnaiaaGreatDoorPLitsManyx11
import Derived.Test.YtlompphnngnaiaaGreatDoorLc
import Derived.Test.YtlompphnngnaiaaGreatDoorLa
namespace Go.Proofs.YtlompphnngnaiaaGreatDoor
open Go.RowKit Go.Proofs.YtlompphnngnaiaaGreatDoorW.PrintWords

/-- From some number on, a function of a number gives v. -/
def Evn {α : Type} (g : Nat → Option α) (v : α) : Prop := ∃ K, ∀ k, K ≤ k → g k = some v
section
variable {α β : Type}
theorem Evn.ret (v : α) : Evn (fun _ => some v) v := ⟨0, fun _ _ => rfl⟩
theorem Evn.of_eq {g : Nat → Option α} {v : α} (h : ∀ k, g k = some v) : Evn g v := ⟨0, fun k _ => h k⟩
theorem Evn.succ {g g' : Nat → Option α} {v : α} (h : ∀ k, g (k + 1) = g' k) (e : Evn g' v) : Evn g v := by
  obtain ⟨K, hK⟩ := e
  refine ⟨K + 1, fun k hk => ?_⟩
  obtain ⟨m, rfl⟩ : ∃ m, k = m + 1 := ⟨k - 1, by omega⟩
  rw [h, hK m (by omega)]
theorem Evn.bind {g : Nat → Option α} {h : Nat → α → Option β} {a : α} {b : β} (e : Evn g a) (e' : Evn (fun k => h k a) b) : Evn (fun k => (g k).bind (h k)) b := by
  obtain ⟨K, hK⟩ := e
  obtain ⟨L, hL⟩ := e'
  refine ⟨K + L, fun k hk => ?_⟩
  dsimp only
  rw [hK k (by omega)]
  exact hL k (by omega)
theorem Evn.pos {c : Prop} [Decidable c] {g h : Nat → Option α} {v : α} (hc : c) (e : Evn g v) : Evn (fun k => if c then g k else h k) v := by
  obtain ⟨K, hK⟩ := e
  exact ⟨K, fun k hk => by dsimp only; rw [if_pos hc]; exact hK k hk⟩
theorem Evn.neg {c : Prop} [Decidable c] {g h : Nat → Option α} {v : α} (hc : ¬ c) (e : Evn h v) : Evn (fun k => if c then g k else h k) v := by
  obtain ⟨K, hK⟩ := e
  exact ⟨K, fun k hk => by dsimp only; rw [if_neg hc]; exact hK k hk⟩
theorem Evn.to {g : Nat → Option α} {v w : α} (e : Evn g v) (h : v = w) : Evn g w := h ▸ e
end

theorem wrap64_nat {i : Nat} (h : (i : Int) + 1 ≤ 9223372036854775807) : wrap64 ((i : Int) + 1) = ((i + 1 : Nat) : Int) := by
  unfold wrap64; omega

theorem dec_cons {α : Type} [DecidableEq α] {x y : α} {xs ys : List α} (h : x = y) : decide (xs = ys) = decide (x :: xs = y :: ys) := by
  subst h
  rw [decide_eq_decide]
  exact ⟨fun h => by rw [h], fun h => by injection h⟩
theorem dec_cons_ne {α : Type} [DecidableEq α] {x y : α} {xs ys : List α} (h : ¬ x = y) : false = decide (x :: xs = y :: ys) := by
  symm
  rw [decide_eq_false_iff_not]
  intro e
  injection e with e _
  exact h e

theorem rd_nat (xs : List Int) (i : Nat) (hi : i < xs.length) : rd xs (i : Int) = xs[i] := by simp [rd, hi]

/-- A row of integers, as the printed words read it. -/
theorem RI.kd {w : World} {v : Value} {xs : List Int} (h : RI w v xs) : ∃ A c, v = .slice A xs.length c ∧ xs.length ≤ c ∧ Kd.C (Kd.int .i64) w A xs.length xs := by
  obtain ⟨A, c, rfl, h1, h2, h3⟩ := h
  refine ⟨A, c, rfl, h1, rfl, h2, fun h0 => ?_⟩
  obtain ⟨ad, rfl, -⟩ := h3.int 0 h0
  refine ⟨ad, rfl, fun j p hp => ?_⟩
  obtain ⟨hj, rfl⟩ := List.getElem?_eq_some_iff.1 hp
  obtain ⟨ad', had, hc⟩ := h3.int j hj
  cases had
  refine ⟨[.int .i64 xs[j]], rfl, rfl, fun i u hu => ?_⟩
  obtain ⟨hi, rfl⟩ := List.getElem?_eq_some_iff.1 hu
  have hi' : i < 1 := hi
  have : i = 0 := by omega
  subst this
  show w.cell? (ad.add (j * 1 + 0)) = _
  rw [Nat.mul_one, Nat.add_zero]; exact hc
theorem kd_RI {w : World} {A : Option Addr} {c : Nat} {xs : List Int} (h : Kd.C (Kd.int .i64) w A xs.length xs) (hc : xs.length ≤ c) : RI w (.slice A xs.length c) xs := by
  obtain ⟨-, h2, h3⟩ := h
  refine ⟨A, c, rfl, hc, h2, fun j hj => ?_⟩
  rw [List.length_map] at hj
  obtain ⟨ad, rfl, hh⟩ := h3 (by omega)
  obtain ⟨cs, h4, h5, h6⟩ := hh j xs[j] (List.getElem?_eq_getElem hj)
  have h5' : cs = [.int .i64 xs[j]] := h5
  have := h6 0 (.int .i64 xs[j]) (by rw [h5']; rfl)
  refine ⟨ad, rfl, ?_⟩
  rw [show (Kd.int .i64).sz = 1 from rfl, Nat.mul_one, Nat.add_zero] at this
  rw [List.getElem_map]; exact this
theorem RLL.kd {w : World} {v : Value} {f : List (List Int)} (h : RLL w v f) : ∃ A c, v = .slice A f.length c ∧ f.length ≤ c ∧ Kd.C (Kd.slice 3 (Kd.int .i64)) w A f.length f := by
  obtain ⟨A, c, vs, rfl, h1, h2, h3, h4, h5⟩ := h
  refine ⟨A, c, by rw [h4], by omega, rfl, by omega, fun h0 => ?_⟩
  obtain ⟨ad, rfl, -⟩ := h3 0 (by omega)
  refine ⟨ad, rfl, fun j p hp => ?_⟩
  obtain ⟨hj, rfl⟩ := List.getElem?_eq_some_iff.1 hp
  obtain ⟨ad', had, hc⟩ := h3 j (by omega)
  cases had
  obtain ⟨A', c', hv, hl, hC⟩ := (h5 j (by omega) hj).kd
  refine ⟨[vs[j]], rfl, ⟨A', c', by rw [hv], hl, hC⟩, fun i u hu => ?_⟩
  obtain ⟨hi, rfl⟩ := List.getElem?_eq_some_iff.1 hu
  have hi' : i < 1 := hi
  have : i = 0 := by omega
  subst this
  show w.cell? (ad.add (j * 1 + 0)) = _
  rw [Nat.mul_one, Nat.add_zero]; exact hc
theorem RI.max {w : World} {v : Value} {xs : List Int} (h : RI w v xs) : xs.length ≤ 9223372036854775807 := by obtain ⟨A, c, h1, h2, h3, h4⟩ := h; exact h3
theorem RLL.max {w : World} {v : Value} {f : List (List Int)} (h : RLL w v f) : f.length ≤ 9223372036854775807 ∧ ∀ j (hj : j < f.length), f[j].length ≤ 9223372036854775807 := by
  obtain ⟨A, c, vs, rfl, h1, h2, h3, h4, h5⟩ := h
  exact ⟨by omega, fun j hj => (h5 j (by omega) hj).max⟩
theorem drawn_ext {w w' : World} (h : Drawn0 w w') : Ext w w' := by
  obtain ⟨⟨n, rfl⟩⟩ := h
  exact Ext.drewN w n
theorem wrap64_id {x : Int} (h0 : -9223372036854775808 ≤ x) (h1 : x ≤ 9223372036854775807) : wrap64 x = x := by unfold wrap64; omega

/-- A row of rows of the reference's own reads. -/
theorem kdC_RLL {w : World} {v : Value} {f : List (List Int)} (h : ∃ A c, v = .slice A f.length c ∧ f.length ≤ c ∧ Kd.C (Kd.slice 3 (Kd.int .i64)) w A f.length f) : RLL w v f := by
  obtain ⟨A, c, rfl, h1, -, h2, h3⟩ := h
  rcases Nat.eq_zero_or_pos f.length with h0 | h0
  · have : f = [] := List.length_eq_zero_iff.1 h0
    subst this
    exact ⟨A, c, [], rfl, Nat.zero_le _, by simp, fun j hj => by simp at hj, rfl, fun j hj => by simp at hj⟩
  · obtain ⟨ad, rfl, hh⟩ := h3 h0
    have hex : ∀ j (hj : j < f.length), ∃ u, w.cell? (ad.add j) = some u ∧ RI w u f[j] := fun j hj => by
      obtain ⟨cs, h4, ⟨A', c', h5, h6, h7⟩, h8⟩ := hh j f[j] (List.getElem?_eq_getElem hj)
      have := h8 0 (.slice A' f[j].length c') (by rw [h5]; rfl)
      have h9 : w.cell? (ad.add (j * 1 + 0)) = some (.slice A' f[j].length c') := this
      rw [Nat.mul_one, Nat.add_zero] at h9
      exact ⟨_, h9, kd_RI h7 h6⟩
    let vs := List.ofFn fun j : Fin f.length => Classical.choose (hex j.1 j.2)
    have hvl : vs.length = f.length := by simp [vs]
    have hvg : ∀ j (hj : j < vs.length) (hj' : j < f.length), w.cell? (ad.add j) = some vs[j] ∧ RI w vs[j] f[j] := fun j hj hj' => by
      have := Classical.choose_spec (hex j hj')
      simp only [vs, List.getElem_ofFn]
      exact this
    refine ⟨some ad, c, vs, by rw [hvl], by omega, by omega, fun j hj => ⟨ad, rfl, (hvg j hj (by omega)).1⟩, hvl, fun j hj hj' => (hvg j hj hj').2⟩

theorem kd_RLL {w : World} {base : Nat} {ok : Nat → Prop} {v : Value} {f : List (List Int)} (h : Kd.S (Kd.slice 3 (Kd.int .i64)) 22 w base ok v f) : RLL w v f := kdC_RLL (Kd.S_reads h)
theorem kdN_RLL {w : World} {base : Nat} {ok : Nat → Prop} {v : Value} {f : List (List Int)} (h : Kd.N (Kd.slice 3 (Kd.int .i64)) 22 w base ok v f) : RLL w v f := kdC_RLL (Kd.N_reads h)
theorem kdR_RI {w : World} {base : Nat} {ok : Nat → Prop} {v : Value} {xs : List Int} (h : Kd.R (Kd.int .i64) 3 w base ok v xs) : RI w v xs := by
  obtain ⟨A, c, rfl, h1, h2⟩ := Kd.R_reads h
  exact kd_RI h2 h1
theorem kdV_RI {w : World} {base : Nat} {ok : Nat → Prop} {v : Value} {xs : List Int} (h : Kd.V (Kd.int .i64) 3 w base ok v xs) : RI w v xs := by
  obtain ⟨A, c, rfl⟩ := Kd.V_slice h
  obtain ⟨h1, h2, h3⟩ := Kd.V_reads' h
  exact kd_RI h3 h2
end Go.Proofs.YtlompphnngnaiaaGreatDoor
namespace Go.Proofs.YtlompphnngnaiaaGreatDoor.PLitsMany
open Go.RowKit Go.Proofs.YtlompphnngnaiaaGreatDoorW.PrintWords

theorem size_f (x : Int) (h : I64 x) : skolemref01_size.f x = some ((x.natAbs : Nat) : Int) := by
  obtain ⟨h0, h1⟩ := h
  unfold skolemref01_size.f
  by_cases hx : x < 0
  · rw [if_pos hx, wrap64_id (x := x + 1) (by omega) (by omega), wrap64_id (by omega) (by omega), IntWalk.u64_in (-(x + 1)) ⟨by omega, by omega⟩, IntWalk.u64_in _ ⟨by omega, by omega⟩]
    congr 1; omega
  · rw [if_neg hx, IntWalk.u64_in _ ⟨by omega, by omega⟩]
    congr 1; omega
theorem literal_f (x : Int) (h : I64 x) : skolemref01_literal.f x = some (decide (varOf x ≠ 0)) := by
  unfold skolemref01_literal.f
  by_cases hx : x = 0
  · subst hx; rfl
  · rw [if_neg hx, size_f x h]
    show some _ = _
    congr 1
    rw [decide_eq_decide]
    unfold varOf
    split <;> omega
theorem Var_f (x : Int) (h : I64 x) : skolemref01_Var.f x = some (varOf x) := by
  unfold skolemref01_Var.f
  rw [literal_f x h]
  show (if decide (varOf x ≠ 0) = true then _ else _) = _
  by_cases hv : varOf x = 0
  · rw [if_neg (by simpa using hv), hv]
  · rw [if_pos (by simpa using hv), size_f x h]
    have := varOf_eq hv
    have := varOf_range x
    show some (wrap64 _) = _
    rw [wrap64_id (by omega) (by omega)]
    congr 1; omega

theorem May_l0 (xs : List Int) (h64 : All64 xs) (hb : xs.length ≤ 9223372036854775807) : ∀ n i, i + n = xs.length → Evn (fun k => skolemref01_May.l0 k xs (i : Int)) (mayFrom (if i = 0 then 0 else varOf (xs.getD (i - 1) 0)) (xs.drop i)) := by
  intro n
  induction n with
  | zero =>
    intro i hi
    refine Evn.succ (g' := fun _ => some true) (fun k => ?_) ((Evn.ret _).to ?_)
    · rw [skolemref01_May.l0, if_neg (by omega)]
    · rw [List.drop_eq_nil_of_le (by omega)]; rfl
  | succ n ih =>
    intro i hi
    have hil : i < xs.length := by omega
    have hm := h64 _ (List.getElem_mem hil)
    have hvr := varOf_range xs[i]
    refine Evn.succ (fun k => by rw [skolemref01_May.l0]) ?_
    refine Evn.pos (by omega) (Evn.pos (by omega) ?_)
    rw [rd_nat xs i hil, wrap64_nat (by omega), List.drop_eq_getElem_cons hil, mayFrom]
    refine Evn.bind (Evn.of_eq fun _ => literal_f _ hm) ?_
    have hnext := ih (i + 1) (by omega)
    rw [if_neg (by omega), show i + 1 - 1 = i by omega, show xs.getD i 0 = xs[i] by simp [hil]] at hnext
    by_cases hv : varOf xs[i] = 0
    · refine Evn.neg (by simpa using hv) ((Evn.ret _).to ?_)
      rw [if_pos]
      split
      · omega
      · have := varOf_range (xs.getD (i - 1) 0); omega
    · refine Evn.pos (by simpa using hv) ?_
      by_cases h0 : i = 0
      · subst h0
        refine Evn.neg (by omega) (hnext.to ?_)
        rw [if_neg (show ¬ varOf xs[0] ≤ (if (0 : Nat) = 0 then (0 : Int) else varOf (xs.getD (0 - 1) 0)) by rw [if_pos rfl]; omega)]
      · have hi1 : i - 1 < xs.length := by omega
        have e1 : wrap64 ((i : Int) - 1) = ((i - 1 : Nat) : Int) := by rw [wrap64_id (by omega) (by omega)]; omega
        have hm1 := h64 _ (List.getElem_mem hi1)
        rw [e1, rd_nat xs (i - 1) hi1, if_neg h0, show xs.getD (i - 1) 0 = xs[i - 1] by simp [hi1]]
        refine Evn.pos (by omega) (Evn.pos (by omega) (Evn.pos (by omega) ?_))
        refine Evn.bind (Evn.of_eq fun _ => Var_f _ hm1) (Evn.bind (Evn.of_eq fun _ => Var_f _ hm) ?_)
        by_cases hle : varOf xs[i] ≤ varOf xs[i - 1]
        · exact Evn.pos (by omega) ((Evn.ret _).to (by rw [if_pos hle]))
        · exact Evn.neg (by omega) (hnext.to (by rw [if_neg hle]))
theorem May_f (xs : List Int) (h64 : All64 xs) (hb : xs.length ≤ 9223372036854775807) : Evn (fun k => skolemref01_May.f k xs) (mayB xs) := by
  unfold skolemref01_May.f
  exact (May_l0 xs h64 hb xs.length 0 (by omega)).to (by rw [if_pos rfl]; rfl)
def mcR (f : List (List Int)) : Nat → Nat → Bool
  | 0, _ => true
  | r + 1, i => decide (i < 20000) && decide (lens f (i + 1) ≤ 200000) && mayB (f.getD i []) && mcR f r (i + 1)
theorem mcR_iff (f : List (List Int)) : ∀ r i, mcR f r i = true ↔ ∀ j, i ≤ j → j < i + r → j < 20000 ∧ lens f (j + 1) ≤ 200000 ∧ mayB (f.getD j []) = true
  | 0, i => by simp [mcR]; intro j h1 h2; omega
  | r + 1, i => by
    rw [mcR, Bool.and_eq_true, Bool.and_eq_true, Bool.and_eq_true, decide_eq_true_eq, decide_eq_true_eq, mcR_iff f r (i + 1)]
    constructor
    · rintro ⟨⟨⟨h1, h2⟩, h3⟩, h4⟩ j h5 h6
      rcases Nat.lt_or_eq_of_le h5 with h7 | h7
      · exact h4 j h7 (by omega)
      · subst h7; exact ⟨h1, h2, h3⟩
    · intro h
      have h0 := h i (Nat.le_refl _) (by omega)
      exact ⟨⟨⟨h0.1, h0.2.1⟩, h0.2.2⟩, fun j h1 h2 => h j (by omega) (by omega)⟩
theorem mcR_full (f : List (List Int)) : mcR f f.length 0 = mayCnfB f := by
  rw [Bool.eq_iff_iff, mcR_iff]
  unfold mayCnfB
  rw [Bool.and_eq_true, decide_eq_true_eq, List.all_eq_true]
  constructor
  · intro h
    refine ⟨?_, fun k hk => ?_⟩
    · rcases Nat.eq_zero_or_pos f.length with h0 | h0
      · omega
      · have := (h (f.length - 1) (by omega) (by omega)).1; omega
    · have hk' : k < f.length := by simpa using hk
      have := h k (by omega) (by omega)
      rw [Bool.and_eq_true, decide_eq_true_eq]
      exact ⟨this.2.1, this.2.2⟩
  · rintro ⟨h1, h2⟩ j _ h4
    have := h2 j (by simpa using h4)
    rw [Bool.and_eq_true, decide_eq_true_eq] at this
    exact ⟨by omega, this.1, this.2⟩

theorem MayCnf_l0 (f : List (List Int)) (h64 : All64L f) (hb : f.length ≤ 9223372036854775807) (ht : total f ≤ 9223372036854775807) :
    ∀ n i, i + n = f.length → Evn (fun k => skolemref01_MayCnf.l0 k f (lens f i : Int) (i : Int)) (mcR f n i) := by
  intro n
  induction n with
  | zero =>
    intro i hi
    exact Evn.succ (g' := fun _ => some true) (fun k => by rw [skolemref01_MayCnf.l0, if_neg (by omega)]) (Evn.ret _)
  | succ n ih =>
    intro i hi
    have hil : i < f.length := by omega
    have hls := lens_succ f i hil
    have hle := lens_le f (i + 1)
    have h1 : rd_L2 f (i : Int) = f[i] := by simp [rd_L2, hil]
    have hfl : f[i].length ≤ 9223372036854775807 := by omega
    refine Evn.succ (fun k => by rw [skolemref01_MayCnf.l0]) ?_
    refine Evn.pos (by omega) (Evn.pos (by omega) ?_)
    have hnext := ih (i + 1) (by omega)
    rw [h1, wrap64_nat (by omega), wrap64_id (by omega) (by omega), show ((lens f i : Nat) : Int) + (f[i].length : Int) = ((lens f (i + 1) : Nat) : Int) by omega, mcR, getD_of f i hil]
    by_cases c1 : i < 20000
    · rw [decide_eq_true c1, Bool.true_and]
      refine Evn.neg (by omega) ?_
      by_cases c2 : lens f (i + 1) ≤ 200000
      · rw [decide_eq_true c2, Bool.true_and]
        refine Evn.neg (by omega) (Evn.bind (May_f f[i] (h64 _ (List.getElem_mem hil)) hfl) ?_)
        by_cases c3 : mayB f[i] = true
        · rw [c3, Bool.true_and]; exact Evn.pos rfl hnext
        · exact Evn.neg c3 ((Evn.ret _).to (by rw [show mayB f[i] = false by simpa using c3]; rfl))
      · exact Evn.pos (by omega) ((Evn.ret _).to (by rw [decide_eq_false c2]; rfl))
    · exact Evn.pos (by omega) ((Evn.ret _).to (by rw [decide_eq_false c1]; rfl))
theorem MayCnf_f (f : List (List Int)) (h64 : All64L f) (hb : f.length ≤ 9223372036854775807) (ht : total f ≤ 9223372036854775807) : Evn (fun k => skolemref01_MayCnf.f k f) (mayCnfB f) := by
  unfold skolemref01_MayCnf.f
  exact (MayCnf_l0 f h64 hb ht f.length 0 (by omega)).to (mcR_full f)
theorem before_f (x y : Int) (hx : I64 x) (hy : I64 y) : skolemref01_before.f x y = some (decide (blt x y)) := by
  unfold skolemref01_before.f
  rw [size_f x hx, size_f y hy]
  simp only [Option.bind_some]
  by_cases h : x.natAbs = y.natAbs
  · rw [if_pos (by omega)]
    congr 1
    rw [decide_eq_decide]
    unfold blt
    constructor
    · intro h1; exact .inr ⟨h, h1⟩
    · rintro (h1 | h1)
      · omega
      · exact h1.2
  · rw [if_neg (by omega)]
    congr 1
    rw [decide_eq_decide]
    unfold blt
    omega
theorem Compare_l0 (xs ys : List Int) (h64 : All64 xs) (k64 : All64 ys) (_hb : xs.length ≤ 9223372036854775807) (kb : ys.length ≤ 9223372036854775807) : ∀ n i, i + n = xs.length → i ≤ ys.length → Evn (fun k => skolemref01_Compare.l0 k xs ys (i : Int)) (cmpL (xs.drop i) (ys.drop i)) := by
  intro n
  induction n with
  | zero =>
    intro i hi hy
    refine Evn.succ (fun k => by rw [skolemref01_Compare.l0]) (Evn.neg (by omega) (Evn.succ (fun k => by rw [skolemref01_Compare.j1]) (Evn.neg (by decide) ?_)))
    rw [List.drop_eq_nil_of_le (show xs.length ≤ i by omega)]
    by_cases h : i < ys.length
    · rw [List.drop_eq_getElem_cons h, cmpL]
      exact Evn.pos (by omega) (Evn.ret _)
    · rw [List.drop_eq_nil_of_le (show ys.length ≤ i by omega), cmpL]
      exact Evn.neg (by omega) (Evn.neg (by omega) (Evn.ret _))
  | succ n ih =>
    intro i hi hy
    have hil : i < xs.length := by omega
    refine Evn.succ (fun k => by rw [skolemref01_Compare.l0]) (Evn.pos (by omega) (Evn.succ (fun k => by rw [skolemref01_Compare.j1]) ?_))
    rw [List.drop_eq_getElem_cons hil]
    by_cases h : i < ys.length
    · rw [decide_eq_true (by omega : (i : Int) < (ys.length : Int)), List.drop_eq_getElem_cons h, cmpL]
      refine Evn.pos rfl (Evn.pos (by omega) (Evn.pos (by omega) (Evn.pos (by omega) ?_)))
      rw [rd_nat xs i hil, rd_nat ys i h, wrap64_nat (by omega)]
      have hx := h64 _ (List.getElem_mem hil)
      have hyy := k64 _ (List.getElem_mem h)
      refine Evn.bind (Evn.of_eq fun _ => before_f _ _ hx hyy) ?_
      unfold ordB
      by_cases h1 : blt xs[i] ys[i]
      · rw [if_pos h1, if_neg (by decide)]
        exact Evn.pos (by simpa using h1) (Evn.ret _)
      · rw [if_neg h1]
        refine Evn.neg (by simpa using h1) (Evn.bind (Evn.of_eq fun _ => before_f _ _ hyy hx) ?_)
        by_cases h2 : blt ys[i] xs[i]
        · rw [if_pos h2, if_neg (by decide)]
          exact Evn.pos (by simpa using h2) (Evn.ret _)
        · rw [if_neg h2, if_pos rfl]
          exact Evn.neg (by simpa using h2) (ih (i + 1) (by omega) (by omega))
    · rw [decide_eq_false (by omega : ¬ (i : Int) < (ys.length : Int)), List.drop_eq_nil_of_le (show ys.length ≤ i by omega), cmpL]
      exact Evn.neg (by decide) (Evn.neg (by omega) (Evn.pos (by omega) (Evn.ret _)))
theorem Compare_f (xs ys : List Int) (h64 : All64 xs) (k64 : All64 ys) (hb : xs.length ≤ 9223372036854775807) (kb : ys.length ≤ 9223372036854775807) : Evn (fun k => skolemref01_Compare.f k xs ys) (cmpL xs ys) := by
  unfold skolemref01_Compare.f
  exact (Compare_l0 xs ys h64 k64 hb kb xs.length 0 (by omega) (by omega)).to (by simp)
end Go.Proofs.YtlompphnngnaiaaGreatDoor.PLitsMany
namespace Go.Proofs.YtlompphnngnaiaaGreatDoor
open Go.RowKit Go.Proofs.YtlompphnngnaiaaGreatDoorW.PrintWords
theorem refMay_any (xs : List Int) (v : Value) (w : World) (h64 : All64 xs) (hr : RI w v xs) : Calls Tryz.prog 16 #[v] w fun e w' => e = .returned (.bool (mayB xs)) ∧ Ext w w' := by
  obtain ⟨K, hK⟩ := PLitsMany.May_f xs h64 hr.max
  obtain ⟨A, c, rfl, h1, h2⟩ := hr.kd
  refine (PLitsMany.skolemref01_May.calls K A c xs _ w h2 h1 (hK K (Nat.le_refl _))).mono ?_
  rintro e w' ⟨rfl, hd⟩
  exact ⟨rfl, drawn_ext hd⟩
theorem refMayCnf_any (f : List (List Int)) (u : Value) (w : World) (k64 : All64L f) (kr : RLL w u f) (ht : total f ≤ 9223372036854775807) : Calls Tryz.prog 44 #[u] w fun e w' => e = .returned (.bool (mayCnfB f)) ∧ Ext w w' := by
  obtain ⟨K, hK⟩ := PLitsMany.MayCnf_f f k64 kr.max.1 ht
  obtain ⟨B, d, rfl, k1, k2⟩ := kr.kd
  refine (PLitsMany.skolemref01_MayCnf.calls K B d f _ w k2 k1 (hK K (Nat.le_refl _))).mono ?_
  rintro e w' ⟨rfl, hd⟩
  exact ⟨rfl, drawn_ext hd⟩

theorem ref_own {w : World} {base : Nat} {v : Value} {xs : List Int} (h : Kd.R (Kd.int .i64) 3 w base (fun _ => True) v xs) : RI w v xs := kdR_RI h
theorem refVar_any (x : Int) (w : World) (hx : I64 x) : Calls Tryz.prog 34 #[.int .i64 x] w fun e w' => e = .returned (.int .i64 (varOf x)) ∧ Ext w w' := by
  refine (PLitsMany.skolemref01_Var.calls x _ w (PLitsMany.Var_f x hx)).mono ?_
  rintro e w' ⟨rfl, hd⟩
  exact ⟨rfl, drawn_ext hd⟩
theorem refCompare_any (xs ys : List Int) (v u : Value) (w : World) (h64 : All64 xs) (k64 : All64 ys) (hr : RI w v xs) (kr : RI w u ys) : Calls Tryz.prog 30 #[v, u] w fun e w' => e = .returned (.int .i64 (cmpL xs ys)) ∧ Ext w w' := by
  obtain ⟨K, hK⟩ := PLitsMany.Compare_f xs ys h64 k64 hr.max kr.max
  obtain ⟨A, c, rfl, h1, h2⟩ := hr.kd
  obtain ⟨B, d, rfl, k1, k2⟩ := kr.kd
  refine (PLitsMany.skolemref01_Compare.calls K A c xs B d ys _ w h2 h1 k2 k1 (hK K (Nat.le_refl _))).mono ?_
  rintro e w' ⟨rfl, hd⟩
  exact ⟨rfl, drawn_ext hd⟩
end Go.Proofs.YtlompphnngnaiaaGreatDoor
