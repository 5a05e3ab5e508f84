/- Words for the reference's functions as printed: what holds from some number on; how rows are read. What the functions of the reference, as printed, come to. The walk of the law LitsResolves. -/
import Derived.Test.YtlompphnngnaiaaGreatDoorWWords
import Derived.Test.YtlompphnngnaiaaGreatDoorWLast
import Derived.Test.YtlompphnngnaiaaGreatDoorWTab
import Derived.Test.YtlompphnngnaiaaGreatDoorWFour
import Derived.Test.YtlompphnngnaiaaGreatDoorWQPut
import Derived.Test.YtlompphnngnaiaaGreatDoorWApart
import Derived.Test.YtlompphnngnaiaaGreatDoorWArr
import Derived.Test.YtlompphnngnaiaaGreatDoorWZeros
import Derived.Test.YtlompphnngnaiaaGreatDoorWFoot
import Derived.Test.YtlompphnngnaiaaGreatDoorWKept
import Derived.Test.YtlompphnngnaiaaGreatDoorWShare
import Derived.Test.YtlompphnngnaiaaGreatDoorWN
import Derived.Test.YtlompphnngnaiaaGreatDoorWFootNe
import Derived.Test.YtlompphnngnaiaaGreatDoorWAt
import Derived.Test.YtlompphnngnaiaaGreatDoorWEqStruct
import Derived.Test.YtlompphnngnaiaaGreatDoorWRepsOne
import Derived.Test.YtlompphnngnaiaaGreatDoorWInv
import Derived.Test.YtlompphnngnaiaaGreatDoorWInvWords
import Derived.Test.YtlompphnngnaiaaGreatDoorWGuard
import Derived.Test.YtlompphnngnaiaaGreatDoorWNEv
import Derived.Test.YtlompphnngnaiaaGreatDoorWMore
import Derived.IntWalk
import Derived.Test.YtlompphnngnaiaaGreatDoorLb
import Derived.Test.YtlompphnngnaiaaGreatDoorPLitsOnex10
import Derived.Test.YtlompphnngnaiaaGreatDoorPLitsOnex11
import Derived.Test.YtlompphnngnaiaaGreatDoorLc
import Derived.Test.YtlompphnngnaiaaGreatDoorLa
import Derived.Test.YtlompphnngnaiaaGreatDoorLd
import Derived.Test.YtlompphnngnaiaaGreatDoorLfLitsResolves
namespace Go.Proofs.YtlompphnngnaiaaGreatDoor
open Go.RowKit Go.Proofs.YtlompphnngnaiaaGreatDoorW.PrintWords

/-- From some number on, a function of a number gives v. -/
def Evn {α : Type} (g : Nat → Option α) (v : α) : Prop := ∃ K, ∀ k, K ≤ k → g k = some v
section
variable {α β : Type}
theorem Evn.ret (v : α) : Evn (fun _ => some v) v := ⟨0, fun _ _ => rfl⟩
theorem Evn.of_eq {g : Nat → Option α} {v : α} (h : ∀ k, g k = some v) : Evn g v := ⟨0, fun k _ => h k⟩
theorem Evn.succ {g g' : Nat → Option α} {v : α} (h : ∀ k, g (k + 1) = g' k) (e : Evn g' v) : Evn g v := by
  obtain ⟨K, hK⟩ := e
  refine ⟨K + 1, fun k hk => ?_⟩
  obtain ⟨m, rfl⟩ : ∃ m, k = m + 1 := ⟨k - 1, by omega⟩
  rw [h, hK m (by omega)]
theorem Evn.bind {g : Nat → Option α} {h : Nat → α → Option β} {a : α} {b : β} (e : Evn g a) (e' : Evn (fun k => h k a) b) : Evn (fun k => (g k).bind (h k)) b := by
  obtain ⟨K, hK⟩ := e
  obtain ⟨L, hL⟩ := e'
  refine ⟨K + L, fun k hk => ?_⟩
  dsimp only
  rw [hK k (by omega)]
  exact hL k (by omega)
theorem Evn.pos {c : Prop} [Decidable c] {g h : Nat → Option α} {v : α} (hc : c) (e : Evn g v) : Evn (fun k => if c then g k else h k) v := by
  obtain ⟨K, hK⟩ := e
  exact ⟨K, fun k hk => by dsimp only; rw [if_pos hc]; exact hK k hk⟩
theorem Evn.neg {c : Prop} [Decidable c] {g h : Nat → Option α} {v : α} (hc : ¬ c) (e : Evn h v) : Evn (fun k => if c then g k else h k) v := by
  obtain ⟨K, hK⟩ := e
  exact ⟨K, fun k hk => by dsimp only; rw [if_neg hc]; exact hK k hk⟩
theorem Evn.to {g : Nat → Option α} {v w : α} (e : Evn g v) (h : v = w) : Evn g w := h ▸ e
end

theorem wrap64_nat {i : Nat} (h : (i : Int) + 1 ≤ 9223372036854775807) : wrap64 ((i : Int) + 1) = ((i + 1 : Nat) : Int) := by
  unfold wrap64; omega

theorem dec_cons {α : Type} [DecidableEq α] {x y : α} {xs ys : List α} (h : x = y) : decide (xs = ys) = decide (x :: xs = y :: ys) := by
  subst h
  rw [decide_eq_decide]
  exact ⟨fun h => by rw [h], fun h => by injection h⟩
theorem dec_cons_ne {α : Type} [DecidableEq α] {x y : α} {xs ys : List α} (h : ¬ x = y) : false = decide (x :: xs = y :: ys) := by
  symm
  rw [decide_eq_false_iff_not]
  intro e
  injection e with e _
  exact h e

theorem rd_nat (xs : List Int) (i : Nat) (hi : i < xs.length) : rd xs (i : Int) = xs[i] := by simp [rd, hi]

/-- A row of integers, as the printed words read it. -/
theorem RI.kd {w : World} {v : Value} {xs : List Int} (h : RI w v xs) : ∃ A c, v = .slice A xs.length c ∧ xs.length ≤ c ∧ Kd.C (Kd.int .i64) w A xs.length xs := by
  obtain ⟨A, c, rfl, h1, h2, h3⟩ := h
  refine ⟨A, c, rfl, h1, rfl, h2, fun h0 => ?_⟩
  obtain ⟨ad, rfl, -⟩ := h3.int 0 h0
  refine ⟨ad, rfl, fun j p hp => ?_⟩
  obtain ⟨hj, rfl⟩ := List.getElem?_eq_some_iff.1 hp
  obtain ⟨ad', had, hc⟩ := h3.int j hj
  cases had
  refine ⟨[.int .i64 xs[j]], rfl, rfl, fun i u hu => ?_⟩
  obtain ⟨hi, rfl⟩ := List.getElem?_eq_some_iff.1 hu
  have hi' : i < 1 := hi
  have : i = 0 := by omega
  subst this
  show w.cell? (ad.add (j * 1 + 0)) = _
  rw [Nat.mul_one, Nat.add_zero]; exact hc
theorem kd_RI {w : World} {A : Option Addr} {c : Nat} {xs : List Int} (h : Kd.C (Kd.int .i64) w A xs.length xs) (hc : xs.length ≤ c) : RI w (.slice A xs.length c) xs := by
  obtain ⟨-, h2, h3⟩ := h
  refine ⟨A, c, rfl, hc, h2, fun j hj => ?_⟩
  rw [List.length_map] at hj
  obtain ⟨ad, rfl, hh⟩ := h3 (by omega)
  obtain ⟨cs, h4, h5, h6⟩ := hh j xs[j] (List.getElem?_eq_getElem hj)
  have h5' : cs = [.int .i64 xs[j]] := h5
  have := h6 0 (.int .i64 xs[j]) (by rw [h5']; rfl)
  refine ⟨ad, rfl, ?_⟩
  rw [show (Kd.int .i64).sz = 1 from rfl, Nat.mul_one, Nat.add_zero] at this
  rw [List.getElem_map]; exact this
theorem RLL.kd {w : World} {v : Value} {f : List (List Int)} (h : RLL w v f) : ∃ A c, v = .slice A f.length c ∧ f.length ≤ c ∧ Kd.C (Kd.slice 3 (Kd.int .i64)) w A f.length f := by
  obtain ⟨A, c, vs, rfl, h1, h2, h3, h4, h5⟩ := h
  refine ⟨A, c, by rw [h4], by omega, rfl, by omega, fun h0 => ?_⟩
  obtain ⟨ad, rfl, -⟩ := h3 0 (by omega)
  refine ⟨ad, rfl, fun j p hp => ?_⟩
  obtain ⟨hj, rfl⟩ := List.getElem?_eq_some_iff.1 hp
  obtain ⟨ad', had, hc⟩ := h3 j (by omega)
  cases had
  obtain ⟨A', c', hv, hl, hC⟩ := (h5 j (by omega) hj).kd
  refine ⟨[vs[j]], rfl, ⟨A', c', by rw [hv], hl, hC⟩, fun i u hu => ?_⟩
  obtain ⟨hi, rfl⟩ := List.getElem?_eq_some_iff.1 hu
  have hi' : i < 1 := hi
  have : i = 0 := by omega
  subst this
  show w.cell? (ad.add (j * 1 + 0)) = _
  rw [Nat.mul_one, Nat.add_zero]; exact hc
theorem RI.max {w : World} {v : Value} {xs : List Int} (h : RI w v xs) : xs.length ≤ 9223372036854775807 := by obtain ⟨A, c, h1, h2, h3, h4⟩ := h; exact h3
theorem RLL.max {w : World} {v : Value} {f : List (List Int)} (h : RLL w v f) : f.length ≤ 9223372036854775807 ∧ ∀ j (hj : j < f.length), f[j].length ≤ 9223372036854775807 := by
  obtain ⟨A, c, vs, rfl, h1, h2, h3, h4, h5⟩ := h
  exact ⟨by omega, fun j hj => (h5 j (by omega) hj).max⟩
theorem drawn_ext {w w' : World} (h : Drawn0 w w') : Ext w w' := by
  obtain ⟨⟨n, rfl⟩⟩ := h
  exact Ext.drewN w n
theorem wrap64_id {x : Int} (h0 : -9223372036854775808 ≤ x) (h1 : x ≤ 9223372036854775807) : wrap64 x = x := by unfold wrap64; omega

/-- A row of rows of the reference's own reads. -/
theorem kd_RLL {w : World} {base : Nat} {ok : Nat → Prop} {v : Value} {f : List (List Int)} (h : Kd.S (Kd.slice 3 (Kd.int .i64)) 22 w base ok v f) : RLL w v f := by
  obtain ⟨A, c, rfl, h1, -, h2, h3⟩ := Kd.S_reads h
  rcases Nat.eq_zero_or_pos f.length with h0 | h0
  · have : f = [] := List.length_eq_zero_iff.1 h0
    subst this
    exact ⟨A, c, [], rfl, Nat.zero_le _, by simp, fun j hj => by simp at hj, rfl, fun j hj => by simp at hj⟩
  · obtain ⟨ad, rfl, hh⟩ := h3 h0
    have hex : ∀ j (hj : j < f.length), ∃ u, w.cell? (ad.add j) = some u ∧ RI w u f[j] := fun j hj => by
      obtain ⟨cs, h4, ⟨A', c', h5, h6, h7⟩, h8⟩ := hh j f[j] (List.getElem?_eq_getElem hj)
      have := h8 0 (.slice A' f[j].length c') (by rw [h5]; rfl)
      have h9 : w.cell? (ad.add (j * 1 + 0)) = some (.slice A' f[j].length c') := this
      rw [Nat.mul_one, Nat.add_zero] at h9
      exact ⟨_, h9, kd_RI h7 h6⟩
    let vs := List.ofFn fun j : Fin f.length => Classical.choose (hex j.1 j.2)
    have hvl : vs.length = f.length := by simp [vs]
    have hvg : ∀ j (hj : j < vs.length) (hj' : j < f.length), w.cell? (ad.add j) = some vs[j] ∧ RI w vs[j] f[j] := fun j hj hj' => by
      have := Classical.choose_spec (hex j hj')
      simp only [vs, List.getElem_ofFn]
      exact this
    refine ⟨some ad, c, vs, by rw [hvl], by omega, by omega, fun j hj => ⟨ad, rfl, (hvg j hj (by omega)).1⟩, hvl, fun j hj hj' => (hvg j hj hj').2⟩

theorem kdR_RI {w : World} {base : Nat} {ok : Nat → Prop} {v : Value} {xs : List Int} (h : Kd.R (Kd.int .i64) 3 w base ok v xs) : RI w v xs := by
  obtain ⟨A, c, rfl, h1, h2⟩ := Kd.R_reads h
  exact kd_RI h2 h1
theorem kdV_RI {w : World} {base : Nat} {ok : Nat → Prop} {v : Value} {xs : List Int} (h : Kd.V (Kd.int .i64) 3 w base ok v xs) : RI w v xs := by
  obtain ⟨A, c, rfl⟩ := Kd.V_slice h
  obtain ⟨h1, h2, h3⟩ := Kd.V_reads' h
  exact kd_RI h3 h2
end Go.Proofs.YtlompphnngnaiaaGreatDoor
namespace Go.Proofs.YtlompphnngnaiaaGreatDoor.PLitsOne
open Go.RowKit Go.Proofs.YtlompphnngnaiaaGreatDoorW.PrintWords

theorem size_f (x : Int) (h : I64 x) : skolemref01_size.f x = some ((x.natAbs : Nat) : Int) := by
  obtain ⟨h0, h1⟩ := h
  unfold skolemref01_size.f
  by_cases hx : x < 0
  · rw [if_pos hx, wrap64_id (x := x + 1) (by omega) (by omega), wrap64_id (by omega) (by omega), IntWalk.u64_in (-(x + 1)) ⟨by omega, by omega⟩, IntWalk.u64_in _ ⟨by omega, by omega⟩]
    congr 1; omega
  · rw [if_neg hx, IntWalk.u64_in _ ⟨by omega, by omega⟩]
    congr 1; omega
theorem literal_f (x : Int) (h : I64 x) : skolemref01_literal.f x = some (decide (varOf x ≠ 0)) := by
  unfold skolemref01_literal.f
  by_cases hx : x = 0
  · subst hx; rfl
  · rw [if_neg hx, size_f x h]
    show some _ = _
    congr 1
    rw [decide_eq_decide]
    unfold varOf
    split <;> omega
theorem Var_f (x : Int) (h : I64 x) : skolemref01_Var.f x = some (varOf x) := by
  unfold skolemref01_Var.f
  rw [literal_f x h]
  show (if decide (varOf x ≠ 0) = true then _ else _) = _
  by_cases hv : varOf x = 0
  · rw [if_neg (by simpa using hv), hv]
  · rw [if_pos (by simpa using hv), size_f x h]
    have := varOf_eq hv
    have := varOf_range x
    show some (wrap64 _) = _
    rw [wrap64_id (by omega) (by omega)]
    congr 1; omega

theorem May_l0 (xs : List Int) (h64 : All64 xs) (hb : xs.length ≤ 9223372036854775807) : ∀ n i, i + n = xs.length → Evn (fun k => skolemref01_May.l0 k xs (i : Int)) (mayFrom (if i = 0 then 0 else varOf (xs.getD (i - 1) 0)) (xs.drop i)) := by
  intro n
  induction n with
  | zero =>
    intro i hi
    refine Evn.succ (g' := fun _ => some true) (fun k => ?_) ((Evn.ret _).to ?_)
    · rw [skolemref01_May.l0, if_neg (by omega)]
    · rw [List.drop_eq_nil_of_le (by omega)]; rfl
  | succ n ih =>
    intro i hi
    have hil : i < xs.length := by omega
    have hm := h64 _ (List.getElem_mem hil)
    have hvr := varOf_range xs[i]
    refine Evn.succ (fun k => by rw [skolemref01_May.l0]) ?_
    refine Evn.pos (by omega) (Evn.pos (by omega) ?_)
    rw [rd_nat xs i hil, wrap64_nat (by omega), List.drop_eq_getElem_cons hil, mayFrom]
    refine Evn.bind (Evn.of_eq fun _ => literal_f _ hm) ?_
    have hnext := ih (i + 1) (by omega)
    rw [if_neg (by omega), show i + 1 - 1 = i by omega, show xs.getD i 0 = xs[i] by simp [hil]] at hnext
    by_cases hv : varOf xs[i] = 0
    · refine Evn.neg (by simpa using hv) ((Evn.ret _).to ?_)
      rw [if_pos]
      split
      · omega
      · have := varOf_range (xs.getD (i - 1) 0); omega
    · refine Evn.pos (by simpa using hv) ?_
      by_cases h0 : i = 0
      · subst h0
        refine Evn.neg (by omega) (hnext.to ?_)
        rw [if_neg (show ¬ varOf xs[0] ≤ (if (0 : Nat) = 0 then (0 : Int) else varOf (xs.getD (0 - 1) 0)) by rw [if_pos rfl]; omega)]
      · have hi1 : i - 1 < xs.length := by omega
        have e1 : wrap64 ((i : Int) - 1) = ((i - 1 : Nat) : Int) := by rw [wrap64_id (by omega) (by omega)]; omega
        have hm1 := h64 _ (List.getElem_mem hi1)
        rw [e1, rd_nat xs (i - 1) hi1, if_neg h0, show xs.getD (i - 1) 0 = xs[i - 1] by simp [hi1]]
        refine Evn.pos (by omega) (Evn.pos (by omega) (Evn.pos (by omega) ?_))
        refine Evn.bind (Evn.of_eq fun _ => Var_f _ hm1) (Evn.bind (Evn.of_eq fun _ => Var_f _ hm) ?_)
        by_cases hle : varOf xs[i] ≤ varOf xs[i - 1]
        · exact Evn.pos (by omega) ((Evn.ret _).to (by rw [if_pos hle]))
        · exact Evn.neg (by omega) (hnext.to (by rw [if_neg hle]))
theorem May_f (xs : List Int) (h64 : All64 xs) (hb : xs.length ≤ 9223372036854775807) : Evn (fun k => skolemref01_May.f k xs) (mayB xs) := by
  unfold skolemref01_May.f
  exact (May_l0 xs h64 hb xs.length 0 (by omega)).to (by rw [if_pos rfl]; rfl)
theorem Has_l0 (xs : List Int) (y : Int) (hb : xs.length ≤ 9223372036854775807) : ∀ n i, i + n = xs.length → Evn (fun k => skolemref01_Has.l0 k xs y (i : Int)) (decide (y ∈ xs.drop i)) := by
  intro n
  induction n with
  | zero =>
    intro i hi
    refine Evn.succ (g' := fun _ => some false) (fun k => ?_) ((Evn.ret _).to ?_)
    · rw [skolemref01_Has.l0, if_neg (by omega)]
    · rw [List.drop_eq_nil_of_le (by omega)]; simp
  | succ n ih =>
    intro i hi
    have hil : i < xs.length := by omega
    refine Evn.succ (fun k => by rw [skolemref01_Has.l0]) ?_
    refine Evn.pos (by omega) (Evn.pos (by omega) ?_)
    rw [rd_nat xs i hil, wrap64_nat (by omega), List.drop_eq_getElem_cons hil]
    by_cases h : xs[i] = y
    · exact Evn.pos h ((Evn.ret _).to (by symm; rw [decide_eq_true_eq]; exact List.mem_cons.2 (.inl h.symm)))
    · exact Evn.neg h ((ih (i + 1) (by omega)).to (by rw [decide_eq_decide, List.mem_cons]; exact ⟨.inr, fun h' => h'.elim (fun e => absurd e.symm h) id⟩))
theorem Has_f (xs : List Int) (y : Int) (hb : xs.length ≤ 9223372036854775807) : Evn (fun k => skolemref01_Has.f k xs y) (decide (y ∈ xs)) := by
  unfold skolemref01_Has.f
  exact (Has_l0 xs y hb xs.length 0 (by omega)).to (by simp)
theorem before_f (x y : Int) (hx : I64 x) (hy : I64 y) : skolemref01_before.f x y = some (decide (blt x y)) := by
  unfold skolemref01_before.f
  rw [size_f x hx, size_f y hy]
  simp only [Option.bind_some]
  by_cases h : x.natAbs = y.natAbs
  · rw [if_pos (by omega)]
    congr 1
    rw [decide_eq_decide]
    unfold blt
    constructor
    · intro h1; exact .inr ⟨h, h1⟩
    · rintro (h1 | h1)
      · omega
      · exact h1.2
  · rw [if_neg (by omega)]
    congr 1
    rw [decide_eq_decide]
    unfold blt
    omega
theorem with_l0 (xs : List Int) (y : Int) (h64 : All64 xs) (hy : I64 y) (hb : xs.length ≤ 100000000) :
    ∀ n i, i + n = xs.length → Evn (fun k => skolemref01_with.l0 k xs y (i : Int)) (xs.take i ++ withL (xs.drop i) y) := by
  intro n
  induction n with
  | zero =>
    intro i hi
    refine Evn.succ (g' := fun _ => some (xs.take i ++ withL (xs.drop i) y)) (fun k => ?_) (Evn.ret _)
    rw [skolemref01_with.l0, if_neg (by omega), if_pos (by omega), if_pos (by omega)]
    have e1 : xs.take (i : Int).toNat = xs := by rw [List.take_of_length_le (by omega)]
    have e2 : xs.drop (i : Int).toNat = [] := List.drop_eq_nil_of_le (by omega)
    have e3 : xs.take i = xs := by rw [List.take_of_length_le (by omega)]
    have e4 : xs.drop i = [] := List.drop_eq_nil_of_le (by omega)
    simp only [Option.bind_some, e1, e2, e3, e4, List.length_nil, List.nil_append, List.append_nil, List.length_append, List.length_cons, withL]
    rw [if_pos (by omega), if_pos (by omega), if_pos (by omega)]
  | succ n ih =>
    intro i hi
    have hil : i < xs.length := by omega
    refine Evn.succ (fun k => by rw [skolemref01_with.l0]) ?_
    refine Evn.pos (by omega) (Evn.pos (by omega) ?_)
    rw [rd_nat xs i hil, wrap64_nat (by omega), List.drop_eq_getElem_cons hil, withL]
    refine Evn.bind (Evn.of_eq fun _ => before_f _ _ (h64 _ (List.getElem_mem hil)) hy) ?_
    by_cases h : blt xs[i] y
    · rw [if_pos h]
      refine Evn.pos (by simpa using h) ((ih (i + 1) (by omega)).to ?_)
      rw [List.take_succ_eq_append_getElem hil, List.append_assoc]; rfl
    · rw [if_neg h]
      refine Evn.neg (by simpa using h) ?_
      by_cases h2 : xs[i] = y
      · refine Evn.pos h2 ((Evn.ret _).to ?_)
        rw [if_pos h2, ← List.drop_eq_getElem_cons hil, List.take_append_drop]
      · refine Evn.neg h2 (Evn.pos (by omega) (Evn.of_eq fun _ => ?_))
        rw [if_neg h2]
        have e1 : (xs.take (i : Int).toNat).length = i := by rw [List.length_take]; omega
        have e2 : (xs.drop (i : Int).toNat).length = xs.length - i := by rw [List.length_drop]; omega
        simp only [Option.bind_some, List.length_nil, List.nil_append, List.length_append, List.length_cons, e1, e2]
        rw [if_pos (by omega), if_pos (by omega), if_pos (by omega)]
        have e3 : ((i : Nat) : Int).toNat = i := by omega
        rw [e3, List.append_assoc, ← List.drop_eq_getElem_cons hil]; rfl
theorem with_f (xs : List Int) (y : Int) (h64 : All64 xs) (hy : I64 y) (hb : xs.length ≤ 100000000) : Evn (fun k => skolemref01_with.f k xs y) (withL xs y) := by
  unfold skolemref01_with.f
  exact (with_l0 xs y h64 hy hb xs.length 0 (by omega)).to (by simp)
theorem withL_64 {xs : List Int} {y : Int} (h : All64 xs) (hy : I64 y) : All64 (withL xs y) := fun z hz => by
  rcases (mem_withL xs y z).1 hz with rfl | h1
  · exact hy
  · exact h z h1
theorem Norm_l1 (xs : List Int) (h64 : All64 xs) (hb : xs.length ≤ 200000) :
    ∀ n i acc, i + n = xs.length → All64 acc → acc.length ≤ i → Evn (fun k => skolemref01_Norm.l1 k xs acc (i : Int)) (if mayB (setL acc (xs.drop i)) = true then (setL acc (xs.drop i), 0) else ([], 10)) := by
  intro n
  induction n with
  | zero =>
    intro i acc hi ha hl
    refine Evn.succ (fun k => by rw [skolemref01_Norm.l1, if_neg (by omega)]) ?_
    rw [List.drop_eq_nil_of_le (by omega), show setL acc [] = acc from rfl]
    refine Evn.bind (May_f acc ha (by omega)) ?_
    by_cases h : mayB acc = true
    · exact Evn.pos h ((Evn.ret _).to (by rw [if_pos h]))
    · exact Evn.neg h ((Evn.ret _).to (by rw [if_neg h]))
  | succ n ih =>
    intro i acc hi ha hl
    have hil : i < xs.length := by omega
    refine Evn.succ (fun k => by rw [skolemref01_Norm.l1]) ?_
    refine Evn.pos (by omega) (Evn.pos (by omega) ?_)
    rw [rd_nat xs i hil, wrap64_nat (by omega), List.drop_eq_getElem_cons hil]
    have hy := h64 _ (List.getElem_mem hil)
    refine Evn.bind (with_f acc xs[i] ha hy (by omega)) ?_
    exact ih (i + 1) (withL acc xs[i]) (by omega) (withL_64 ha hy) (by have := withL_len acc xs[i]; omega)
theorem Norm_l0 (xs : List Int) (h64 : All64 xs) (hb : xs.length ≤ 200000) :
    ∀ n i, i + n = xs.length → Evn (fun k => skolemref01_Norm.l0 k xs (i : Int)) (if (xs.drop i).any (fun x => varOf x == 0) = true then ([], 2) else if mayB (setL [] xs) = true then (setL [] xs, 0) else ([], 10)) := by
  intro n
  induction n with
  | zero =>
    intro i hi
    refine Evn.succ (fun k => by rw [skolemref01_Norm.l0, if_neg (by omega)]) ?_
    rw [List.drop_eq_nil_of_le (by omega), if_neg (by simp)]
    exact (Norm_l1 xs h64 hb xs.length 0 [] (by omega) (fun _ h => by cases h) (by simp)).to (by simp)
  | succ n ih =>
    intro i hi
    have hil : i < xs.length := by omega
    refine Evn.succ (fun k => by rw [skolemref01_Norm.l0]) ?_
    refine Evn.pos (by omega) (Evn.pos (by omega) ?_)
    rw [rd_nat xs i hil, wrap64_nat (by omega), List.drop_eq_getElem_cons hil, List.any_cons]
    refine Evn.bind (Evn.of_eq fun _ => literal_f _ (h64 _ (List.getElem_mem hil))) ?_
    by_cases h : varOf xs[i] = 0
    · exact Evn.neg (by simpa using h) ((Evn.ret _).to (by rw [if_pos (by simp [h])]))
    · refine Evn.pos (by simpa using h) ((ih (i + 1) (by omega)).to ?_)
      rw [show (varOf xs[i] == 0) = false by simpa using h, Bool.false_or]
theorem Norm_f (xs : List Int) (h64 : All64 xs) (hb : xs.length ≤ 9223372036854775807) : Evn (fun k => skolemref01_Norm.f k xs) (NormV xs) := by
  unfold skolemref01_Norm.f NormV
  by_cases hl : xs.length > 200000
  · exact Evn.pos (by omega) ((Evn.ret _).to (by rw [if_pos (.inl hl)]))
  · refine Evn.neg (by omega) ((Norm_l0 xs h64 (by omega) xs.length 0 (by omega)).to ?_)
    rw [List.drop_zero]
    by_cases ha : xs.any (fun x => varOf x == 0) = true
    · rw [if_pos ha, if_pos (.inr ha)]
    · rw [if_neg ha]
      symm
      rw [if_neg (fun h => h.elim hl ha)]
theorem Neg_l0 (xs : List Int) (hs : ∀ x ∈ xs, x.natAbs ≤ 65536) (hb : xs.length ≤ 65536) : ∀ n i acc, i + n = xs.length → acc.length ≤ i → Evn (fun k => skolemref01_Neg.l0 k xs acc (i : Int)) (acc ++ (xs.drop i).map fun x => -x) := by
  intro n
  induction n with
  | zero =>
    intro i acc hi _
    exact Evn.succ (g' := fun _ => some acc) (fun k => by rw [skolemref01_Neg.l0, if_neg (by omega)]) ((Evn.ret _).to (by rw [List.drop_eq_nil_of_le (by omega)]; simp))
  | succ n ih =>
    intro i acc hi ha
    have hil : i < xs.length := by omega
    have hx := hs _ (List.getElem_mem hil)
    refine Evn.succ (fun k => by rw [skolemref01_Neg.l0]) ?_
    refine Evn.pos (by omega) (Evn.pos (by omega) (Evn.pos (by omega) ?_))
    rw [rd_nat xs i hil, wrap64_nat (by omega), wrap64_id (by omega) (by omega), List.drop_eq_getElem_cons hil, List.map_cons]
    refine (ih (i + 1) _ (by omega) (by simp; omega)).to ?_
    rw [List.append_assoc]; rfl
theorem Neg_f (xs : List Int) (h64 : All64 xs) (hb : xs.length ≤ 9223372036854775807) : Evn (fun k => skolemref01_Neg.f k xs) (NegV xs) := by
  unfold skolemref01_Neg.f NegV
  refine Evn.bind (May_f xs h64 hb) ?_
  by_cases hm : mayB xs = true
  · rw [if_pos hm]
    exact Evn.pos hm ((Neg_l0 xs (fun x hx => lit_small (((mayB_iff xs).1 hm).2 x hx)) (may_len hm) xs.length 0 [] (by omega) (by simp)).to (by simp))
  · rw [if_neg hm]
    exact Evn.neg hm (Evn.ret _)
theorem Without_l0 (xs : List Int) (v : Int) (h64 : All64 xs) (hb : xs.length ≤ 65536) : ∀ n i acc, i + n = xs.length → acc.length ≤ i → Evn (fun k => skolemref01_Without.l0 k xs v acc (i : Int)) (acc ++ (xs.drop i).filter fun x => decide (varOf x ≠ v)) := by
  intro n
  induction n with
  | zero =>
    intro i acc hi _
    exact Evn.succ (g' := fun _ => some acc) (fun k => by rw [skolemref01_Without.l0, if_neg (by omega)]) ((Evn.ret _).to (by rw [List.drop_eq_nil_of_le (by omega)]; simp))
  | succ n ih =>
    intro i acc hi ha
    have hil : i < xs.length := by omega
    refine Evn.succ (fun k => by rw [skolemref01_Without.l0]) ?_
    refine Evn.pos (by omega) (Evn.pos (by omega) ?_)
    rw [rd_nat xs i hil, wrap64_nat (by omega), List.drop_eq_getElem_cons hil, List.filter_cons]
    refine Evn.bind (Evn.of_eq fun _ => Var_f _ (h64 _ (List.getElem_mem hil))) ?_
    by_cases h : varOf xs[i] = v
    · rw [if_neg (by simpa using h)]
      exact Evn.pos h (ih (i + 1) acc (by omega) (by omega))
    · rw [if_pos (by simpa using h)]
      refine Evn.neg h (Evn.pos (by omega) ((ih (i + 1) _ (by omega) (by simp; omega)).to ?_))
      rw [List.append_assoc]; rfl
theorem Without_f (xs : List Int) (v : Int) (h64 : All64 xs) (hb : xs.length ≤ 9223372036854775807) : Evn (fun k => skolemref01_Without.f k xs v) (WithoutV xs v) := by
  unfold skolemref01_Without.f WithoutV
  refine Evn.bind (May_f xs h64 hb) ?_
  by_cases hm : mayB xs = true
  · rw [if_pos hm]
    exact Evn.pos hm ((Without_l0 xs v h64 (may_len hm) xs.length 0 [] (by omega) (by simp)).to (by simp))
  · rw [if_neg hm]
    exact Evn.neg hm (Evn.ret _)
theorem WithoutV_64 {xs : List Int} {v : Int} (h : All64 xs) : All64 (WithoutV xs v) := by
  unfold WithoutV
  split
  · exact fun x hx => h x (List.mem_filter.1 hx).1
  · intro x hx; cases hx
theorem WithoutV_len (xs : List Int) (v : Int) : (WithoutV xs v).length ≤ xs.length := by
  unfold WithoutV
  split
  · exact List.length_filter_le _ _
  · simp
theorem Within_l0 (xs vs : List Int) (h64 : All64 xs) (hb : xs.length ≤ 65536) (kb : vs.length ≤ 9223372036854775807) : ∀ n i acc, i + n = xs.length → acc.length ≤ i → Evn (fun k => skolemref01_Within.l0 k xs vs acc (i : Int)) (acc ++ (xs.drop i).filter fun x => decide (varOf x ∈ vs)) := by
  intro n
  induction n with
  | zero =>
    intro i acc hi _
    exact Evn.succ (g' := fun _ => some acc) (fun k => by rw [skolemref01_Within.l0, if_neg (by omega)]) ((Evn.ret _).to (by rw [List.drop_eq_nil_of_le (by omega)]; simp))
  | succ n ih =>
    intro i acc hi ha
    have hil : i < xs.length := by omega
    refine Evn.succ (fun k => by rw [skolemref01_Within.l0]) ?_
    refine Evn.pos (by omega) (Evn.pos (by omega) ?_)
    rw [rd_nat xs i hil, wrap64_nat (by omega), List.drop_eq_getElem_cons hil, List.filter_cons]
    refine Evn.bind (Evn.of_eq fun _ => Var_f _ (h64 _ (List.getElem_mem hil))) (Evn.bind (Has_f vs _ kb) ?_)
    by_cases h : varOf xs[i] ∈ vs
    · rw [if_pos (by simpa using h)]
      refine Evn.pos (by simpa using h) (Evn.pos (by omega) ((ih (i + 1) _ (by omega) (by simp; omega)).to ?_))
      rw [List.append_assoc]; rfl
    · rw [if_neg (by simpa using h)]
      exact Evn.neg (by simpa using h) (ih (i + 1) acc (by omega) (by omega))
theorem Within_f (xs vs : List Int) (h64 : All64 xs) (hb : xs.length ≤ 9223372036854775807) (kb : vs.length ≤ 9223372036854775807) : Evn (fun k => skolemref01_Within.f k xs vs) (WithinV xs vs) := by
  unfold skolemref01_Within.f WithinV
  refine Evn.bind (May_f xs h64 hb) ?_
  by_cases hm : mayB xs = true
  · rw [if_pos hm]
    exact Evn.pos hm ((Within_l0 xs vs h64 (may_len hm) kb xs.length 0 [] (by omega) (by simp)).to (by simp))
  · rw [if_neg hm]
    exact Evn.neg hm (Evn.ret _)
end Go.Proofs.YtlompphnngnaiaaGreatDoor.PLitsOne
namespace Go.Proofs.YtlompphnngnaiaaGreatDoor
open Go.RowKit Go.Proofs.YtlompphnngnaiaaGreatDoorW.PrintWords
theorem refMay_any (xs : List Int) (v : Value) (w : World) (h64 : All64 xs) (hr : RI w v xs) : Calls Tryz.prog 16 #[v] w fun e w' => e = .returned (.bool (mayB xs)) ∧ Ext w w' := by
  obtain ⟨K, hK⟩ := PLitsOne.May_f xs h64 hr.max
  obtain ⟨A, c, rfl, h1, h2⟩ := hr.kd
  refine (PLitsOne.skolemref01_May.calls K A c xs _ w h2 h1 (hK K (Nat.le_refl _))).mono ?_
  rintro e w' ⟨rfl, hd⟩
  exact ⟨rfl, drawn_ext hd⟩

theorem ref_own {w : World} {base : Nat} {v : Value} {xs : List Int} (h : Kd.R (Kd.int .i64) 3 w base (fun _ => True) v xs) : RI w v xs := kdR_RI h
theorem refVar_any (x : Int) (w : World) (hx : I64 x) : Calls Tryz.prog 34 #[.int .i64 x] w fun e w' => e = .returned (.int .i64 (varOf x)) ∧ Ext w w' := by
  refine (PLitsOne.skolemref01_Var.calls x _ w (PLitsOne.Var_f x hx)).mono ?_
  rintro e w' ⟨rfl, hd⟩
  exact ⟨rfl, drawn_ext hd⟩
theorem refHas_any (xs : List Int) (x : Int) (v : Value) (w : World) (hr : RI w v xs) : Calls Tryz.prog 37 #[v, .int .i64 x] w fun e w' => e = .returned (.bool (decide (x ∈ xs))) ∧ Ext w w' := by
  obtain ⟨K, hK⟩ := PLitsOne.Has_f xs x hr.max
  obtain ⟨A, c, rfl, h1, h2⟩ := hr.kd
  refine (PLitsOne.skolemref01_Has.calls K A c xs x _ w h2 h1 (hK K (Nat.le_refl _))).mono ?_
  rintro e w' ⟨rfl, hd⟩
  exact ⟨rfl, drawn_ext hd⟩
theorem refNorm_any (xs : List Int) (v : Value) (w : World) (h64 : All64 xs) (hr : RI w v xs) : Calls Tryz.prog 32 #[v] w fun e w' => ∃ v', e = .returned (.tuple #[v', .int .i64 (NormV xs).2]) ∧ RI w' v' (NormV xs).1 ∧ Ext w w' := by
  obtain ⟨K, hK⟩ := PLitsOne.Norm_f xs h64 hr.max
  obtain ⟨A, c, rfl, h1, h2⟩ := hr.kd
  refine (PLitsOne.skolemref01_Norm.calls K A c xs _ _ w h2 h1 (hK K (Nat.le_refl _))).mono ?_
  rintro e w' ⟨v', rfl, hs, hE⟩
  exact ⟨v', rfl, kdR_RI hs, hE⟩
theorem refNeg_any (xs : List Int) (v : Value) (w : World) (h64 : All64 xs) (hr : RI w v xs) : Calls Tryz.prog 39 #[v] w fun e w' => ∃ v', e = .returned v' ∧ RI w' v' (NegV xs) ∧ Ext w w' := by
  obtain ⟨K, hK⟩ := PLitsOne.Neg_f xs h64 hr.max
  obtain ⟨A, c, rfl, h1, h2⟩ := hr.kd
  refine (PLitsOne.skolemref01_Neg.calls K A c xs _ w h2 h1 (hK K (Nat.le_refl _))).mono ?_
  rintro e w' ⟨v', rfl, hs, hE⟩
  exact ⟨v', rfl, kdR_RI hs, hE⟩
theorem refWithout_any (xs : List Int) (n : Int) (v : Value) (w : World) (h64 : All64 xs) (hr : RI w v xs) : Calls Tryz.prog 40 #[v, .int .i64 n] w fun e w' => ∃ v', e = .returned v' ∧ RI w' v' (WithoutV xs n) ∧ Ext w w' := by
  obtain ⟨K, hK⟩ := PLitsOne.Without_f xs n h64 hr.max
  obtain ⟨A, c, rfl, h1, h2⟩ := hr.kd
  refine (PLitsOne.skolemref01_Without.calls K A c xs n _ w h2 h1 (hK K (Nat.le_refl _))).mono ?_
  rintro e w' ⟨v', rfl, hs, hE⟩
  exact ⟨v', rfl, kdR_RI hs, hE⟩
theorem refWithin_any (xs vs : List Int) (v u : Value) (w : World) (h64 : All64 xs) (hr : RI w v xs) (kr : RI w u vs) : Calls Tryz.prog 42 #[v, u] w fun e w' => ∃ v', e = .returned v' ∧ RI w' v' (WithinV xs vs) ∧ Ext w w' := by
  obtain ⟨K, hK⟩ := PLitsOne.Within_f xs vs h64 hr.max kr.max
  obtain ⟨A, c, rfl, h1, h2⟩ := hr.kd
  obtain ⟨B, d, rfl, k1, k2⟩ := kr.kd
  refine (PLitsOne.skolemref01_Within.calls K A c xs B d vs _ w h2 h1 k2 k1 (hK K (Nat.le_refl _))).mono ?_
  rintro e w' ⟨v', rfl, hs, hE⟩
  exact ⟨v', rfl, kdR_RI hs, hE⟩
end Go.Proofs.YtlompphnngnaiaaGreatDoor
namespace Go.Proofs.YtlompphnngnaiaaGreatDoor
open Go.RowKit

theorem fv_Without : Fv Tryz.prog 22 := ⟨_, Tryz.func22, by kernel_rfl, by kernel_rfl⟩
theorem fv_awake : Fv Tryz.prog 11 := ⟨_, Tryz.func11, by kernel_rfl, by kernel_rfl⟩

theorem lits_small {xs : List Int} (h : mayB xs = true) : ∀ x ∈ xs, x.natAbs ≤ 65536 := fun x hx => lit_small (((mayB_iff xs).1 h).2 x hx)

set_option maxRecDepth 100000 in
set_option maxHeartbeats 20000000 in
theorem res_law (a b : List Int) (n : Int) (vs : List Int) (va vb vc : Value) (w : World) (a64 : All64 a) (b64 : All64 b) (hn : I64 n) (ar : RI w va a) (br : RI w vb b) (cr : RI w vc vs) (hL : LW w) :
    Calls Tryz.prog 6 #[va, vb, .int .i64 n, vc] w fun e w' => e = .returned (.bool true) ∧ Ext w w' := by
  have HA := Lib.hid ar
  have HB := Lib.hid br
  have HC := Lib.hid cr
  have HL := Lib.hid hL
  have HR := Lib.hid (Resolve_any a b n va vb w a64 b64 hn ar br)
  have HTA := Lib.hid (fun (h : mayB a = true) (w' : World) (he : Ext w w') => true1_any a vs va vc w' (HA.out.ext he) (HC.out.ext he) (lits_small h))
  have HTB := Lib.hid (fun (h : mayB b = true) (w' : World) (he : Ext w w') => true1_any b vs vb vc w' (HB.out.ext he) (HC.out.ext he) (lits_small h))
  have HTR := Lib.hid (fun (r : List Int) (v : Value) (w' : World) (he : Ext w w') (hr : RI w' v r) (h : mayB r = true) => true1_any r vs v vc w' hr (HC.out.ext he) (lits_small h))
  have HS := Lib.hid (fun (w' : World) (he : Ext w w') => Strike_any a b va vb w' a64 b64 (HA.out.ext he) (HB.out.ext he))
  have HWO := Lib.hid (fun (w' : World) (u : Value) (h : RI w' u b) => (Without_any b n u w' b64 h).mono (R' := fun e w'' => ∃ v, e = .returned v ∧ RI w'' v (WithoutV b n) ∧ Ext w' w'') fun _ _ ⟨v, h1, h2, h3⟩ => ⟨v, h1, h2.reads, h3⟩)
  have HCA := Lib.hid (fun (y : Int) (w' : World) (he : Ext w w') => contains_any a y va w' (HA.out.ext he))
  have HCB := Lib.hid (fun (y : Int) (w' : World) (he : Ext w w') => contains_any b y vb w' (HB.out.ext he))
  obtain ⟨A, c, rfl, h1, h2, h3⟩ := ar
  obtain ⟨B, d, rfl, k1, k2, k3⟩ := br
  obtain ⟨C, e, rfl, l1, l2, l3⟩ := cr
  clear h3 k3 l3 hL
  have hno := @resolve_no a b n
  have hok := @resolve_ok a b n
  have htr := @resolve_true vs a b n
  have hin := fun z => @resolve_in a b n z
  have hmr := @resolve_may a b n
  have hst := @strike_res a b n
  generalize ResolveV a b n = R at HR hno hok htr hin hmr hst
  obtain ⟨R1, R2⟩ := R
  simp only at HR hno hok htr hin hmr hst
  generalize StrikeV a b = S at HS hst
  by_cases hbig : a.length > 200 ∨ b.length > 200 ∨ vs.length > 200
  · clear hno hok htr hin hmr hst
    go_enter Tryz.func6, Tryz.ntmps6
    go_wp2_with ((go_at_call 11; refine (awake_any _ HL.out).mono ?_; rintro e w1 ⟨rfl, hE⟩))
    all_goals first
      | (exfalso; omega)
      | (go_ret; exact ⟨rfl, hE⟩)
  · obtain ⟨hs1, hs2'⟩ := not_or.1 hbig
    obtain ⟨hs2, hs3⟩ := not_or.1 hs2'
    clear hbig hs2'
    by_cases hz : R2 = 0
    · subst hz
      obtain ⟨m1, m2, n0, hna, hnb, hasc, -⟩ := hok rfl
      have n1 : n ≤ 65536 := by have := lits_small m1 n hna; omega
      have mr := hmr rfl
      have HTI := Lib.hid (htr rfl)
      have HIN := Lib.hid (fun z => hin z rfl)
      have HST := Lib.hid (hst rfl)
      have HMR := Lib.hid mr
      have HR64 : Hid (All64 R1) := Lib.hid fun z hz => by
        rcases hin z rfl hz with h | h
        · exact a64 z h
        · exact b64 z h
      have hTA := HTA.out m1
      have hTB := HTB.out m2
      have HTA2 := Lib.hid hTA
      have HTB2 := Lib.hid hTB
      clear hno hok htr hin hmr hst hna hnb hasc m1 m2 mr hTA hTB HTA HTB
      have h00 : ((0 : Int) != 0) = false := by simp
      go_enter Tryz.func6, Tryz.ntmps6
      go_upto_region 6 with (go_at_call 18
                             refine HR.out.mono ?_
                             rintro e4 w4 ⟨v4, rfl, ho, hE⟩
                             have ho := ho.reads
                             have HO4 := Lib.hid ho
                             have HE4 := Lib.hid hE
                             obtain ⟨V, e4, rfl, o1, o2, o3⟩ := ho
                             clear hE o3)
      go_cut [61] from 43 to 61 (fun s wy => s = .bool false ∧ Hid (Ext w4 wy))
      case first =>
        generalize trueL vs a = ta at HTA2 HTI
        generalize trueL vs b = tb at HTB2 HTI
        have HTR2 := Lib.hid (HTR.out R1 _ w4 HE4.out HO4.out HMR.out)
        have HMY := Lib.hid (refMay_any R1 _ w4 HR64.out HO4.out)
        rw [HMR.out] at HMY
        cases ta
        · go_wp2_with (first
            | (go_at_call 19; refine (HTA2.out _ HE4.out).mono ?_; rintro e' w' ⟨rfl, rfl⟩)
            | (go_at_call 16; refine HMY.out.mono ?_; rintro e' w' ⟨rfl, hE⟩))
          go_meet
          exact ⟨rfl, hE⟩
        · cases tb
          · go_wp2_with (first
              | (go_at_call 19; refine (HTA2.out _ HE4.out).mono ?_; rintro e' w' ⟨rfl, rfl⟩; clear HTA2)
              | (go_at_call 19; refine (HTB2.out _ HE4.out).mono ?_; rintro e' w' ⟨rfl, rfl⟩; clear HTB2)
              | (go_at_call 16; refine HMY.out.mono ?_; rintro e' w' ⟨rfl, hE⟩))
            go_meet
            exact ⟨rfl, hE⟩
          · rw [HTI.out rfl rfl] at HTR2
            go_wp2_with (first
              | (go_at_call 19; refine (HTA2.out _ HE4.out).mono ?_; rintro e' w' ⟨rfl, rfl⟩; clear HTA2)
              | (go_at_call 19; refine (HTB2.out _ HE4.out).mono ?_; rintro e' w' ⟨rfl, rfl⟩; clear HTB2)
              | (go_at_call 19; refine HTR2.out.mono ?_; rintro e' w' ⟨rfl, rfl⟩; clear HTR2)
              | (go_at_call 16; refine HMY.out.mono ?_; rintro e' w' ⟨rfl, hE⟩))
            go_meet
            exact ⟨rfl, hE⟩
      case rest =>
        obtain ⟨rfl, HCT⟩ := hcut
        have HE := Lib.hid (HE4.out.trans HCT.out)
        have HO := Lib.hid (HO4.out.ext HCT.out)
        obtain ⟨wx, rfl⟩ : ∃ wx : World, wx = wc := ⟨_, rfl⟩
        clear HTA2 HTB2 HTI HTR
        go_wp2
        go_loop [64] (fun i => ∃ k : Nat, k ≤ R1.length ∧ i = .int .i64 k) (fun i => R1.length - (intOf i).toNat)
        case atStart => exact ⟨0, Nat.zero_le _, rfl⟩
        case round =>
          obtain ⟨k, hk, rfl⟩ := hrel
          by_cases hlt : k < R1.length
          · obtain ⟨ad, rfl, hx0⟩ := HO.out.row.2.2.2.int k hlt
            have hxm : R1[k] ∈ R1 := List.getElem_mem hlt
            have hio := HIN.out _ hxm
            obtain ⟨x, hx⟩ : ∃ x, x = R1[k] := ⟨_, rfl⟩
            rw [← hx] at hx0 hio
            clear hx hxm
            have HC1 := Lib.hid (HCA.out x wx HE.out)
            have HC2 := Lib.hid (HCB.out x wx HE.out)
            by_cases hxa : x ∈ a
            · rw [decide_eq_true hxa] at HC1
              clear hio
              go_wp2_with (go_at_call 20; refine HC1.out.mono ?_; rintro e' w' ⟨rfl, rfl⟩; clear HC1)
              go_round
              case rel => exact ⟨k + 1, by omega, by go_num⟩
              case measure => simp [intOf]; omega
            · have hxb : x ∈ b := hio.resolve_left hxa
              rw [decide_eq_false hxa] at HC1
              rw [decide_eq_true hxb] at HC2
              clear hio
              go_wp2_with (first
                | (go_at_call 20; refine HC1.out.mono ?_; rintro e' w' ⟨rfl, rfl⟩; clear HC1)
                | (go_at_call 20; refine HC2.out.mono ?_; rintro e' w' ⟨rfl, rfl⟩; clear HC2))
              go_round
              case rel => exact ⟨k + 1, by omega, by go_num⟩
              case measure => simp [intOf]; omega
          · by_cases hS0 : S = 0
            · subst hS0
              have h00 : ((0 : Int) == 0) = true := by simp
              go_wp2_with (first
                | (go_at_call 21; refine (HS.out _ HE.out).mono ?_; rintro e' w' ⟨rfl, rfl⟩)
                | (go_at_call 11; refine (awake_any _ (HL.out.ext HE.out)).mono ?_; rintro e' w' ⟨rfl, hE⟩))
              go_ret
              exact ⟨rfl, HE.out.trans hE⟩
            · have hS1 : (S == 0) = false := by simpa using hS0
              by_cases hSn : S = -n
              · have hSe : (S != -n) = false := by simpa using hSn
                have HRW := Lib.hid (HST.out hSn hS0)
                rw [← HRW.out] at HWO
                have cg : wx.cell? ⟨0, 0, Option.none⟩ = some (.func (.func 86) #[] #[]) := HL.out.same.ext HE.out
                go_upto_region 17 with (go_at_call 21; refine (HS.out _ HE.out).mono ?_; rintro e' w' ⟨rfl, rfl⟩)
                refine wp_region_mono (W := wx) rfl (Kd.at [.fv 86, .row R1, .row b, .num n, .row R1, .tru, .tru, .tru, .tru, .tru]) (Kd.at_mono _) 100 rfl (by decide) (by decide) (by decide) ?_ ?_
                · refine ⟨?_, ?_, ?_, ?_, ?_, ?_, ?_, ?_, ?_, ?_, trivial⟩
                  · intro a' w' hE hK hd
                    exact st_run (wanted_none rfl) (v := .func (.func 86) #[] #[]) (by have cg' := hE.cell cg; unfold execOp; simp [go_sem, cg']; done) rfl
                  · intro a' w' hE hK hd
                    have h0 : a'.tmps[9]? = some (.slice V R1.length e4) := hK.get 9 (by decide)
                    exact st_move (wanted_none rfl) rfl h0 (HO.out.ext hE)
                  · intro a' w' hE hK hd
                    have h0 : a'.tmps[1]? = some (.slice B b.length d) := hK.get 1 (by decide)
                    exact st_move (wanted_none rfl) rfl h0 (HB.out.ext (HE.out.trans hE))
                  · intro a' w' hE hK hd
                    have h0 : a'.tmps[2]? = some (.int .i64 n) := hK.get 2 (by decide)
                    exact st_move (wanted_none rfl) rfl h0 rfl
                  · intro a' w' hE hK hd
                    obtain ⟨u2, h2, p2⟩ := got (hd ⟨2, .data⟩ (by simp) rfl) rfl rfl
                    have r2 : RI w' u2 b := p2
                    obtain ⟨u3, h3, p3⟩ := got (hd ⟨3, .data⟩ (by simp) rfl) rfl rfl
                    obtain rfl : u3 = .int .i64 n := p3
                    exact st_call _ _ _ rfl (wanted_none rfl) rfl fv_Without _ (by simp only [List.map_toArray, List.map_cons, List.map_nil, eval_of h2, eval_of h3]) ((HWO.out _ _ r2).mono fun e w'' ⟨v, H1, H2, H3⟩ => ⟨v, H1, H3, H2⟩)
                  · intro a' w' hE hK hd
                    obtain ⟨u0, h0, p0⟩ := got (hd ⟨0, .data⟩ (by simp) rfl) rfl rfl
                    obtain rfl : u0 = .func (.func 86) #[] #[] := p0
                    obtain ⟨u1, h1, p1⟩ := got (hd ⟨1, .data⟩ (by simp) rfl) rfl rfl
                    have r1 : RI w' u1 R1 := p1
                    obtain ⟨u4, h4, p4⟩ := got (hd ⟨4, .data⟩ (by simp) rfl) rfl rfl
                    have r4 : RI w' u4 R1 := p4
                    exact st_call _ _ _ rfl (wanted_none rfl) (eval_of h0) fv_same _ (by simp only [List.map_toArray, List.map_cons, List.map_nil, eval_of h1, eval_of h4]) ((Same_refl R1 _ _ _ r1 r4).mono fun e w'' ⟨H1, H2⟩ => ⟨_, H1, H2, rfl⟩)
                  · intro a' w' hE hK hd
                    obtain ⟨u5, h5, p5⟩ := got (hd ⟨5, .data⟩ (by simp) rfl) rfl rfl
                    obtain rfl : u5 = .bool true := p5
                    exact st_move (wanted_none rfl) rfl h5 rfl
                  · intro a' w' hE hK hd
                    obtain ⟨ug, hg, pg⟩ := got (hd ⟨6, .guard⟩ (by simp) rfl) rfl rfl
                    obtain rfl : ug = .bool true := pg
                    exact st_call _ _ _ rfl (wanted_tru rfl rfl rfl hg) rfl fv_awake #[] (by simp only [List.map_toArray, List.map_nil]) ((awake_any _ (HL.out.ext (HE.out.trans hE))).mono fun e w'' ⟨H1, H2⟩ => ⟨_, H1, H2, rfl⟩)
                  · intro a' w' hE hK hd
                    obtain ⟨u6, h6, p6⟩ := got (hd ⟨6, .data⟩ (by simp) rfl) rfl rfl
                    obtain rfl : u6 = .bool true := p6
                    obtain ⟨u7, h7, p7⟩ := got (hd ⟨7, .data⟩ (by simp) rfl) rfl rfl
                    obtain rfl : u7 = .bool true := p7
                    exact st_pick (wanted_none rfl) rfl h6 h7 rfl
                  · intro a' w' hE hK hd
                    obtain ⟨u8, h8, p8⟩ := got (hd ⟨8, .data⟩ (by simp) rfl) rfl rfl
                    obtain rfl : u8 = .bool true := p8
                    exact st_assign (wanted_none rfl) rfl h8 rfl
                · intro a' w' hE hK hG
                  obtain ⟨u, h32, p32⟩ := got (hG 9 (by decide)) rfl rfl
                  obtain rfl : u = .bool true := p32
                  rename_i K hKK
                  refine hKK a' w' (wp_ret ?_)
                  exact bodyPost_ret (results_tmp rfl _ _ _) hK.1 ⟨congrArg Ending.returned (by rw [Array.getD_eq_getD_getElem?, h32]; rfl), HE.out.trans hE⟩
              · have hSe : (S != -n) = true := by simpa using hSn
                go_wp2_with (first
                  | (go_at_call 21; refine (HS.out _ HE.out).mono ?_; rintro e' w' ⟨rfl, rfl⟩)
                  | (go_at_call 11; refine (awake_any _ (HL.out.ext HE.out)).mono ?_; rintro e' w' ⟨rfl, hE⟩))
                go_ret
                exact ⟨rfl, HE.out.trans hE⟩
    · obtain rfl : R1 = [] := hno hz
      have h00 : (R2 != 0) = true := by simpa using hz
      clear hno hok htr hin hmr hst
      go_enter Tryz.func6, Tryz.ntmps6
      go_wp2_with (first
        | (go_at_call 18
           refine HR.out.mono ?_
           rintro e4 w4 ⟨v4, rfl, ho, hE⟩
           have HE4 := Lib.hid hE
           obtain ⟨V, e4, rfl, o1, o2, o3⟩ := ho.reads
           clear ho hE o3)
        | (go_at_call 11; refine (awake_any _ (HL.out.ext HE4.out)).mono ?_; rintro e' w' ⟨rfl, hE⟩))
      go_ret
      exact ⟨rfl, HE4.out.trans hE⟩
end Go.Proofs.YtlompphnngnaiaaGreatDoor
