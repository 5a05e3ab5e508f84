/- Words for the reference's functions as printed: what holds from some number on; how rows are read. What the functions of the reference, as printed, come to. The walk of the law LitsTwo. -/
import Derived.Test.YtlompphnngnaiaaGreatDoorWWords
import Derived.Test.YtlompphnngnaiaaGreatDoorWLast
import Derived.Test.YtlompphnngnaiaaGreatDoorWTab
import Derived.Test.YtlompphnngnaiaaGreatDoorWFour
import Derived.Test.YtlompphnngnaiaaGreatDoorWQPut
import Derived.Test.YtlompphnngnaiaaGreatDoorWApart
import Derived.Test.YtlompphnngnaiaaGreatDoorWArr
import Derived.Test.YtlompphnngnaiaaGreatDoorWZeros
import Derived.Test.YtlompphnngnaiaaGreatDoorWFoot
import Derived.Test.YtlompphnngnaiaaGreatDoorWKept
import Derived.Test.YtlompphnngnaiaaGreatDoorWShare
import Derived.Test.YtlompphnngnaiaaGreatDoorWN
import Derived.Test.YtlompphnngnaiaaGreatDoorWFootNe
import Derived.Test.YtlompphnngnaiaaGreatDoorWAt
import Derived.Test.YtlompphnngnaiaaGreatDoorWEqStruct
import Derived.Test.YtlompphnngnaiaaGreatDoorWRepsOne
import Derived.Test.YtlompphnngnaiaaGreatDoorWInv
import Derived.Test.YtlompphnngnaiaaGreatDoorWInvWords
import Derived.Test.YtlompphnngnaiaaGreatDoorWGuard
import Derived.Test.YtlompphnngnaiaaGreatDoorWNEv
import Derived.Test.YtlompphnngnaiaaGreatDoorWMore
import Derived.IntWalk
import Derived.Test.YtlompphnngnaiaaGreatDoorLb
import Derived.Test.YtlompphnngnaiaaGreatDoorPLitsTwox10
import Derived.Test.YtlompphnngnaiaaGreatDoorPLitsTwox11
import Derived.Test.YtlompphnngnaiaaGreatDoorPLitsTwox12
import Derived.Test.YtlompphnngnaiaaGreatDoorLc
import Derived.Test.YtlompphnngnaiaaGreatDoorLa
import Derived.Test.YtlompphnngnaiaaGreatDoorLd
namespace Go.Proofs.YtlompphnngnaiaaGreatDoor
open Go.RowKit Go.Proofs.YtlompphnngnaiaaGreatDoorW.PrintWords

/-- From some number on, a function of a number gives v. -/
def Evn {α : Type} (g : Nat → Option α) (v : α) : Prop := ∃ K, ∀ k, K ≤ k → g k = some v
section
variable {α β : Type}
theorem Evn.ret (v : α) : Evn (fun _ => some v) v := ⟨0, fun _ _ => rfl⟩
theorem Evn.of_eq {g : Nat → Option α} {v : α} (h : ∀ k, g k = some v) : Evn g v := ⟨0, fun k _ => h k⟩
theorem Evn.succ {g g' : Nat → Option α} {v : α} (h : ∀ k, g (k + 1) = g' k) (e : Evn g' v) : Evn g v := by
  obtain ⟨K, hK⟩ := e
  refine ⟨K + 1, fun k hk => ?_⟩
  obtain ⟨m, rfl⟩ : ∃ m, k = m + 1 := ⟨k - 1, by omega⟩
  rw [h, hK m (by omega)]
theorem Evn.bind {g : Nat → Option α} {h : Nat → α → Option β} {a : α} {b : β} (e : Evn g a) (e' : Evn (fun k => h k a) b) : Evn (fun k => (g k).bind (h k)) b := by
  obtain ⟨K, hK⟩ := e
  obtain ⟨L, hL⟩ := e'
  refine ⟨K + L, fun k hk => ?_⟩
  dsimp only
  rw [hK k (by omega)]
  exact hL k (by omega)
theorem Evn.pos {c : Prop} [Decidable c] {g h : Nat → Option α} {v : α} (hc : c) (e : Evn g v) : Evn (fun k => if c then g k else h k) v := by
  obtain ⟨K, hK⟩ := e
  exact ⟨K, fun k hk => by dsimp only; rw [if_pos hc]; exact hK k hk⟩
theorem Evn.neg {c : Prop} [Decidable c] {g h : Nat → Option α} {v : α} (hc : ¬ c) (e : Evn h v) : Evn (fun k => if c then g k else h k) v := by
  obtain ⟨K, hK⟩ := e
  exact ⟨K, fun k hk => by dsimp only; rw [if_neg hc]; exact hK k hk⟩
theorem Evn.to {g : Nat → Option α} {v w : α} (e : Evn g v) (h : v = w) : Evn g w := h ▸ e
end

theorem wrap64_nat {i : Nat} (h : (i : Int) + 1 ≤ 9223372036854775807) : wrap64 ((i : Int) + 1) = ((i + 1 : Nat) : Int) := by
  unfold wrap64; omega

theorem dec_cons {α : Type} [DecidableEq α] {x y : α} {xs ys : List α} (h : x = y) : decide (xs = ys) = decide (x :: xs = y :: ys) := by
  subst h
  rw [decide_eq_decide]
  exact ⟨fun h => by rw [h], fun h => by injection h⟩
theorem dec_cons_ne {α : Type} [DecidableEq α] {x y : α} {xs ys : List α} (h : ¬ x = y) : false = decide (x :: xs = y :: ys) := by
  symm
  rw [decide_eq_false_iff_not]
  intro e
  injection e with e _
  exact h e

theorem rd_nat (xs : List Int) (i : Nat) (hi : i < xs.length) : rd xs (i : Int) = xs[i] := by simp [rd, hi]

/-- A row of integers, as the printed words read it. -/
theorem RI.kd {w : World} {v : Value} {xs : List Int} (h : RI w v xs) : ∃ A c, v = .slice A xs.length c ∧ xs.length ≤ c ∧ Kd.C (Kd.int .i64) w A xs.length xs := by
  obtain ⟨A, c, rfl, h1, h2, h3⟩ := h
  refine ⟨A, c, rfl, h1, rfl, h2, fun h0 => ?_⟩
  obtain ⟨ad, rfl, -⟩ := h3.int 0 h0
  refine ⟨ad, rfl, fun j p hp => ?_⟩
  obtain ⟨hj, rfl⟩ := List.getElem?_eq_some_iff.1 hp
  obtain ⟨ad', had, hc⟩ := h3.int j hj
  cases had
  refine ⟨[.int .i64 xs[j]], rfl, rfl, fun i u hu => ?_⟩
  obtain ⟨hi, rfl⟩ := List.getElem?_eq_some_iff.1 hu
  have hi' : i < 1 := hi
  have : i = 0 := by omega
  subst this
  show w.cell? (ad.add (j * 1 + 0)) = _
  rw [Nat.mul_one, Nat.add_zero]; exact hc
theorem kd_RI {w : World} {A : Option Addr} {c : Nat} {xs : List Int} (h : Kd.C (Kd.int .i64) w A xs.length xs) (hc : xs.length ≤ c) : RI w (.slice A xs.length c) xs := by
  obtain ⟨-, h2, h3⟩ := h
  refine ⟨A, c, rfl, hc, h2, fun j hj => ?_⟩
  rw [List.length_map] at hj
  obtain ⟨ad, rfl, hh⟩ := h3 (by omega)
  obtain ⟨cs, h4, h5, h6⟩ := hh j xs[j] (List.getElem?_eq_getElem hj)
  have h5' : cs = [.int .i64 xs[j]] := h5
  have := h6 0 (.int .i64 xs[j]) (by rw [h5']; rfl)
  refine ⟨ad, rfl, ?_⟩
  rw [show (Kd.int .i64).sz = 1 from rfl, Nat.mul_one, Nat.add_zero] at this
  rw [List.getElem_map]; exact this
theorem RLL.kd {w : World} {v : Value} {f : List (List Int)} (h : RLL w v f) : ∃ A c, v = .slice A f.length c ∧ f.length ≤ c ∧ Kd.C (Kd.slice 3 (Kd.int .i64)) w A f.length f := by
  obtain ⟨A, c, vs, rfl, h1, h2, h3, h4, h5⟩ := h
  refine ⟨A, c, by rw [h4], by omega, rfl, by omega, fun h0 => ?_⟩
  obtain ⟨ad, rfl, -⟩ := h3 0 (by omega)
  refine ⟨ad, rfl, fun j p hp => ?_⟩
  obtain ⟨hj, rfl⟩ := List.getElem?_eq_some_iff.1 hp
  obtain ⟨ad', had, hc⟩ := h3 j (by omega)
  cases had
  obtain ⟨A', c', hv, hl, hC⟩ := (h5 j (by omega) hj).kd
  refine ⟨[vs[j]], rfl, ⟨A', c', by rw [hv], hl, hC⟩, fun i u hu => ?_⟩
  obtain ⟨hi, rfl⟩ := List.getElem?_eq_some_iff.1 hu
  have hi' : i < 1 := hi
  have : i = 0 := by omega
  subst this
  show w.cell? (ad.add (j * 1 + 0)) = _
  rw [Nat.mul_one, Nat.add_zero]; exact hc
theorem RI.max {w : World} {v : Value} {xs : List Int} (h : RI w v xs) : xs.length ≤ 9223372036854775807 := by obtain ⟨A, c, h1, h2, h3, h4⟩ := h; exact h3
theorem RLL.max {w : World} {v : Value} {f : List (List Int)} (h : RLL w v f) : f.length ≤ 9223372036854775807 ∧ ∀ j (hj : j < f.length), f[j].length ≤ 9223372036854775807 := by
  obtain ⟨A, c, vs, rfl, h1, h2, h3, h4, h5⟩ := h
  exact ⟨by omega, fun j hj => (h5 j (by omega) hj).max⟩
theorem drawn_ext {w w' : World} (h : Drawn0 w w') : Ext w w' := by
  obtain ⟨⟨n, rfl⟩⟩ := h
  exact Ext.drewN w n
theorem wrap64_id {x : Int} (h0 : -9223372036854775808 ≤ x) (h1 : x ≤ 9223372036854775807) : wrap64 x = x := by unfold wrap64; omega

/-- A row of rows of the reference's own reads. -/
theorem kd_RLL {w : World} {base : Nat} {ok : Nat → Prop} {v : Value} {f : List (List Int)} (h : Kd.S (Kd.slice 3 (Kd.int .i64)) 22 w base ok v f) : RLL w v f := by
  obtain ⟨A, c, rfl, h1, -, h2, h3⟩ := Kd.S_reads h
  rcases Nat.eq_zero_or_pos f.length with h0 | h0
  · have : f = [] := List.length_eq_zero_iff.1 h0
    subst this
    exact ⟨A, c, [], rfl, Nat.zero_le _, by simp, fun j hj => by simp at hj, rfl, fun j hj => by simp at hj⟩
  · obtain ⟨ad, rfl, hh⟩ := h3 h0
    have hex : ∀ j (hj : j < f.length), ∃ u, w.cell? (ad.add j) = some u ∧ RI w u f[j] := fun j hj => by
      obtain ⟨cs, h4, ⟨A', c', h5, h6, h7⟩, h8⟩ := hh j f[j] (List.getElem?_eq_getElem hj)
      have := h8 0 (.slice A' f[j].length c') (by rw [h5]; rfl)
      have h9 : w.cell? (ad.add (j * 1 + 0)) = some (.slice A' f[j].length c') := this
      rw [Nat.mul_one, Nat.add_zero] at h9
      exact ⟨_, h9, kd_RI h7 h6⟩
    let vs := List.ofFn fun j : Fin f.length => Classical.choose (hex j.1 j.2)
    have hvl : vs.length = f.length := by simp [vs]
    have hvg : ∀ j (hj : j < vs.length) (hj' : j < f.length), w.cell? (ad.add j) = some vs[j] ∧ RI w vs[j] f[j] := fun j hj hj' => by
      have := Classical.choose_spec (hex j hj')
      simp only [vs, List.getElem_ofFn]
      exact this
    refine ⟨some ad, c, vs, by rw [hvl], by omega, by omega, fun j hj => ⟨ad, rfl, (hvg j hj (by omega)).1⟩, hvl, fun j hj hj' => (hvg j hj hj').2⟩

theorem kdR_RI {w : World} {base : Nat} {ok : Nat → Prop} {v : Value} {xs : List Int} (h : Kd.R (Kd.int .i64) 3 w base ok v xs) : RI w v xs := by
  obtain ⟨A, c, rfl, h1, h2⟩ := Kd.R_reads h
  exact kd_RI h2 h1
theorem kdV_RI {w : World} {base : Nat} {ok : Nat → Prop} {v : Value} {xs : List Int} (h : Kd.V (Kd.int .i64) 3 w base ok v xs) : RI w v xs := by
  obtain ⟨A, c, rfl⟩ := Kd.V_slice h
  obtain ⟨h1, h2, h3⟩ := Kd.V_reads' h
  exact kd_RI h3 h2
end Go.Proofs.YtlompphnngnaiaaGreatDoor
namespace Go.Proofs.YtlompphnngnaiaaGreatDoor.PLitsTwo
open Go.RowKit Go.Proofs.YtlompphnngnaiaaGreatDoorW.PrintWords

theorem size_f (x : Int) (h : I64 x) : skolemref01_size.f x = some ((x.natAbs : Nat) : Int) := by
  obtain ⟨h0, h1⟩ := h
  unfold skolemref01_size.f
  by_cases hx : x < 0
  · rw [if_pos hx, wrap64_id (x := x + 1) (by omega) (by omega), wrap64_id (by omega) (by omega), IntWalk.u64_in (-(x + 1)) ⟨by omega, by omega⟩, IntWalk.u64_in _ ⟨by omega, by omega⟩]
    congr 1; omega
  · rw [if_neg hx, IntWalk.u64_in _ ⟨by omega, by omega⟩]
    congr 1; omega
theorem literal_f (x : Int) (h : I64 x) : skolemref01_literal.f x = some (decide (varOf x ≠ 0)) := by
  unfold skolemref01_literal.f
  by_cases hx : x = 0
  · subst hx; rfl
  · rw [if_neg hx, size_f x h]
    show some _ = _
    congr 1
    rw [decide_eq_decide]
    unfold varOf
    split <;> omega
theorem Var_f (x : Int) (h : I64 x) : skolemref01_Var.f x = some (varOf x) := by
  unfold skolemref01_Var.f
  rw [literal_f x h]
  show (if decide (varOf x ≠ 0) = true then _ else _) = _
  by_cases hv : varOf x = 0
  · rw [if_neg (by simpa using hv), hv]
  · rw [if_pos (by simpa using hv), size_f x h]
    have := varOf_eq hv
    have := varOf_range x
    show some (wrap64 _) = _
    rw [wrap64_id (by omega) (by omega)]
    congr 1; omega

theorem May_l0 (xs : List Int) (h64 : All64 xs) (hb : xs.length ≤ 9223372036854775807) : ∀ n i, i + n = xs.length → Evn (fun k => skolemref01_May.l0 k xs (i : Int)) (mayFrom (if i = 0 then 0 else varOf (xs.getD (i - 1) 0)) (xs.drop i)) := by
  intro n
  induction n with
  | zero =>
    intro i hi
    refine Evn.succ (g' := fun _ => some true) (fun k => ?_) ((Evn.ret _).to ?_)
    · rw [skolemref01_May.l0, if_neg (by omega)]
    · rw [List.drop_eq_nil_of_le (by omega)]; rfl
  | succ n ih =>
    intro i hi
    have hil : i < xs.length := by omega
    have hm := h64 _ (List.getElem_mem hil)
    have hvr := varOf_range xs[i]
    refine Evn.succ (fun k => by rw [skolemref01_May.l0]) ?_
    refine Evn.pos (by omega) (Evn.pos (by omega) ?_)
    rw [rd_nat xs i hil, wrap64_nat (by omega), List.drop_eq_getElem_cons hil, mayFrom]
    refine Evn.bind (Evn.of_eq fun _ => literal_f _ hm) ?_
    have hnext := ih (i + 1) (by omega)
    rw [if_neg (by omega), show i + 1 - 1 = i by omega, show xs.getD i 0 = xs[i] by simp [hil]] at hnext
    by_cases hv : varOf xs[i] = 0
    · refine Evn.neg (by simpa using hv) ((Evn.ret _).to ?_)
      rw [if_pos]
      split
      · omega
      · have := varOf_range (xs.getD (i - 1) 0); omega
    · refine Evn.pos (by simpa using hv) ?_
      by_cases h0 : i = 0
      · subst h0
        refine Evn.neg (by omega) (hnext.to ?_)
        rw [if_neg (show ¬ varOf xs[0] ≤ (if (0 : Nat) = 0 then (0 : Int) else varOf (xs.getD (0 - 1) 0)) by rw [if_pos rfl]; omega)]
      · have hi1 : i - 1 < xs.length := by omega
        have e1 : wrap64 ((i : Int) - 1) = ((i - 1 : Nat) : Int) := by rw [wrap64_id (by omega) (by omega)]; omega
        have hm1 := h64 _ (List.getElem_mem hi1)
        rw [e1, rd_nat xs (i - 1) hi1, if_neg h0, show xs.getD (i - 1) 0 = xs[i - 1] by simp [hi1]]
        refine Evn.pos (by omega) (Evn.pos (by omega) (Evn.pos (by omega) ?_))
        refine Evn.bind (Evn.of_eq fun _ => Var_f _ hm1) (Evn.bind (Evn.of_eq fun _ => Var_f _ hm) ?_)
        by_cases hle : varOf xs[i] ≤ varOf xs[i - 1]
        · exact Evn.pos (by omega) ((Evn.ret _).to (by rw [if_pos hle]))
        · exact Evn.neg (by omega) (hnext.to (by rw [if_neg hle]))
theorem May_f (xs : List Int) (h64 : All64 xs) (hb : xs.length ≤ 9223372036854775807) : Evn (fun k => skolemref01_May.f k xs) (mayB xs) := by
  unfold skolemref01_May.f
  exact (May_l0 xs h64 hb xs.length 0 (by omega)).to (by rw [if_pos rfl]; rfl)
theorem Has_l0 (xs : List Int) (y : Int) (hb : xs.length ≤ 9223372036854775807) : ∀ n i, i + n = xs.length → Evn (fun k => skolemref01_Has.l0 k xs y (i : Int)) (decide (y ∈ xs.drop i)) := by
  intro n
  induction n with
  | zero =>
    intro i hi
    refine Evn.succ (g' := fun _ => some false) (fun k => ?_) ((Evn.ret _).to ?_)
    · rw [skolemref01_Has.l0, if_neg (by omega)]
    · rw [List.drop_eq_nil_of_le (by omega)]; simp
  | succ n ih =>
    intro i hi
    have hil : i < xs.length := by omega
    refine Evn.succ (fun k => by rw [skolemref01_Has.l0]) ?_
    refine Evn.pos (by omega) (Evn.pos (by omega) ?_)
    rw [rd_nat xs i hil, wrap64_nat (by omega), List.drop_eq_getElem_cons hil]
    by_cases h : xs[i] = y
    · exact Evn.pos h ((Evn.ret _).to (by symm; rw [decide_eq_true_eq]; exact List.mem_cons.2 (.inl h.symm)))
    · exact Evn.neg h ((ih (i + 1) (by omega)).to (by rw [decide_eq_decide, List.mem_cons]; exact ⟨.inr, fun h' => h'.elim (fun e => absurd e.symm h) id⟩))
theorem Has_f (xs : List Int) (y : Int) (hb : xs.length ≤ 9223372036854775807) : Evn (fun k => skolemref01_Has.f k xs y) (decide (y ∈ xs)) := by
  unfold skolemref01_Has.f
  exact (Has_l0 xs y hb xs.length 0 (by omega)).to (by simp)
theorem before_f (x y : Int) (hx : I64 x) (hy : I64 y) : skolemref01_before.f x y = some (decide (blt x y)) := by
  unfold skolemref01_before.f
  rw [size_f x hx, size_f y hy]
  simp only [Option.bind_some]
  by_cases h : x.natAbs = y.natAbs
  · rw [if_pos (by omega)]
    congr 1
    rw [decide_eq_decide]
    unfold blt
    constructor
    · intro h1; exact .inr ⟨h, h1⟩
    · rintro (h1 | h1)
      · omega
      · exact h1.2
  · rw [if_neg (by omega)]
    congr 1
    rw [decide_eq_decide]
    unfold blt
    omega
theorem with_l0 (xs : List Int) (y : Int) (h64 : All64 xs) (hy : I64 y) (hb : xs.length ≤ 100000000) :
    ∀ n i, i + n = xs.length → Evn (fun k => skolemref01_with.l0 k xs y (i : Int)) (xs.take i ++ withL (xs.drop i) y) := by
  intro n
  induction n with
  | zero =>
    intro i hi
    refine Evn.succ (g' := fun _ => some (xs.take i ++ withL (xs.drop i) y)) (fun k => ?_) (Evn.ret _)
    rw [skolemref01_with.l0, if_neg (by omega), if_pos (by omega), if_pos (by omega)]
    have e1 : xs.take (i : Int).toNat = xs := by rw [List.take_of_length_le (by omega)]
    have e2 : xs.drop (i : Int).toNat = [] := List.drop_eq_nil_of_le (by omega)
    have e3 : xs.take i = xs := by rw [List.take_of_length_le (by omega)]
    have e4 : xs.drop i = [] := List.drop_eq_nil_of_le (by omega)
    simp only [Option.bind_some, e1, e2, e3, e4, List.length_nil, List.nil_append, List.append_nil, List.length_append, List.length_cons, withL]
    rw [if_pos (by omega), if_pos (by omega), if_pos (by omega)]
  | succ n ih =>
    intro i hi
    have hil : i < xs.length := by omega
    refine Evn.succ (fun k => by rw [skolemref01_with.l0]) ?_
    refine Evn.pos (by omega) (Evn.pos (by omega) ?_)
    rw [rd_nat xs i hil, wrap64_nat (by omega), List.drop_eq_getElem_cons hil, withL]
    refine Evn.bind (Evn.of_eq fun _ => before_f _ _ (h64 _ (List.getElem_mem hil)) hy) ?_
    by_cases h : blt xs[i] y
    · rw [if_pos h]
      refine Evn.pos (by simpa using h) ((ih (i + 1) (by omega)).to ?_)
      rw [List.take_succ_eq_append_getElem hil, List.append_assoc]; rfl
    · rw [if_neg h]
      refine Evn.neg (by simpa using h) ?_
      by_cases h2 : xs[i] = y
      · refine Evn.pos h2 ((Evn.ret _).to ?_)
        rw [if_pos h2, ← List.drop_eq_getElem_cons hil, List.take_append_drop]
      · refine Evn.neg h2 (Evn.pos (by omega) (Evn.of_eq fun _ => ?_))
        rw [if_neg h2]
        have e1 : (xs.take (i : Int).toNat).length = i := by rw [List.length_take]; omega
        have e2 : (xs.drop (i : Int).toNat).length = xs.length - i := by rw [List.length_drop]; omega
        simp only [Option.bind_some, List.length_nil, List.nil_append, List.length_append, List.length_cons, e1, e2]
        rw [if_pos (by omega), if_pos (by omega), if_pos (by omega)]
        have e3 : ((i : Nat) : Int).toNat = i := by omega
        rw [e3, List.append_assoc, ← List.drop_eq_getElem_cons hil]; rfl
theorem with_f (xs : List Int) (y : Int) (h64 : All64 xs) (hy : I64 y) (hb : xs.length ≤ 100000000) : Evn (fun k => skolemref01_with.f k xs y) (withL xs y) := by
  unfold skolemref01_with.f
  exact (with_l0 xs y h64 hy hb xs.length 0 (by omega)).to (by simp)
theorem withL_64 {xs : List Int} {y : Int} (h : All64 xs) (hy : I64 y) : All64 (withL xs y) := fun z hz => by
  rcases (mem_withL xs y z).1 hz with rfl | h1
  · exact hy
  · exact h z h1
def joinE (s : List Int) : List Int × Int := if mayB s = true then (s, 0) else ([], 10)
theorem Join_l1 (ys : List Int) (k64 : All64 ys) (kb : ys.length ≤ 65536) :
    ∀ n i acc, i + n = ys.length → All64 acc → acc.length ≤ 65536 + i → Evn (fun k => skolemref01_Join.l1 k ys acc (i : Int)) (joinE (setL acc (ys.drop i))) := by
  intro n
  induction n with
  | zero =>
    intro i acc hi ha hl
    refine Evn.succ (fun k => by rw [skolemref01_Join.l1, if_neg (by omega)]) ?_
    rw [List.drop_eq_nil_of_le (by omega), show setL acc [] = acc from rfl]
    refine Evn.bind (May_f acc ha (by omega)) ?_
    unfold joinE
    by_cases h : mayB acc = true
    · exact Evn.pos h ((Evn.ret _).to (by rw [if_pos h]))
    · exact Evn.neg h ((Evn.ret _).to (by rw [if_neg h]))
  | succ n ih =>
    intro i acc hi ha hl
    have hil : i < ys.length := by omega
    refine Evn.succ (fun k => by rw [skolemref01_Join.l1]) ?_
    refine Evn.pos (by omega) (Evn.pos (by omega) ?_)
    rw [rd_nat ys i hil, wrap64_nat (by omega), List.drop_eq_getElem_cons hil]
    have hy := k64 _ (List.getElem_mem hil)
    refine Evn.bind (with_f acc ys[i] ha hy (by omega)) ?_
    exact ih (i + 1) (withL acc ys[i]) (by omega) (withL_64 ha hy) (by have := withL_len acc ys[i]; omega)
theorem Join_l0 (xs ys : List Int) (h64 : All64 xs) (k64 : All64 ys) (hb : xs.length ≤ 65536) (kb : ys.length ≤ 65536) :
    ∀ n i acc, i + n = xs.length → All64 acc → acc.length ≤ i → Evn (fun k => skolemref01_Join.l0 k xs ys acc (i : Int)) (joinE (setL (setL acc (xs.drop i)) ys)) := by
  intro n
  induction n with
  | zero =>
    intro i acc hi ha hl
    refine Evn.succ (fun k => by rw [skolemref01_Join.l0, if_neg (by omega)]) ?_
    rw [List.drop_eq_nil_of_le (by omega), show setL acc [] = acc from rfl]
    exact (Join_l1 ys k64 kb ys.length 0 acc (by omega) ha (by omega)).to (by simp)
  | succ n ih =>
    intro i acc hi ha hl
    have hil : i < xs.length := by omega
    refine Evn.succ (fun k => by rw [skolemref01_Join.l0]) ?_
    refine Evn.pos (by omega) (Evn.pos (by omega) ?_)
    rw [rd_nat xs i hil, wrap64_nat (by omega), List.drop_eq_getElem_cons hil]
    have hy := h64 _ (List.getElem_mem hil)
    refine Evn.bind (with_f acc xs[i] ha hy (by omega)) ?_
    exact ih (i + 1) (withL acc xs[i]) (by omega) (withL_64 ha hy) (by have := withL_len acc xs[i]; omega)
theorem Join_f (xs ys : List Int) (h64 : All64 xs) (k64 : All64 ys) (hb : xs.length ≤ 9223372036854775807) (kb : ys.length ≤ 9223372036854775807) : Evn (fun k => skolemref01_Join.f k xs ys) (JoinV xs ys) := by
  rw [← joinR_eq]
  unfold skolemref01_Join.f joinR
  refine Evn.bind (May_f xs h64 hb) ?_
  by_cases hm : mayB xs = true
  · refine Evn.pos hm (Evn.bind (May_f ys k64 kb) (Evn.succ (fun k => by rw [skolemref01_Join.j0]) ?_))
    by_cases km : mayB ys = true
    · rw [if_pos ⟨hm, km⟩, km]
      exact Evn.neg (by decide) ((Join_l0 xs ys h64 k64 (may_len hm) (may_len km) xs.length 0 [] (by omega) (fun _ h => by cases h) (by simp)).to (by simp; rfl))
    · have km' : mayB ys = false := by simpa using km
      rw [if_neg (fun h => km h.2), km']
      exact Evn.pos rfl (Evn.ret _)
  · rw [if_neg (fun h => hm h.1)]
    exact Evn.neg hm (Evn.succ (fun k => by rw [skolemref01_Join.j0]) (Evn.pos rfl (Evn.ret _)))
theorem Without_l0 (xs : List Int) (v : Int) (h64 : All64 xs) (hb : xs.length ≤ 65536) : ∀ n i acc, i + n = xs.length → acc.length ≤ i → Evn (fun k => skolemref01_Without.l0 k xs v acc (i : Int)) (acc ++ (xs.drop i).filter fun x => decide (varOf x ≠ v)) := by
  intro n
  induction n with
  | zero =>
    intro i acc hi _
    exact Evn.succ (g' := fun _ => some acc) (fun k => by rw [skolemref01_Without.l0, if_neg (by omega)]) ((Evn.ret _).to (by rw [List.drop_eq_nil_of_le (by omega)]; simp))
  | succ n ih =>
    intro i acc hi ha
    have hil : i < xs.length := by omega
    refine Evn.succ (fun k => by rw [skolemref01_Without.l0]) ?_
    refine Evn.pos (by omega) (Evn.pos (by omega) ?_)
    rw [rd_nat xs i hil, wrap64_nat (by omega), List.drop_eq_getElem_cons hil, List.filter_cons]
    refine Evn.bind (Evn.of_eq fun _ => Var_f _ (h64 _ (List.getElem_mem hil))) ?_
    by_cases h : varOf xs[i] = v
    · rw [if_neg (by simpa using h)]
      exact Evn.pos h (ih (i + 1) acc (by omega) (by omega))
    · rw [if_pos (by simpa using h)]
      refine Evn.neg h (Evn.pos (by omega) ((ih (i + 1) _ (by omega) (by simp; omega)).to ?_))
      rw [List.append_assoc]; rfl
theorem Without_f (xs : List Int) (v : Int) (h64 : All64 xs) (hb : xs.length ≤ 9223372036854775807) : Evn (fun k => skolemref01_Without.f k xs v) (WithoutV xs v) := by
  unfold skolemref01_Without.f WithoutV
  refine Evn.bind (May_f xs h64 hb) ?_
  by_cases hm : mayB xs = true
  · rw [if_pos hm]
    exact Evn.pos hm ((Without_l0 xs v h64 (may_len hm) xs.length 0 [] (by omega) (by simp)).to (by simp))
  · rw [if_neg hm]
    exact Evn.neg hm (Evn.ret _)
theorem WithoutV_64 {xs : List Int} {v : Int} (h : All64 xs) : All64 (WithoutV xs v) := by
  unfold WithoutV
  split
  · exact fun x hx => h x (List.mem_filter.1 hx).1
  · intro x hx; cases hx
theorem WithoutV_len (xs : List Int) (v : Int) : (WithoutV xs v).length ≤ xs.length := by
  unfold WithoutV
  split
  · exact List.length_filter_le _ _
  · simp
theorem Resolve_f (xs ys : List Int) (v : Int) (h64 : All64 xs) (k64 : All64 ys) (hv : I64 v) (hb : xs.length ≤ 9223372036854775807) (kb : ys.length ≤ 9223372036854775807) : Evn (fun k => skolemref01_Resolve.f k xs ys v) (ResolveV xs ys v) := by
  rw [← resolveR_eq]
  unfold skolemref01_Resolve.f resolveR
  have hend : Evn (fun k => skolemref01_Resolve.j1 k xs ys v false) (JoinV (WithoutV xs v) (WithoutV ys v)) := by
    refine Evn.succ (fun k => by rw [skolemref01_Resolve.j1]) (Evn.neg (by decide) ?_)
    refine Evn.bind (Without_f xs v h64 hb) (Evn.bind (Without_f ys v k64 kb) ?_)
    have l1 := WithoutV_len xs v
    have l2 := WithoutV_len ys v
    exact Evn.bind (Join_f _ _ (WithoutV_64 h64) (WithoutV_64 k64) (by omega) (by omega)) (Evn.ret _)
  have hno : Evn (fun k => skolemref01_Resolve.j1 k xs ys v true) (([], 6) : List Int × Int) := Evn.succ (fun k => by rw [skolemref01_Resolve.j1]) (Evn.pos rfl (Evn.ret _))
  refine Evn.bind (May_f xs h64 hb) ?_
  by_cases hm : mayB xs = true
  · refine Evn.pos hm (Evn.bind (May_f ys k64 kb) (Evn.succ (fun k => by rw [skolemref01_Resolve.j0]) ?_))
    by_cases km : mayB ys = true
    · rw [if_pos ⟨hm, km⟩, km]
      refine Evn.neg (by decide) ?_
      by_cases h0 : v ≤ 0
      · rw [if_pos (.inl h0)]
        exact Evn.pos h0 hno
      · refine Evn.neg h0 (Evn.bind (Has_f xs v hb) ?_)
        unfold I64 at hv
        rw [wrap64_id (by omega) (by omega)]
        by_cases h1 : v ∈ xs
        · refine Evn.pos (by simpa using h1) (Evn.bind (Has_f ys (-v) kb) ?_)
          by_cases h2 : -v ∈ ys
          · rw [if_neg (fun h => h.elim h0 (fun h => h.elim (fun h => h h1) (fun h => h h2))), decide_eq_true h2]
            exact hend
          · rw [if_pos (.inr (.inr h2)), decide_eq_false h2]
            exact hno
        · rw [if_pos (.inr (.inl h1))]
          exact Evn.neg (by simpa using h1) hno
    · have km' : mayB ys = false := by simpa using km
      rw [if_neg (fun h => km h.2), km']
      exact Evn.pos rfl (Evn.ret _)
  · rw [if_neg (fun h => hm h.1)]
    exact Evn.neg hm (Evn.succ (fun k => by rw [skolemref01_Resolve.j0]) (Evn.pos rfl (Evn.ret _)))
theorem Sub_l0 (xs ys : List Int) (_hb : xs.length ≤ 9223372036854775807) (kb : ys.length ≤ 9223372036854775807) : ∀ n i, i + n = xs.length → Evn (fun k => skolemref01_Sub.l0 k xs ys (i : Int)) ((xs.drop i).all fun x => decide (x ∈ ys)) := by
  intro n
  induction n with
  | zero =>
    intro i hi
    exact Evn.succ (g' := fun _ => some true) (fun k => by rw [skolemref01_Sub.l0, if_neg (by omega)]) ((Evn.ret _).to (by rw [List.drop_eq_nil_of_le (by omega)]; rfl))
  | succ n ih =>
    intro i hi
    have hil : i < xs.length := by omega
    refine Evn.succ (fun k => by rw [skolemref01_Sub.l0]) ?_
    refine Evn.pos (by omega) (Evn.pos (by omega) ?_)
    rw [rd_nat xs i hil, wrap64_nat (by omega), List.drop_eq_getElem_cons hil, List.all_cons]
    refine Evn.bind (Has_f ys _ kb) ?_
    by_cases h : xs[i] ∈ ys
    · exact Evn.pos (by simpa using h) ((ih (i + 1) (by omega)).to (by rw [decide_eq_true h, Bool.true_and]))
    · exact Evn.neg (by simpa using h) ((Evn.ret _).to (by rw [decide_eq_false h, Bool.false_and]))
theorem Sub_f (xs ys : List Int) (h64 : All64 xs) (k64 : All64 ys) (hb : xs.length ≤ 9223372036854775807) (kb : ys.length ≤ 9223372036854775807) : Evn (fun k => skolemref01_Sub.f k xs ys) (subB xs ys) := by
  unfold skolemref01_Sub.f subB
  refine Evn.bind (May_f xs h64 hb) ?_
  by_cases hm : mayB xs = true
  · refine Evn.pos hm (Evn.bind (May_f ys k64 kb) (Evn.succ (fun k => by rw [skolemref01_Sub.j0]) ?_))
    by_cases km : mayB ys = true
    · rw [hm, km]
      exact Evn.neg (by decide) ((Sub_l0 xs ys hb kb xs.length 0 (by omega)).to (by simp))
    · have km' : mayB ys = false := by simpa using km
      rw [km']
      exact Evn.pos rfl ((Evn.ret _).to (by simp))
  · have hm' : mayB xs = false := by simpa using hm
    rw [hm']
    exact Evn.neg (by decide) (Evn.succ (fun k => by rw [skolemref01_Sub.j0]) (Evn.pos rfl ((Evn.ret _).to (by simp))))
theorem strike_cond (xs ys : List Int) (y : Int) (hm : mayB xs = true) (km : mayB ys = true) : subB (WithoutV xs (varOf y)) ys = true ↔ ∀ x ∈ xs, varOf x ≠ varOf y → x ∈ ys := by
  have ha := (mayB_iff xs).1 hm
  rw [subB_iff]
  unfold WithoutV
  rw [if_pos hm]
  constructor
  · rintro ⟨-, -, h⟩ x hx hne
    exact h x (List.mem_filter.2 ⟨hx, by simpa using hne⟩)
  · intro h
    refine ⟨(mayB_iff _).2 (ha.filter _), km, fun x hx => ?_⟩
    obtain ⟨h1, h2⟩ := List.mem_filter.1 hx
    exact h x h1 (by simpa using h2)
theorem Strike_l0 (xs ys : List Int) (h64 : All64 xs) (k64 : All64 ys) (hm : mayB xs = true) (km : mayB ys = true) : ∀ n i, i + n = ys.length → Evn (fun k => skolemref01_Strike.l0 k xs ys (i : Int)) (strikeR xs ys (ys.drop i)) := by
  have hxl := may_len hm
  have hyl := may_len km
  intro n
  induction n with
  | zero =>
    intro i hi
    exact Evn.succ (g' := fun _ => some 0) (fun k => by rw [skolemref01_Strike.l0, if_neg (by omega)]) ((Evn.ret _).to (by rw [List.drop_eq_nil_of_le (by omega)]; rfl))
  | succ n ih =>
    intro i hi
    have hil : i < ys.length := by omega
    have hs := lit_small (((mayB_iff ys).1 km).2 _ (List.getElem_mem hil))
    have hw := WithoutV_len xs (varOf ys[i])
    refine Evn.succ (fun k => by rw [skolemref01_Strike.l0]) ?_
    refine Evn.pos (by omega) (Evn.pos (by omega) ?_)
    rw [rd_nat ys i hil, wrap64_nat (by omega), wrap64_id (by omega) (by omega), List.drop_eq_getElem_cons hil, strikeR]
    refine Evn.bind (Has_f xs _ (by omega)) ?_
    by_cases h1 : -ys[i] ∈ xs
    · refine Evn.pos (by simpa using h1) (Evn.bind (Evn.of_eq fun _ => Var_f _ (k64 _ (List.getElem_mem hil))) (Evn.bind (Without_f xs _ h64 (by omega)) (Evn.bind (Sub_f _ _ (WithoutV_64 h64) k64 (by omega) (by omega)) ?_)))
      by_cases h2 : subB (WithoutV xs (varOf ys[i])) ys = true
      · refine Evn.pos h2 ((Evn.ret _).to ?_)
        rw [if_pos ⟨h1, (strike_cond xs ys _ hm km).1 h2⟩]
      · refine Evn.neg h2 ((ih (i + 1) (by omega)).to ?_)
        rw [if_neg (fun h => h2 ((strike_cond xs ys _ hm km).2 h.2))]
    · refine Evn.neg (by simpa using h1) ((ih (i + 1) (by omega)).to ?_)
      rw [if_neg (fun h => h1 h.1)]
theorem Strike_f (xs ys : List Int) (h64 : All64 xs) (k64 : All64 ys) (hb : xs.length ≤ 9223372036854775807) (kb : ys.length ≤ 9223372036854775807) : Evn (fun k => skolemref01_Strike.f k xs ys) (StrikeV xs ys) := by
  rw [← StrikeR_eq]
  unfold skolemref01_Strike.f StrikeR
  refine Evn.bind (May_f xs h64 hb) ?_
  by_cases hm : mayB xs = true
  · refine Evn.pos hm (Evn.bind (May_f ys k64 kb) (Evn.succ (fun k => by rw [skolemref01_Strike.j0]) ?_))
    by_cases km : mayB ys = true
    · rw [if_pos ⟨hm, km⟩, km]
      exact Evn.neg (by decide) ((Strike_l0 xs ys h64 k64 hm km ys.length 0 (by omega)).to (by simp))
    · have km' : mayB ys = false := by simpa using km
      rw [if_neg (fun h => km h.2), km']
      exact Evn.pos rfl (Evn.ret _)
  · rw [if_neg (fun h => hm h.1)]
    exact Evn.neg hm (Evn.succ (fun k => by rw [skolemref01_Strike.j0]) (Evn.pos rfl (Evn.ret _)))
theorem Compare_l0 (xs ys : List Int) (h64 : All64 xs) (k64 : All64 ys) (_hb : xs.length ≤ 9223372036854775807) (kb : ys.length ≤ 9223372036854775807) : ∀ n i, i + n = xs.length → i ≤ ys.length → Evn (fun k => skolemref01_Compare.l0 k xs ys (i : Int)) (cmpL (xs.drop i) (ys.drop i)) := by
  intro n
  induction n with
  | zero =>
    intro i hi hy
    refine Evn.succ (fun k => by rw [skolemref01_Compare.l0]) (Evn.neg (by omega) (Evn.succ (fun k => by rw [skolemref01_Compare.j1]) (Evn.neg (by decide) ?_)))
    rw [List.drop_eq_nil_of_le (show xs.length ≤ i by omega)]
    by_cases h : i < ys.length
    · rw [List.drop_eq_getElem_cons h, cmpL]
      exact Evn.pos (by omega) (Evn.ret _)
    · rw [List.drop_eq_nil_of_le (show ys.length ≤ i by omega), cmpL]
      exact Evn.neg (by omega) (Evn.neg (by omega) (Evn.ret _))
  | succ n ih =>
    intro i hi hy
    have hil : i < xs.length := by omega
    refine Evn.succ (fun k => by rw [skolemref01_Compare.l0]) (Evn.pos (by omega) (Evn.succ (fun k => by rw [skolemref01_Compare.j1]) ?_))
    rw [List.drop_eq_getElem_cons hil]
    by_cases h : i < ys.length
    · rw [decide_eq_true (by omega : (i : Int) < (ys.length : Int)), List.drop_eq_getElem_cons h, cmpL]
      refine Evn.pos rfl (Evn.pos (by omega) (Evn.pos (by omega) (Evn.pos (by omega) ?_)))
      rw [rd_nat xs i hil, rd_nat ys i h, wrap64_nat (by omega)]
      have hx := h64 _ (List.getElem_mem hil)
      have hyy := k64 _ (List.getElem_mem h)
      refine Evn.bind (Evn.of_eq fun _ => before_f _ _ hx hyy) ?_
      unfold ordB
      by_cases h1 : blt xs[i] ys[i]
      · rw [if_pos h1, if_neg (by decide)]
        exact Evn.pos (by simpa using h1) (Evn.ret _)
      · rw [if_neg h1]
        refine Evn.neg (by simpa using h1) (Evn.bind (Evn.of_eq fun _ => before_f _ _ hyy hx) ?_)
        by_cases h2 : blt ys[i] xs[i]
        · rw [if_pos h2, if_neg (by decide)]
          exact Evn.pos (by simpa using h2) (Evn.ret _)
        · rw [if_neg h2, if_pos rfl]
          exact Evn.neg (by simpa using h2) (ih (i + 1) (by omega) (by omega))
    · rw [decide_eq_false (by omega : ¬ (i : Int) < (ys.length : Int)), List.drop_eq_nil_of_le (show ys.length ≤ i by omega), cmpL]
      exact Evn.neg (by decide) (Evn.neg (by omega) (Evn.pos (by omega) (Evn.ret _)))
theorem Compare_f (xs ys : List Int) (h64 : All64 xs) (k64 : All64 ys) (hb : xs.length ≤ 9223372036854775807) (kb : ys.length ≤ 9223372036854775807) : Evn (fun k => skolemref01_Compare.f k xs ys) (cmpL xs ys) := by
  unfold skolemref01_Compare.f
  exact (Compare_l0 xs ys h64 k64 hb kb xs.length 0 (by omega) (by omega)).to (by simp)
end Go.Proofs.YtlompphnngnaiaaGreatDoor.PLitsTwo
namespace Go.Proofs.YtlompphnngnaiaaGreatDoor
open Go.RowKit Go.Proofs.YtlompphnngnaiaaGreatDoorW.PrintWords
theorem refMay_any (xs : List Int) (v : Value) (w : World) (h64 : All64 xs) (hr : RI w v xs) : Calls Tryz.prog 16 #[v] w fun e w' => e = .returned (.bool (mayB xs)) ∧ Ext w w' := by
  obtain ⟨K, hK⟩ := PLitsTwo.May_f xs h64 hr.max
  obtain ⟨A, c, rfl, h1, h2⟩ := hr.kd
  refine (PLitsTwo.skolemref01_May.calls K A c xs _ w h2 h1 (hK K (Nat.le_refl _))).mono ?_
  rintro e w' ⟨rfl, hd⟩
  exact ⟨rfl, drawn_ext hd⟩

theorem ref_own {w : World} {base : Nat} {v : Value} {xs : List Int} (h : Kd.R (Kd.int .i64) 3 w base (fun _ => True) v xs) : RI w v xs := kdR_RI h
theorem refVar_any (x : Int) (w : World) (hx : I64 x) : Calls Tryz.prog 34 #[.int .i64 x] w fun e w' => e = .returned (.int .i64 (varOf x)) ∧ Ext w w' := by
  refine (PLitsTwo.skolemref01_Var.calls x _ w (PLitsTwo.Var_f x hx)).mono ?_
  rintro e w' ⟨rfl, hd⟩
  exact ⟨rfl, drawn_ext hd⟩
theorem refHas_any (xs : List Int) (x : Int) (v : Value) (w : World) (hr : RI w v xs) : Calls Tryz.prog 37 #[v, .int .i64 x] w fun e w' => e = .returned (.bool (decide (x ∈ xs))) ∧ Ext w w' := by
  obtain ⟨K, hK⟩ := PLitsTwo.Has_f xs x hr.max
  obtain ⟨A, c, rfl, h1, h2⟩ := hr.kd
  refine (PLitsTwo.skolemref01_Has.calls K A c xs x _ w h2 h1 (hK K (Nat.le_refl _))).mono ?_
  rintro e w' ⟨rfl, hd⟩
  exact ⟨rfl, drawn_ext hd⟩
theorem refWithout_any (xs : List Int) (n : Int) (v : Value) (w : World) (h64 : All64 xs) (hr : RI w v xs) : Calls Tryz.prog 40 #[v, .int .i64 n] w fun e w' => ∃ v', e = .returned v' ∧ RI w' v' (WithoutV xs n) ∧ Ext w w' := by
  obtain ⟨K, hK⟩ := PLitsTwo.Without_f xs n h64 hr.max
  obtain ⟨A, c, rfl, h1, h2⟩ := hr.kd
  refine (PLitsTwo.skolemref01_Without.calls K A c xs n _ w h2 h1 (hK K (Nat.le_refl _))).mono ?_
  rintro e w' ⟨v', rfl, hs, hE⟩
  exact ⟨v', rfl, kdR_RI hs, hE⟩
theorem refJoin_any (xs ys : List Int) (v u : Value) (w : World) (h64 : All64 xs) (k64 : All64 ys) (hr : RI w v xs) (kr : RI w u ys) : Calls Tryz.prog 24 #[v, u] w fun e w' => ∃ v', e = .returned (.tuple #[v', .int .i64 (JoinV xs ys).2]) ∧ RI w' v' (JoinV xs ys).1 ∧ Ext w w' := by
  obtain ⟨K, hK⟩ := PLitsTwo.Join_f xs ys h64 k64 hr.max kr.max
  obtain ⟨A, c, rfl, h1, h2⟩ := hr.kd
  obtain ⟨B, d, rfl, k1, k2⟩ := kr.kd
  refine (PLitsTwo.skolemref01_Join.calls K A c xs B d ys _ _ w h2 h1 k2 k1 (hK K (Nat.le_refl _))).mono ?_
  rintro e w' ⟨v', rfl, hs, hE⟩
  exact ⟨v', rfl, kdR_RI hs, hE⟩
theorem refResolve_any (xs ys : List Int) (n : Int) (v u : Value) (w : World) (h64 : All64 xs) (k64 : All64 ys) (hn : I64 n) (hr : RI w v xs) (kr : RI w u ys) : Calls Tryz.prog 25 #[v, u, .int .i64 n] w fun e w' => ∃ v', e = .returned (.tuple #[v', .int .i64 (ResolveV xs ys n).2]) ∧ RI w' v' (ResolveV xs ys n).1 ∧ Ext w w' := by
  obtain ⟨K, hK⟩ := PLitsTwo.Resolve_f xs ys n h64 k64 hn hr.max kr.max
  obtain ⟨A, c, rfl, h1, h2⟩ := hr.kd
  obtain ⟨B, d, rfl, k1, k2⟩ := kr.kd
  refine (PLitsTwo.skolemref01_Resolve.calls K A c xs B d ys n _ _ w h2 h1 k2 k1 (hK K (Nat.le_refl _))).mono ?_
  rintro e w' ⟨v', rfl, hs, hE⟩
  exact ⟨v', rfl, kdR_RI hs, hE⟩
theorem refSub_any (xs ys : List Int) (v u : Value) (w : World) (h64 : All64 xs) (k64 : All64 ys) (hr : RI w v xs) (kr : RI w u ys) : Calls Tryz.prog 27 #[v, u] w fun e w' => e = .returned (.bool (subB xs ys)) ∧ Ext w w' := by
  obtain ⟨K, hK⟩ := PLitsTwo.Sub_f xs ys h64 k64 hr.max kr.max
  obtain ⟨A, c, rfl, h1, h2⟩ := hr.kd
  obtain ⟨B, d, rfl, k1, k2⟩ := kr.kd
  refine (PLitsTwo.skolemref01_Sub.calls K A c xs B d ys _ w h2 h1 k2 k1 (hK K (Nat.le_refl _))).mono ?_
  rintro e w' ⟨rfl, hd⟩
  exact ⟨rfl, drawn_ext hd⟩
theorem refStrike_any (xs ys : List Int) (v u : Value) (w : World) (h64 : All64 xs) (k64 : All64 ys) (hr : RI w v xs) (kr : RI w u ys) : Calls Tryz.prog 28 #[v, u] w fun e w' => e = .returned (.int .i64 (StrikeV xs ys)) ∧ Ext w w' := by
  obtain ⟨K, hK⟩ := PLitsTwo.Strike_f xs ys h64 k64 hr.max kr.max
  obtain ⟨A, c, rfl, h1, h2⟩ := hr.kd
  obtain ⟨B, d, rfl, k1, k2⟩ := kr.kd
  refine (PLitsTwo.skolemref01_Strike.calls K A c xs B d ys _ w h2 h1 k2 k1 (hK K (Nat.le_refl _))).mono ?_
  rintro e w' ⟨rfl, hd⟩
  exact ⟨rfl, hd⟩
theorem refCompare_any (xs ys : List Int) (v u : Value) (w : World) (h64 : All64 xs) (k64 : All64 ys) (hr : RI w v xs) (kr : RI w u ys) : Calls Tryz.prog 30 #[v, u] w fun e w' => e = .returned (.int .i64 (cmpL xs ys)) ∧ Ext w w' := by
  obtain ⟨K, hK⟩ := PLitsTwo.Compare_f xs ys h64 k64 hr.max kr.max
  obtain ⟨A, c, rfl, h1, h2⟩ := hr.kd
  obtain ⟨B, d, rfl, k1, k2⟩ := kr.kd
  refine (PLitsTwo.skolemref01_Compare.calls K A c xs B d ys _ w h2 h1 k2 k1 (hK K (Nat.le_refl _))).mono ?_
  rintro e w' ⟨rfl, hd⟩
  exact ⟨rfl, drawn_ext hd⟩
end Go.Proofs.YtlompphnngnaiaaGreatDoor
namespace Go.Proofs.YtlompphnngnaiaaGreatDoor
open Go.RowKit

set_option maxRecDepth 100000 in
set_option maxHeartbeats 20000000 in
theorem two_law (a b : List Int) (n : Int) (va vb : Value) (w : World) (a64 : All64 a) (b64 : All64 b) (hn : I64 n) (ar : RI w va a) (br : RI w vb b) (hL : LW w) :
    Calls Tryz.prog 7 #[va, vb, .int .i64 n] w fun e w' => e = .returned (.bool true) ∧ Ext w w' := by
  have HA := Lib.hid ar
  have HB := Lib.hid br
  have HL := Lib.hid hL
  have HJ := Lib.hid (fun (w' : World) (he : Ext w w') => Join_any a b va vb w' a64 b64 (HA.out.ext he) (HB.out.ext he))
  have HRJ := Lib.hid (fun (w' : World) (he : Ext w w') => refJoin_any a b va vb w' a64 b64 (HA.out.ext he) (HB.out.ext he))
  have HV := Lib.hid (fun (w' : World) (he : Ext w w') => Resolve_any a b n va vb w' a64 b64 hn (HA.out.ext he) (HB.out.ext he))
  have HRV := Lib.hid (fun (w' : World) (he : Ext w w') => refResolve_any a b n va vb w' a64 b64 hn (HA.out.ext he) (HB.out.ext he))
  have HS := Lib.hid (fun (w' : World) (he : Ext w w') => Sub_any a b va vb w' a64 b64 (HA.out.ext he) (HB.out.ext he))
  have HRS := Lib.hid (fun (w' : World) (he : Ext w w') => refSub_any a b va vb w' a64 b64 (HA.out.ext he) (HB.out.ext he))
  have HK := Lib.hid (fun (w' : World) (he : Ext w w') => Strike_any a b va vb w' a64 b64 (HA.out.ext he) (HB.out.ext he))
  have HRK := Lib.hid (fun (w' : World) (he : Ext w w') => refStrike_any a b va vb w' a64 b64 (HA.out.ext he) (HB.out.ext he))
  have HC := Lib.hid (fun (w' : World) (he : Ext w w') => (Compare_any a b va vb w' a64 b64 (HA.out.ext he) (HB.out.ext he)).mono (R' := fun e w'' => e = .returned (.int .i64 (cmpL a b)) ∧ Ext w' w'') fun _ _ h => ⟨h.1, h.2.ext⟩)
  have HRC := Lib.hid (fun (w' : World) (he : Ext w w') => refCompare_any a b va vb w' a64 b64 (HA.out.ext he) (HB.out.ext he))
  obtain ⟨A, c, rfl, h1, h2, h3⟩ := ar
  obtain ⟨B, d, rfl, k1, k2, k3⟩ := br
  clear h3 k3 hL
  generalize JoinV a b = J at HJ HRJ
  generalize ResolveV a b n = R at HV HRV
  obtain ⟨J1, J2⟩ := J
  obtain ⟨R1, R2⟩ := R
  generalize subB a b = S at HS HRS
  generalize StrikeV a b = K at HK HRK
  generalize cmpL a b = C at HC HRC
  simp only at HJ HRJ HV HRV
  have hc1 : ∀ a : Int, (a == a) = true := fun a => by simp
  have hc2 : ∀ a : Bool, (a == a) = true := fun a => by simp
  by_cases hbig : a.length > 1000 ∨ b.length > 1000
  · go_enter Tryz.func7, Tryz.ntmps7
    go_wp2_with ((go_at_call 11; refine (awake_any _ HL.out).mono ?_; rintro e w1 ⟨rfl, hE⟩))
    all_goals first
      | (exfalso; omega)
      | (go_ret; exact ⟨rfl, hE⟩)
  · obtain ⟨hs1, hs2⟩ := not_or.1 hbig
    clear hbig
    go_enter Tryz.func7, Tryz.ntmps7
    go_upto_region 7 with (first
      | (go_at_call 23
         refine (HJ.out _ (Ext.refl _)).mono ?_
         rintro e w2 ⟨v2, rfl, ho, hE⟩
         have HO2 := Lib.hid ho.reads
         have HE2 := Lib.hid hE
         clear ho hE)
      | (go_at_call 24
         refine (HRJ.out _ HE2.out).mono ?_
         rintro e w3 ⟨v3, rfl, ho, hE⟩
         have HO3 := Lib.hid ho
         have HE3 := Lib.hid (HE2.out.trans hE)
         have HE23 := Lib.hid hE
         clear ho hE)
      | (go_at_call 18
         refine (HV.out _ HE3.out).mono ?_
         rintro e w4 ⟨v4, rfl, ho, hE⟩
         have HO4 := Lib.hid ho.reads
         have HE4 := Lib.hid (HE3.out.trans hE)
         have HE34 := Lib.hid hE
         clear ho hE)
      | (go_at_call 25
         refine (HRV.out _ HE4.out).mono ?_
         rintro e w5 ⟨v5, rfl, ho, hE⟩
         have HO5 := Lib.hid ho
         have HE5 := Lib.hid (HE4.out.trans hE)
         have HE45 := Lib.hid hE
         clear ho hE))
    have HO2' := Lib.hid (HO2.out.ext (HE23.out.trans (HE34.out.trans HE45.out)))
    have HO3' := Lib.hid (HO3.out.ext (HE34.out.trans HE45.out))
    have HO4' := Lib.hid (HO4.out.ext HE45.out)
    clear HO2 HO3 HO4 HE23 HE34 HE45
    have cg : w5.cell? ⟨0, 0, Option.none⟩ = some (.func (.func 86) #[] #[]) := HL.out.same.ext HE5.out
    go_wp2_with (first
      | (refine wpList_callv (.tmp 51) #[.tmp 52, .tmp 53] _ rfl (by rfl) #[] rfl fv_same #[v2, v3] (by simp only [List.map_toArray, List.map_cons, List.map_nil, List.append_toArray, List.cons_append, List.nil_append]; rfl) ?_
         refine (Same_refl J1 _ _ _ HO2'.out HO3'.out).mono ?_
         rintro e w6 ⟨rfl, hE⟩
         refine ⟨_, rfl, ?_⟩
         simp only [Act.put, List.setIfInBounds_toArray, List.set_cons_zero, List.set_cons_succ]
         have HE6 := Lib.hid (HE5.out.trans hE)
         have HE56 := Lib.hid hE
         have cg6 : w6.cell? ⟨0, 0, Option.none⟩ = some (.func (.func 86) #[] #[]) := HL.out.same.ext HE6.out
         clear hE cg)
      | (refine wpList_callv (.tmp 61) #[.tmp 62, .tmp 63] _ rfl (by rfl) #[] rfl fv_same #[v4, v5] (by simp only [List.map_toArray, List.map_cons, List.map_nil, List.append_toArray, List.cons_append, List.nil_append]; rfl) ?_
         refine (Same_refl R1 _ _ _ (HO4'.out.ext HE56.out) (HO5.out.ext HE56.out)).mono ?_
         rintro e w7 ⟨rfl, hE⟩
         refine ⟨_, rfl, ?_⟩
         simp only [Act.put, List.setIfInBounds_toArray, List.set_cons_zero, List.set_cons_succ]
         have HE7 := Lib.hid (HE6.out.trans hE)
         clear hE cg6)
      | (go_at_call 26; refine (HS.out _ HE7.out).mono ?_; rintro e w8 ⟨rfl, hE⟩; have HE8 := Lib.hid (HE7.out.trans hE); clear hE)
      | (go_at_call 27; refine (HRS.out _ HE8.out).mono ?_; rintro e w9 ⟨rfl, hE⟩; have HE9 := Lib.hid (HE8.out.trans hE); clear hE)
      | (go_at_call 21; refine (HK.out _ HE9.out).mono ?_; rintro e wa ⟨rfl, rfl⟩)
      | (go_at_call 28; refine (HRK.out _ HE9.out).mono ?_; rintro e wb ⟨rfl, hE⟩; have HEb := Lib.hid (HE9.out.trans hE); clear hE)
      | (go_at_call 29; refine (HC.out _ HEb.out).mono ?_; rintro e wc ⟨rfl, hE⟩; have HEc := Lib.hid (HEb.out.trans hE); clear hE)
      | (go_at_call 30; refine (HRC.out _ HEc.out).mono ?_; rintro e wd ⟨rfl, hE⟩; have HEd := Lib.hid (HEc.out.trans hE); clear hE)
      | (go_at_call 11; refine (awake_any _ (HL.out.ext HEd.out)).mono ?_; rintro e w8 ⟨rfl, hE⟩; have HEe := Lib.hid (HEd.out.trans hE); clear hE))
    go_ret
    exact ⟨rfl, HEe.out⟩
end Go.Proofs.YtlompphnngnaiaaGreatDoor
