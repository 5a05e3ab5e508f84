/- Walk of skolemlaw01.true1, and what LitsResolves says in plain words. -/
import Derived.Test.YtlompphnngnaiaaGreatDoorLc
import Derived.Test.YtlompphnngnaiaaGreatDoorLa
namespace Go.Proofs.YtlompphnngnaiaaGreatDoor
open Go.RowKit

/-- A list of literals is true if exactly these variables are. -/
def litT (vs : List Int) (x : Int) : Bool := decide (0 < x) == decide (max x (-x) ∈ vs)
def trueL (vs xs : List Int) : Bool := xs.any (litT vs)

theorem litT_neg {vs : List Int} {x : Int} (h : x ≠ 0) : litT vs (-x) = !litT vs x := by
  unfold litT
  rw [Int.neg_neg, Int.max_comm]
  rcases Int.lt_trichotomy x 0 with h1 | h1 | h1
  · have e1 : decide (0 < -x) = true := by simpa using h1
    have e2 : decide (0 < x) = false := by simp; omega
    rw [e1, e2]
    cases decide (max x (-x) ∈ vs) <;> rfl
  · exact absurd h1 h
  · have e1 : decide (0 < -x) = false := by simp; omega
    have e2 : decide (0 < x) = true := by simpa using h1
    rw [e1, e2]
    cases decide (max x (-x) ∈ vs) <;> rfl

theorem resolve_true {vs a b : List Int} {v : Int} (h : (ResolveV a b v).2 = 0) (ha : trueL vs a = true) (hb : trueL vs b = true) : trueL vs (ResolveV a b v).1 = true := by
  obtain ⟨h1, h2, h3, h4, h5, h6, h7⟩ := resolve_ok h
  unfold trueL at *
  rw [List.any_eq_true] at *
  have key : ∀ x : Int, varOf x = v → x = v ∨ x = -v := fun x hx => by unfold varOf at hx; split at hx <;> omega
  obtain ⟨x, hx, tx⟩ := ha
  obtain ⟨y, hy, ty⟩ := hb
  by_cases e1 : varOf x = v
  · by_cases e2 : varOf y = v
    · exfalso
      have hxv : x = v := by
        rcases key x e1 with h | h
        · exact h
        · exact absurd (Asc.inj ((mayB_iff a).1 h1) h4 (h ▸ hx) (varOf_neg v).symm) (by omega)
      have hyv : y = -v := by
        rcases key y e2 with h | h
        · exact absurd (Asc.inj ((mayB_iff b).1 h2) (h ▸ hy) h5 (varOf_neg v).symm) (by omega)
        · exact h
      rw [hyv, litT_neg (by omega), ← hxv, tx] at ty
      cases ty
    · exact ⟨y, (h7 y).2 (.inr ⟨hy, e2⟩), ty⟩
  · exact ⟨x, (h7 x).2 (.inl ⟨hx, e1⟩), tx⟩
theorem resolve_in {a b : List Int} {v z : Int} (h : (ResolveV a b v).2 = 0) (hz : z ∈ (ResolveV a b v).1) : z ∈ a ∨ z ∈ b := by
  obtain ⟨-, -, -, -, -, -, h7⟩ := resolve_ok h
  rcases (h7 z).1 hz with h | h
  · exact .inl h.1
  · exact .inr h.1
theorem resolve_may {a b : List Int} {v : Int} (h : (ResolveV a b v).2 = 0) : mayB (ResolveV a b v).1 = true := (mayB_iff _).2 (resolve_ok h).2.2.2.2.2.1

set_option maxRecDepth 100000 in
set_option maxHeartbeats 2000000 in
theorem true1_any (xs vs : List Int) (v u : Value) (w : World) (hr : RI w v xs) (kr : RI w u vs) (hs : ∀ x ∈ xs, x.natAbs ≤ 65536) :
    Calls Tryz.prog 19 #[v, u] w fun e w' => e = .returned (.bool (trueL vs xs)) ∧ w = w' := by
  have HR := Lib.hid hr
  have HC := Lib.hid (fun (y : Int) => contains_any vs y u w kr)
  have HS := Lib.hid hs
  obtain ⟨A, c, rfl, h1, h2, h3⟩ := hr
  clear h3 hs kr
  go_enter Tryz.func19, Tryz.ntmps19
  go_wp2
  go_loop [9] (fun i => ∃ k : Nat, k ≤ xs.length ∧ i = .int .i64 k ∧ Hid (trueL vs (xs.drop k) = trueL vs xs)) (fun i => xs.length - (intOf i).toNat)
  case atStart => exact ⟨0, Nat.zero_le _, rfl, rfl⟩
  case round =>
    obtain ⟨k, hk, rfl, HI⟩ := hrel
    by_cases hlt : k < xs.length
    · obtain ⟨ad, rfl, hx0⟩ := HR.out.row.2.2.2.int k hlt
      have hd := List.drop_eq_getElem_cons hlt
      obtain ⟨x, hx⟩ : ∃ x, x = xs[k] := ⟨_, rfl⟩
      have hxs : x.natAbs ≤ 65536 := HS.out x (hx ▸ List.getElem_mem hlt)
      rw [← hx] at hx0 hd
      have HD := Lib.hid hd
      clear hx hd
      have hT : trueL vs (x :: xs.drop (k + 1)) = (litT vs x || trueL vs (xs.drop (k + 1))) := by unfold trueL; rw [List.any_cons]
      have HT := Lib.hid hT
      clear hT
      by_cases hxl : x < -x
      · have HMX : Hid (max x (-x) = -x) := Lib.hid (by omega)
        have hp : decide (0 < x) = false := by simp; omega
        have hp' : ¬ (0 < x) := by omega
        have HL : Hid (litT vs x = (false == decide (-x ∈ vs))) := Lib.hid (by unfold litT; rw [hp, show max x (-x) = -x by omega])
        have HC2 := Lib.hid (HC.out (-x))
        generalize decide (-x ∈ vs) = cb at HC2 HL
        cases cb
        · go_wp2_with (go_at_call 20; (first | refine HC2.out.mono ?_ | (rw [HMX.out]; refine HC2.out.mono ?_)); rintro e w' ⟨rfl, rfl⟩)
          go_ret
          exact ⟨by rw [← HI.out, HD.out, HT.out, HL.out]; rfl, rfl⟩
        · go_wp2_with (go_at_call 20; (first | refine HC2.out.mono ?_ | (rw [HMX.out]; refine HC2.out.mono ?_)); rintro e w' ⟨rfl, rfl⟩)
          go_round
          case rel => exact ⟨k + 1, by omega, by go_num, Lib.hid (by rw [← HI.out, HD.out, HT.out, HL.out]; rfl)⟩
          case measure => simp [intOf]; omega
      · have HMX : Hid (max x (-x) = x) := Lib.hid (by omega)
        have HL : Hid (litT vs x = (decide (0 < x) == decide (x ∈ vs))) := Lib.hid (by unfold litT; rw [show max x (-x) = x by omega])
        have HC2 := Lib.hid (HC.out x)
        generalize decide (x ∈ vs) = cb at HC2 HL
        cases hp : decide (0 < x) <;> rw [hp] at HL
        all_goals
          cases cb
          all_goals
            go_wp2_with (go_at_call 20; (first | refine HC2.out.mono ?_ | (rw [HMX.out]; refine HC2.out.mono ?_)); rintro e w' ⟨rfl, rfl⟩)
            first
              | (go_ret; exact ⟨by rw [← HI.out, HD.out, HT.out, HL.out]; rfl, rfl⟩)
              | (go_round
                 case rel => exact ⟨k + 1, by omega, by go_num, Lib.hid (by rw [← HI.out, HD.out, HT.out, HL.out]; rfl)⟩
                 case measure => simp [intOf]; omega)
    · obtain rfl : k = xs.length := by omega
      go_wp2
      go_ret
      exact ⟨by rw [← HI.out, List.drop_length]; rfl, rfl⟩
end Go.Proofs.YtlompphnngnaiaaGreatDoor
