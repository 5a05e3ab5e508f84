/- Walks of lits.size, lits.Var, lits.May. -/
import Derived.Test.YteokoaggkpjdeaaDoorBase
namespace Go.Proofs.YteokoaggkpjdeaaDoor
open Go.RowKit

theorem ret_int {k : IntKind} {a b : Int} (h : a = b) : Ending.returned (.int k a) = .returned (.int k b) := by rw [h]

theorem ret_bool {a b : Bool} (h : a = b) : Ending.returned (.bool a) = .returned (.bool b) := by rw [h]
theorem wrapu (n : Int) : IntKind.u64.wrap n = n % 18446744073709551616 := by
  simp [IntKind.wrap, IntKind.signed, IntKind.bits]

set_option maxHeartbeats 400000 in
theorem size_any (n : Int) (hn : I64 n) (w : World) :
    Calls Tryd.prog 84 #[.int .i64 n] w fun e w' => e = .returned (.int .u64 (n.natAbs : Int)) ∧ w = w' := by
  unfold I64 at hn
  go_enter Tryd.func84, Tryd.ntmps84
  go_wp2
  all_goals
    go_ret
    refine ⟨ret_int ?_, rfl⟩
    try simp only [wrapu]
    omega

set_option maxHeartbeats 400000 in
theorem var_any (n : Int) (hn : I64 n) (w : World) :
    Calls Tryd.prog 57 #[.int .i64 n] w fun e w' => e = .returned (.int .i64 (varOf n)) ∧ w = w' := by
  have hn' := hn
  unfold I64 at hn'
  go_enter Tryd.func57, Tryd.ntmps57
  go_wp2_with (go_at_call 84; refine (size_any _ hn _).mono ?_; rintro e w' ⟨rfl, rfl⟩)
  all_goals
    go_ret
    refine ⟨ret_int ?_, rfl⟩
    unfold varOf
    first | rw [if_pos (by omega)] | rw [if_neg (by omega)]

theorem var_still (n : Int) (hn : I64 n) (w : World) :
    Calls Tryd.prog 57 #[.int .i64 n] w fun e w' => e = .returned (.int .i64 (varOf n)) ∧ w' = w := (var_any n hn w).mono fun _ _ ⟨h1, h2⟩ => ⟨h1, h2.symm⟩

set_option maxHeartbeats 400000 in
theorem may_any (v : Value) (xs : List Int) (w : World) (hr : RI w v xs) (h64 : All64 xs) :
    Calls Tryd.prog 43 #[v] w fun e w' => e = .returned (.bool (mayB xs)) ∧ w = w' := by
  obtain ⟨A, c, rfl, hc, hm, hcell⟩ := hr
  have HC := Lib.hid hcell
  clear hcell
  go_enter Tryd.func43, Tryd.ntmps43
  go_wp2
  go_loop [3, 9] (fun l i => ∃ (k : Nat) (last : Int), k ≤ xs.length ∧ i = .int .i64 k ∧ l = .int .i64 last ∧ Hid (mayFrom last (xs.drop k) = mayB xs)) (fun _ i => xs.length - (intOf i).toNat)
  case atStart => exact ⟨0, 0, Nat.zero_le _, rfl, rfl, rfl⟩
  case round =>
    obtain ⟨k, last, hk, rfl, rfl, HI⟩ := hrel
    by_cases hlt : k < xs.length
    · obtain ⟨ad, rfl, hcell⟩ := HC.out.int k hlt
      have hx := h64 _ (List.getElem_mem hlt)
      have HD := Lib.hid (mayFrom_drop last xs k hlt)
      go_wp2_with (go_at_call 57; refine (var_any _ hx _).mono ?_; rintro e w' ⟨rfl, rfl⟩)
      · go_ret
        have hle : varOf xs[k] ≤ last := by assumption
        refine ⟨ret_bool ?_, rfl⟩
        rw [← HI.out, HD.out, if_pos hle]
      · go_round
        case rel =>
          have hgt : last < varOf xs[k] := by assumption
          exact ⟨k + 1, varOf xs[k], by omega, by go_num, rfl, by rw [← HI.out, HD.out, if_neg (by omega)]; rfl⟩
        case measure => simp [intOf]; omega
    · go_wp2
      go_ret
      refine ⟨ret_bool ?_, rfl⟩
      rw [← HI.out, List.drop_eq_nil_of_le (by omega)]; rfl

end Go.Proofs.YteokoaggkpjdeaaDoor
