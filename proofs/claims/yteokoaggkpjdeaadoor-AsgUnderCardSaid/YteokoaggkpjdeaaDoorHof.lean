/- Library functions that are handed a function value: IndexFunc, ContainsFunc. -/
import Derived.Test.YteokoaggkpjdeaaDoorLits1
namespace Go.Proofs.YteokoaggkpjdeaaDoor
open Go.RowKit

/-- What IndexFunc comes to: the first place of n at which p holds, or -1. -/
def IdxOf (p : Nat → Bool) (n : Nat) (r : Int) : Prop :=
  (∃ k, k < n ∧ p k = true ∧ (∀ j, j < k → p j = false) ∧ r = (k : Int)) ∨ ((∀ j, j < n → p j = false) ∧ r = -1)

/-- .. with a state that each call turns. -/
def IdxSt (p : Nat → Bool) (n : Nat) (J : Nat → World → Prop) (r : Int) (w : World) : Prop :=
  (∃ k, k < n ∧ p k = true ∧ (∀ j, j < k → p j = false) ∧ r = (k : Int) ∧ J (k + 1) w) ∨ ((∀ j, j < n → p j = false) ∧ r = -1 ∧ J n w)

def PostIdx (p : Nat → Bool) (n : Nat) (J : Nat → World → Prop) (e : Ending) (w : World) : Prop := ∃ r : Int, e = .returned (.int .i64 r) ∧ IdxSt p n J r w

set_option maxHeartbeats 400000 in
theorem indexFuncI (f : FuncId) (cap : Array Value) (hf : Fv Tryd.prog f) (A : Option Addr) (c : Nat) (vs : List Value) (hm : vs.length ≤ 9223372036854775807) (p : Nat → Bool) (J : Nat → World → Prop) (w : World)
    (hJ : ∀ k w', J k w' → Row w' A vs)
    (hcl : ∀ k (h : k < vs.length) w', J k w' → Calls Tryd.prog f (#[vs[k]] ++ cap) w' fun e w'' => e = .returned (.bool (p k)) ∧ J (k + 1) w'')
    (h0 : J 0 w) :
    Calls Tryd.prog 71 #[.slice A vs.length c, .func (.func f) #[] cap] w (PostIdx p vs.length J) := by
  have HJ := Lib.hid hJ
  have HCL := Lib.hid hcl
  have H0 := Lib.hid h0
  clear hJ hcl h0
  go_enter Tryd.func71, Tryd.ntmps71
  go_wp2
  go_loopw [8] (fun i wr => ∃ k : Nat, k ≤ vs.length ∧ i = .int .i64 k ∧ Hid (J k wr) ∧ Hid (∀ j, j < k → p j = false)) (fun i _ => vs.length - (intOf i).toNat)
  case atStart => exact ⟨0, Nat.zero_le _, rfl, H0, fun j h => absurd h (Nat.not_lt_zero j)⟩
  case round =>
    obtain ⟨k, hk, rfl, HK, HP⟩ := hrel
    by_cases hlt : k < vs.length
    · obtain ⟨ad, rfl, hcell⟩ := HJ.out k _ HK.out k hlt
      go_wp2_with (refine wpList_callv (.tmp 11) #[.tmp 15] _ rfl rfl cap rfl hf (#[vs[k]] ++ cap) (by simp only [List.map_toArray, List.map_cons, List.map_nil]; rfl) ?_; refine (HCL.out k hlt _ HK.out).mono ?_; rintro e w' ⟨rfl, hJ'⟩; refine ⟨_, rfl, ?_⟩; have HJ' := Lib.hid hJ'; clear hJ')
      · go_ret
        exact ⟨k, rfl, .inl ⟨k, hlt, by assumption, HP.out, rfl, HJ'.out⟩⟩
      · have hpk : p k = false := by assumption
        go_round
        case rel => exact ⟨k + 1, by omega, by go_num, HJ', fun j hj => if h : j = k then h ▸ hpk else HP.out j (by omega)⟩
        case measure => simp [intOf]; omega
    · go_wp2
      go_ret
      obtain rfl : k = vs.length := by omega
      exact ⟨-1, rfl, .inr ⟨HP.out, rfl, HK.out⟩⟩
set_option maxHeartbeats 400000 in
theorem indexFuncL (f : FuncId) (cap : Array Value) (hf : Fv Tryd.prog f) (A : Option Addr) (c : Nat) (vs : List Value) (hm : vs.length ≤ 9223372036854775807) (p : Nat → Bool) (J : Nat → World → Prop) (w : World)
    (hJ : ∀ k w', J k w' → Row w' A vs)
    (hcl : ∀ k (h : k < vs.length) w', J k w' → Calls Tryd.prog f (#[vs[k]] ++ cap) w' fun e w'' => e = .returned (.bool (p k)) ∧ J (k + 1) w'')
    (h0 : J 0 w) :
    Calls Tryd.prog 95 #[.slice A vs.length c, .func (.func f) #[] cap] w (PostIdx p vs.length J) := by
  have HJ := Lib.hid hJ
  have HCL := Lib.hid hcl
  have H0 := Lib.hid h0
  clear hJ hcl h0
  go_enter Tryd.func95, Tryd.ntmps95
  go_wp2
  go_loopw [8] (fun i wr => ∃ k : Nat, k ≤ vs.length ∧ i = .int .i64 k ∧ Hid (J k wr) ∧ Hid (∀ j, j < k → p j = false)) (fun i _ => vs.length - (intOf i).toNat)
  case atStart => exact ⟨0, Nat.zero_le _, rfl, H0, fun j h => absurd h (Nat.not_lt_zero j)⟩
  case round =>
    obtain ⟨k, hk, rfl, HK, HP⟩ := hrel
    by_cases hlt : k < vs.length
    · obtain ⟨ad, rfl, hcell⟩ := HJ.out k _ HK.out k hlt
      go_wp2_with (refine wpList_callv (.tmp 11) #[.tmp 15] _ rfl rfl cap rfl hf (#[vs[k]] ++ cap) (by simp only [List.map_toArray, List.map_cons, List.map_nil]; rfl) ?_; refine (HCL.out k hlt _ HK.out).mono ?_; rintro e w' ⟨rfl, hJ'⟩; refine ⟨_, rfl, ?_⟩; have HJ' := Lib.hid hJ'; clear hJ')
      · go_ret
        exact ⟨k, rfl, .inl ⟨k, hlt, by assumption, HP.out, rfl, HJ'.out⟩⟩
      · have hpk : p k = false := by assumption
        go_round
        case rel => exact ⟨k + 1, by omega, by go_num, HJ', fun j hj => if h : j = k then h ▸ hpk else HP.out j (by omega)⟩
        case measure => simp [intOf]; omega
    · go_wp2
      go_ret
      obtain rfl : k = vs.length := by omega
      exact ⟨-1, rfl, .inr ⟨HP.out, rfl, HK.out⟩⟩

def PostCont (p : Nat → Bool) (n : Nat) (J : Nat → World → Prop) (e : Ending) (w : World) : Prop := ∃ r : Int, e = .returned (.bool (decide (0 ≤ r))) ∧ IdxSt p n J r w

set_option maxHeartbeats 400000 in
theorem containsFuncI (f : FuncId) (cap : Array Value) (hf : Fv Tryd.prog f) (A : Option Addr) (c : Nat) (vs : List Value) (hm : vs.length ≤ 9223372036854775807) (p : Nat → Bool) (J : Nat → World → Prop) (w : World)
    (hJ : ∀ k w', J k w' → Row w' A vs)
    (hcl : ∀ k (h : k < vs.length) w', J k w' → Calls Tryd.prog f (#[vs[k]] ++ cap) w' fun e w'' => e = .returned (.bool (p k)) ∧ J (k + 1) w'')
    (h0 : J 0 w) :
    Calls Tryd.prog 82 #[.slice A vs.length c, .func (.func f) #[] cap] w (PostCont p vs.length J) := by
  have H := Lib.hid (indexFuncI f cap hf A c vs hm p J w hJ hcl h0)
  clear hJ hcl h0
  go_enter Tryd.func82, Tryd.ntmps82
  go_wp2_with (go_at_call 71; refine H.out.mono ?_; rintro e w' ⟨r, rfl, hs⟩; have HS := Lib.hid hs; clear hs)
  go_ret
  exact ⟨r, rfl, HS.out⟩
set_option maxHeartbeats 400000 in
theorem containsFuncL (f : FuncId) (cap : Array Value) (hf : Fv Tryd.prog f) (A : Option Addr) (c : Nat) (vs : List Value) (hm : vs.length ≤ 9223372036854775807) (p : Nat → Bool) (J : Nat → World → Prop) (w : World)
    (hJ : ∀ k w', J k w' → Row w' A vs)
    (hcl : ∀ k (h : k < vs.length) w', J k w' → Calls Tryd.prog f (#[vs[k]] ++ cap) w' fun e w'' => e = .returned (.bool (p k)) ∧ J (k + 1) w'')
    (h0 : J 0 w) :
    Calls Tryd.prog 77 #[.slice A vs.length c, .func (.func f) #[] cap] w (PostCont p vs.length J) := by
  have H := Lib.hid (indexFuncL f cap hf A c vs hm p J w hJ hcl h0)
  clear hJ hcl h0
  go_enter Tryd.func77, Tryd.ntmps77
  go_wp2_with (go_at_call 95; refine H.out.mono ?_; rintro e w' ⟨r, rfl, hs⟩; have HS := Lib.hid hs; clear hs)
  go_ret
  exact ⟨r, rfl, HS.out⟩

end Go.Proofs.YteokoaggkpjdeaaDoor
