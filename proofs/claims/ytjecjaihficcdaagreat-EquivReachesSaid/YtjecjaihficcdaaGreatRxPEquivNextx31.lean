/- Words and contracts of printed texts, cut to what this claim uses. -/
import Derived.Test.YtjecjaihficcdaaGreatRxPEquivNextx0
import Derived.Test.YtjecjaihficcdaaGreatRxK
namespace Go.Proofs.YtjecjaihficcdaaGreat.PEquivNext
open Go.RowKit Go.Proofs.YtjecjaihficcdaaGreatW.PrintWords
def skolemref16_sorted.f (_ : Nat) (l0 : List Int) : Option (List Int) := if (l0.all fun x => decide (-9223372036854775808 ≤ x ∧ x ≤ 9223372036854775807)) = true ∧ l0.length ≤ 1000000 then some (setL [] l0) else none
theorem skolemref16_sorted.calls (k : Nat) (A0 : Option Addr) (c0 : Nat) (l0 : List Int) (r : List Int) (w : World) (hr0 : Kd.C (Kd.int .i64) w A0 l0.length l0) (hc0 : l0.length ≤ c0) (h : skolemref16_sorted.f k l0 = some r) :
 Calls Tryz.prog 44 #[.slice A0 l0.length c0] w fun e w' => ∃ v0_ : Value, e = .returned (v0_) ∧ Kd.R (Kd.int .i64) 3 w' w.heap.size (fun _ => True) v0_ r ∧ Below w.heap.size w w' := by
 unfold skolemref16_sorted.f at h
 split at h
 · rename_i hc
   injection h with h
   subst h
   refine (refsorted_own l0 _ w (all64_of _ hc.1) (kd_RI hr0 hc0) hc.2).mono ?_
   rintro e w' ⟨v, rfl, ho, hE⟩
   exact ⟨v, rfl, own_kdR ho, hE⟩
 · cases h
theorem sorted_f (l : List Int) (h64 : All64 l) (hl : l.length ≤ 1000000) : Evn (fun k => skolemref16_sorted.f k l) (setL [] l) := by
 unfold skolemref16_sorted.f
 rw [if_pos ⟨List.all_eq_true.2 fun x hx => decide_eq_true (h64 x hx), hl⟩]
 exact Evn.ret _
end Go.Proofs.YtjecjaihficcdaaGreat.PEquivNext
