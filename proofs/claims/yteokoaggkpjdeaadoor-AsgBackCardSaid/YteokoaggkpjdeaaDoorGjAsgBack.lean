/- The law AsgBack returns true for every input: its tied card, out of the row's proof. -/
import Derived.Test.YteokoaggkpjdeaaDoorGiAsgBack
import Derived.Test.YteokoaggkpjdeaaDoorTie
import Derived.Test.YteokoaggkpjdeaaDoorCards
import Derived.SevenTiedAt
namespace Go.Proofs.YteokoaggkpjdeaaDoor
open Go

theorem asgBack_card_holds : Rows.AsgBackCardSaid :=
  Claim7.holds_tied_plain_at .later [] [.funcs] true (true, "78557ba4e76e4f76202f4751d7937f66e79b51ffa7f82e6731576222bca4cbf5") true
    asgBack_holds (fun _ h => by cases h) (by kernel_rfl) (fun _ h => by cases h) asgBack_row_tie rfl ⟨rfl, rfl⟩ (by kernel_rfl) rfl
    (fun f fn hf hfn => by
      obtain rfl : f = 7 := Option.some.inj ((show Tryd.prog.funcNamed "skolem/skolemlaw02.AsgBack" = some 7 by kernel_rfl).symm.trans hf) |>.symm
      obtain rfl : fn = Tryd.f7 := (Option.some.inj (Tryd.func7.symm.trans hfn)).symm
      exact ⟨by kernel_rfl, fun j t ht => by
        rw [Tryd.params7] at ht
        have hm : t ∈ [22, 22, 32, 32] := by simpa using Array.mem_of_getElem? ht
        have hall : ([22, 22, 32, 32].all fun u => !Tryd.prog.wantsStandIn u) = true := by kernel_rfl
        exact (show Tryd.prog.wantsStandIn t = false by simpa using List.all_eq_true.1 hall t hm)⟩)
    (by kernel_rfl)
#print axioms asgBack_card_holds

end Go.Proofs.YteokoaggkpjdeaaDoor
