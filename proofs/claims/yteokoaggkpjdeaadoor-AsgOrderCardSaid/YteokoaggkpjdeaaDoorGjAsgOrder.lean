/- The law AsgOrder returns true for every input: its tied card, out of the row's proof. -/
import Derived.Test.YteokoaggkpjdeaaDoorGiAsgOrder
import Derived.Test.YteokoaggkpjdeaaDoorTie
import Derived.Test.YteokoaggkpjdeaaDoorCards
import Derived.SevenTiedAt
namespace Go.Proofs.YteokoaggkpjdeaaDoor
open Go

theorem asgOrder_card_holds : Rows.AsgOrderCardSaid :=
  Claim7.holds_tied_plain_at .later [] [.funcs] true (true, "78557ba4e76e4f76202f4751d7937f66e79b51ffa7f82e6731576222bca4cbf5") true
    asgOrder_holds (fun _ h => by cases h) (by kernel_rfl) (fun _ h => by cases h) asgOrder_row_tie rfl ⟨rfl, rfl⟩ (by kernel_rfl) rfl
    (fun f fn hf hfn => by
      obtain rfl : f = 9 := Option.some.inj ((show Tryd.prog.funcNamed "skolem/skolemlaw02.AsgOrder" = some 9 by kernel_rfl).symm.trans hf) |>.symm
      obtain rfl : fn = Tryd.f9 := (Option.some.inj (Tryd.func9.symm.trans hfn)).symm
      exact ⟨by kernel_rfl, fun j t ht => by
        rw [Tryd.params9] at ht
        have hm : t ∈ [23, 22, 5] := by simpa using Array.mem_of_getElem? ht
        have hall : ([23, 22, 5].all fun u => !Tryd.prog.wantsStandIn u) = true := by kernel_rfl
        exact (show Tryd.prog.wantsStandIn t = false by simpa using List.all_eq_true.1 hall t hm)⟩)
    (by kernel_rfl)
#print axioms asgOrder_card_holds

end Go.Proofs.YteokoaggkpjdeaaDoor
