/- The law AsgTwice returns true for every input: its tied card, out of the row's proof. -/
import Derived.Test.YteokoaggkpjdeaaDoorGiAsgTwice
import Derived.Test.YteokoaggkpjdeaaDoorTie
import Derived.Test.YteokoaggkpjdeaaDoorCards
import Derived.SevenTiedAt
namespace Go.Proofs.YteokoaggkpjdeaaDoor
open Go

theorem asgTwice_card_holds : Rows.AsgTwiceCardSaid :=
  Claim7.holds_tied_plain_at .later [] [.funcs] true (true, "78557ba4e76e4f76202f4751d7937f66e79b51ffa7f82e6731576222bca4cbf5") true
    asgTwice_holds (fun _ h => by cases h) (by kernel_rfl) (fun _ h => by cases h) asgTwice_row_tie rfl ⟨rfl, rfl⟩ (by kernel_rfl) rfl
    (fun f fn hf hfn => by
      obtain rfl : f = 6 := Option.some.inj ((show Tryd.prog.funcNamed "skolem/skolemlaw02.AsgTwice" = some 6 by kernel_rfl).symm.trans hf) |>.symm
      obtain rfl : fn = Tryd.f6 := (Option.some.inj (Tryd.func6.symm.trans hfn)).symm
      exact ⟨by kernel_rfl, fun j t ht => by
        rw [Tryd.params6] at ht
        have hm : t ∈ [23, 22, 22] := by simpa using Array.mem_of_getElem? ht
        have hall : ([23, 22, 22].all fun u => !Tryd.prog.wantsStandIn u) = true := by kernel_rfl
        exact (show Tryd.prog.wantsStandIn t = false by simpa using List.all_eq_true.1 hall t hm)⟩)
    (by kernel_rfl)
#print axioms asgTwice_card_holds

end Go.Proofs.YteokoaggkpjdeaaDoor
