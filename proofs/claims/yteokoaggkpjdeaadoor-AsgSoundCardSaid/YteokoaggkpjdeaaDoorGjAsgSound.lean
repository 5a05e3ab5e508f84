/- The law AsgSound returns true for every input: its tied card, out of the row's proof. -/
import Derived.Test.YteokoaggkpjdeaaDoorGiAsgSound
import Derived.Test.YteokoaggkpjdeaaDoorTie
import Derived.Test.YteokoaggkpjdeaaDoorCards
import Derived.SevenTiedAt
namespace Go.Proofs.YteokoaggkpjdeaaDoor
open Go

theorem asgSound_card_holds : Rows.AsgSoundCardSaid :=
  Claim7.holds_tied_plain_at .later [] [.funcs] true (true, "78557ba4e76e4f76202f4751d7937f66e79b51ffa7f82e6731576222bca4cbf5") true
    asgSound_holds (fun _ h => by cases h) (by kernel_rfl) (fun _ h => by cases h) asgSound_row_tie rfl ⟨rfl, rfl⟩ (by kernel_rfl) rfl
    (fun f fn hf hfn => by
      obtain rfl : f = 10 := Option.some.inj ((show Tryd.prog.funcNamed "skolem/skolemlaw02.AsgSound" = some 10 by kernel_rfl).symm.trans hf) |>.symm
      obtain rfl : fn = Tryd.f10 := (Option.some.inj (Tryd.func10.symm.trans hfn)).symm
      exact ⟨by kernel_rfl, fun j t ht => by
        rw [Tryd.params10] at ht
        have hm : t ∈ [23, 22] := by simpa using Array.mem_of_getElem? ht
        have hall : ([23, 22].all fun u => !Tryd.prog.wantsStandIn u) = true := by kernel_rfl
        exact (show Tryd.prog.wantsStandIn t = false by simpa using List.all_eq_true.1 hall t hm)⟩)
    (by kernel_rfl)
#print axioms asgSound_card_holds

end Go.Proofs.YteokoaggkpjdeaaDoor
