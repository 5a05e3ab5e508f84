/- The law LitsTexts returns true for every input: its tied card, out of the row's proof. -/
import Derived.Test.YtlompphnngnaiaaGreatDoorLiLitsTexts
import Derived.Test.YtlompphnngnaiaaGreatDoorTie
import Derived.Test.YtlompphnngnaiaaGreatDoorCards
import Derived.SevenTiedAt
namespace Go.Proofs.YtlompphnngnaiaaGreatDoor
open Go

theorem litsTexts_card_holds : Rows.LitsTextsCardSaid :=
  Claim7.holds_tied_plain_at .later [] [.data, .data, .data, .data, .sentinel, .sentinel, .funcs, .pinned] true (true, "21a4e883901be01ba88377e0834c66cae4a8c281df6a17ab891ec9b0f0187d2e") true
    litsTexts_holds (fun _ h => by cases h) (by kernel_rfl) (fun _ h => by cases h) litsTexts_row_tie rfl ⟨rfl, rfl⟩ (by kernel_rfl) rfl
    (fun f fn hf hfn => by
      obtain rfl : f = 3 := Option.some.inj ((show Tryz.prog.funcNamed "skolem/skolemlaw01.LitsTexts" = some 3 by kernel_rfl).symm.trans hf) |>.symm
      obtain rfl : fn = Tryz.f3 := (Option.some.inj (Tryz.func3.symm.trans hfn)).symm
      exact ⟨by kernel_rfl, fun j t ht => by
        rw [Tryz.params3] at ht
        have hm : t ∈ [22, 9] := by simpa using Array.mem_of_getElem? ht
        have hall : ([22, 9].all fun u => !Tryz.prog.wantsStandIn u) = true := by kernel_rfl
        exact (show Tryz.prog.wantsStandIn t = false by simpa using List.all_eq_true.1 hall t hm)⟩)
    (by kernel_rfl)
#print axioms litsTexts_card_holds

end Go.Proofs.YtlompphnngnaiaaGreatDoor
