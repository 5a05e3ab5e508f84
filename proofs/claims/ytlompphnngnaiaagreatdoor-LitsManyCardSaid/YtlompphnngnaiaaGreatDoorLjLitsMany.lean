/- The law LitsMany returns true for every input: its tied card, out of the row's proof. -/
import Derived.Test.YtlompphnngnaiaaGreatDoorLiLitsMany
import Derived.Test.YtlompphnngnaiaaGreatDoorTie
import Derived.Test.YtlompphnngnaiaaGreatDoorCards
import Derived.SevenTiedAt
namespace Go.Proofs.YtlompphnngnaiaaGreatDoor
open Go

theorem litsMany_card_holds : Rows.LitsManyCardSaid :=
  Claim7.holds_tied_plain_at .later [] [.data, .data, .data, .data, .sentinel, .sentinel, .funcs, .pinned] true (true, "21a4e883901be01ba88377e0834c66cae4a8c281df6a17ab891ec9b0f0187d2e") true
    litsMany_holds (fun _ h => by cases h) (by kernel_rfl) (fun _ h => by cases h) litsMany_row_tie rfl ⟨rfl, rfl⟩ (by kernel_rfl) rfl
    (fun f fn hf hfn => by
      obtain rfl : f = 9 := Option.some.inj ((show Tryz.prog.funcNamed "skolem/skolemlaw01.LitsMany" = some 9 by kernel_rfl).symm.trans hf) |>.symm
      obtain rfl : fn = Tryz.f9 := (Option.some.inj (Tryz.func9.symm.trans hfn)).symm
      exact ⟨by kernel_rfl, fun j t ht => by
        rw [Tryz.params9] at ht
        have hm : t ∈ [33] := by simpa using Array.mem_of_getElem? ht
        have hall : ([33].all fun u => !Tryz.prog.wantsStandIn u) = true := by kernel_rfl
        exact (show Tryz.prog.wantsStandIn t = false by simpa using List.all_eq_true.1 hall t hm)⟩)
    (by kernel_rfl)
#print axioms litsMany_card_holds

end Go.Proofs.YtlompphnngnaiaaGreatDoor
