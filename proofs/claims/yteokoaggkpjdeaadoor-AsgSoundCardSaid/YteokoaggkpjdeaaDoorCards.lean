/-
  DERIVED. GIVEN WITH THE SEED: THE CARDS: each row of YteokoaggkpjdeaaDoorRows.lean that lists a variable, with what it lists TIED to the program's text (the seventh form; the later family's looks); each row that meets fmt, with fmt's text TOLD by the authors' own Lean function (tested against real Go, not proved from fmt's source: count such statements apart). THE CARD IS WHAT COUNTS. Prove the row's statement (the work); the ties are given (YteokoaggkpjdeaaDoorTie.lean); close each card by the builder's one call (the guide's Derived/Test/ToyasCard.lean, 'card_holds'). Laid BY PROGRAM, IN A SANDBOX (cutbox-door.mjs). By AI agents, Wed Nov 11 2026. No macro, syntax, notation, axiom, sorry.
-/
import Derived.Test.YteokoaggkpjdeaaDoorRows
import GoSem.ClaimSeven
namespace Go.Proofs.YteokoaggkpjdeaaDoor
namespace Rows

/-- THE TIED CARD OF 'skolemlaw02.AsgUnder'. -/
def asgUnderCard : Claim7 := { stood := { row := asgUnderRow, standIns := [], harness := (true, "78557ba4e76e4f76202f4751d7937f66e79b51ffa7f82e6731576222bca4cbf5"), looks := true }, kinds := [], alts := [], laidByText := true, laidKinds := [.funcs], laidTests := true, laidLooks := .later }
def AsgUnderCardSaid : Prop := Claim7.holds Tryd.pinned (.plain (OpenSpec.ofChange asgUnderSpec)) asgUnderCard

/-- THE TIED CARD OF 'skolemlaw02.AsgPoints'. -/
def asgPointsCard : Claim7 := { stood := { row := asgPointsRow, standIns := [], harness := (true, "78557ba4e76e4f76202f4751d7937f66e79b51ffa7f82e6731576222bca4cbf5"), looks := true }, kinds := [], alts := [], laidByText := true, laidKinds := [.funcs], laidTests := true, laidLooks := .later }
def AsgPointsCardSaid : Prop := Claim7.holds Tryd.pinned (.plain (OpenSpec.ofChange asgPointsSpec)) asgPointsCard

/-- THE TIED CARD OF 'skolemlaw02.AsgValues'. -/
def asgValuesCard : Claim7 := { stood := { row := asgValuesRow, standIns := [], harness := (true, "78557ba4e76e4f76202f4751d7937f66e79b51ffa7f82e6731576222bca4cbf5"), looks := true }, kinds := [], alts := [], laidByText := true, laidKinds := [.funcs], laidTests := true, laidLooks := .later }
def AsgValuesCardSaid : Prop := Claim7.holds Tryd.pinned (.plain (OpenSpec.ofChange asgValuesSpec)) asgValuesCard

/-- THE TIED CARD OF 'skolemlaw02.AsgTwice'. -/
def asgTwiceCard : Claim7 := { stood := { row := asgTwiceRow, standIns := [], harness := (true, "78557ba4e76e4f76202f4751d7937f66e79b51ffa7f82e6731576222bca4cbf5"), looks := true }, kinds := [], alts := [], laidByText := true, laidKinds := [.funcs], laidTests := true, laidLooks := .later }
def AsgTwiceCardSaid : Prop := Claim7.holds Tryd.pinned (.plain (OpenSpec.ofChange asgTwiceSpec)) asgTwiceCard

/-- THE TIED CARD OF 'skolemlaw02.AsgBack'. -/
def asgBackCard : Claim7 := { stood := { row := asgBackRow, standIns := [], harness := (true, "78557ba4e76e4f76202f4751d7937f66e79b51ffa7f82e6731576222bca4cbf5"), looks := true }, kinds := [], alts := [], laidByText := true, laidKinds := [.funcs], laidTests := true, laidLooks := .later }
def AsgBackCardSaid : Prop := Claim7.holds Tryd.pinned (.plain (OpenSpec.ofChange asgBackSpec)) asgBackCard

/-- THE TIED CARD OF 'skolemlaw02.AsgUnits'. -/
def asgUnitsCard : Claim7 := { stood := { row := asgUnitsRow, standIns := [], harness := (true, "78557ba4e76e4f76202f4751d7937f66e79b51ffa7f82e6731576222bca4cbf5"), looks := true }, kinds := [], alts := [], laidByText := true, laidKinds := [.funcs], laidTests := true, laidLooks := .later }
def AsgUnitsCardSaid : Prop := Claim7.holds Tryd.pinned (.plain (OpenSpec.ofChange asgUnitsSpec)) asgUnitsCard

/-- THE TIED CARD OF 'skolemlaw02.AsgOrder'. -/
def asgOrderCard : Claim7 := { stood := { row := asgOrderRow, standIns := [], harness := (true, "78557ba4e76e4f76202f4751d7937f66e79b51ffa7f82e6731576222bca4cbf5"), looks := true }, kinds := [], alts := [], laidByText := true, laidKinds := [.funcs], laidTests := true, laidLooks := .later }
def AsgOrderCardSaid : Prop := Claim7.holds Tryd.pinned (.plain (OpenSpec.ofChange asgOrderSpec)) asgOrderCard

/-- THE TIED CARD OF 'skolemlaw02.AsgSound'. -/
def asgSoundCard : Claim7 := { stood := { row := asgSoundRow, standIns := [], harness := (true, "78557ba4e76e4f76202f4751d7937f66e79b51ffa7f82e6731576222bca4cbf5"), looks := true }, kinds := [], alts := [], laidByText := true, laidKinds := [.funcs], laidTests := true, laidLooks := .later }
def AsgSoundCardSaid : Prop := Claim7.holds Tryd.pinned (.plain (OpenSpec.ofChange asgSoundSpec)) asgSoundCard

/-- THE SECOND FORM's CARD OF 'skolemlaw02.AsgUnder'. -/
def asgUnderUptoCard : Claim7 := { stood := { row := asgUnderUptoRow, standIns := [], harness := (true, "78557ba4e76e4f76202f4751d7937f66e79b51ffa7f82e6731576222bca4cbf5"), looks := true }, kinds := [], alts := [], laidByText := true, laidKinds := [.funcs], laidTests := true, laidLooks := .later }
def AsgUnderUptoCardSaid : Prop := Claim7.holds Tryd.pinned (.plain (OpenSpec.upto asgUnderSpec)) asgUnderUptoCard

/-- THE SECOND FORM's CARD OF 'skolemlaw02.AsgPoints'. -/
def asgPointsUptoCard : Claim7 := { stood := { row := asgPointsUptoRow, standIns := [], harness := (true, "78557ba4e76e4f76202f4751d7937f66e79b51ffa7f82e6731576222bca4cbf5"), looks := true }, kinds := [], alts := [], laidByText := true, laidKinds := [.funcs], laidTests := true, laidLooks := .later }
def AsgPointsUptoCardSaid : Prop := Claim7.holds Tryd.pinned (.plain (OpenSpec.upto asgPointsSpec)) asgPointsUptoCard

/-- THE SECOND FORM's CARD OF 'skolemlaw02.AsgValues'. -/
def asgValuesUptoCard : Claim7 := { stood := { row := asgValuesUptoRow, standIns := [], harness := (true, "78557ba4e76e4f76202f4751d7937f66e79b51ffa7f82e6731576222bca4cbf5"), looks := true }, kinds := [], alts := [], laidByText := true, laidKinds := [.funcs], laidTests := true, laidLooks := .later }
def AsgValuesUptoCardSaid : Prop := Claim7.holds Tryd.pinned (.plain (OpenSpec.upto asgValuesSpec)) asgValuesUptoCard

/-- THE SECOND FORM's CARD OF 'skolemlaw02.AsgTwice'. -/
def asgTwiceUptoCard : Claim7 := { stood := { row := asgTwiceUptoRow, standIns := [], harness := (true, "78557ba4e76e4f76202f4751d7937f66e79b51ffa7f82e6731576222bca4cbf5"), looks := true }, kinds := [], alts := [], laidByText := true, laidKinds := [.funcs], laidTests := true, laidLooks := .later }
def AsgTwiceUptoCardSaid : Prop := Claim7.holds Tryd.pinned (.plain (OpenSpec.upto asgTwiceSpec)) asgTwiceUptoCard

/-- THE SECOND FORM's CARD OF 'skolemlaw02.AsgBack'. -/
def asgBackUptoCard : Claim7 := { stood := { row := asgBackUptoRow, standIns := [], harness := (true, "78557ba4e76e4f76202f4751d7937f66e79b51ffa7f82e6731576222bca4cbf5"), looks := true }, kinds := [], alts := [], laidByText := true, laidKinds := [.funcs], laidTests := true, laidLooks := .later }
def AsgBackUptoCardSaid : Prop := Claim7.holds Tryd.pinned (.plain (OpenSpec.upto asgBackSpec)) asgBackUptoCard

/-- THE SECOND FORM's CARD OF 'skolemlaw02.AsgUnits'. -/
def asgUnitsUptoCard : Claim7 := { stood := { row := asgUnitsUptoRow, standIns := [], harness := (true, "78557ba4e76e4f76202f4751d7937f66e79b51ffa7f82e6731576222bca4cbf5"), looks := true }, kinds := [], alts := [], laidByText := true, laidKinds := [.funcs], laidTests := true, laidLooks := .later }
def AsgUnitsUptoCardSaid : Prop := Claim7.holds Tryd.pinned (.plain (OpenSpec.upto asgUnitsSpec)) asgUnitsUptoCard

/-- THE SECOND FORM's CARD OF 'skolemlaw02.AsgOrder'. -/
def asgOrderUptoCard : Claim7 := { stood := { row := asgOrderUptoRow, standIns := [], harness := (true, "78557ba4e76e4f76202f4751d7937f66e79b51ffa7f82e6731576222bca4cbf5"), looks := true }, kinds := [], alts := [], laidByText := true, laidKinds := [.funcs], laidTests := true, laidLooks := .later }
def AsgOrderUptoCardSaid : Prop := Claim7.holds Tryd.pinned (.plain (OpenSpec.upto asgOrderSpec)) asgOrderUptoCard

/-- THE SECOND FORM's CARD OF 'skolemlaw02.AsgSound'. -/
def asgSoundUptoCard : Claim7 := { stood := { row := asgSoundUptoRow, standIns := [], harness := (true, "78557ba4e76e4f76202f4751d7937f66e79b51ffa7f82e6731576222bca4cbf5"), looks := true }, kinds := [], alts := [], laidByText := true, laidKinds := [.funcs], laidTests := true, laidLooks := .later }
def AsgSoundUptoCardSaid : Prop := Claim7.holds Tryd.pinned (.plain (OpenSpec.upto asgSoundSpec)) asgSoundUptoCard
end Rows
end Go.Proofs.YteokoaggkpjdeaaDoor
