/-
  DERIVED. GIVEN WITH THE SEED: THE CARDS: each row of YtlompphnngnaiaaGreatDoorRows.lean that lists a variable, with what it lists TIED to the program's text (the seventh form; the later family's looks); each row that meets fmt, with fmt's text TOLD by the authors' own Lean function (tested against real Go, not proved from fmt's source: count such statements apart). THE CARD IS WHAT COUNTS. Prove the row's statement (the work); the ties are given (YtlompphnngnaiaaGreatDoorTie.lean); close each card by the builder's one call (the guide's Derived/Test/ToyasCard.lean, 'card_holds'). Laid BY PROGRAM, IN A SANDBOX (cutbox-door.mjs). By AI agents, Wed Nov 11 2026. No macro, syntax, notation, axiom, sorry.
-/
import Derived.Test.YtlompphnngnaiaaGreatDoorRows
import GoSem.ClaimSeven
namespace Go.Proofs.YtlompphnngnaiaaGreatDoor
namespace Rows

/-- THE TIED CARD OF 'skolemlaw01.LitsTexts'. -/
def litsTextsCard : Claim7 := { stood := { row := litsTextsRow, standIns := [], harness := (true, "21a4e883901be01ba88377e0834c66cae4a8c281df6a17ab891ec9b0f0187d2e"), looks := true }, kinds := [], alts := [], laidByText := true, laidKinds := [.data, .data, .data, .data, .sentinel, .sentinel, .funcs, .pinned], laidTests := true, laidLooks := .later }
def LitsTextsCardSaid : Prop := Claim7.holds Tryz.pinned (.plain (OpenSpec.ofChange litsTextsSpec)) litsTextsCard

/-- THE TIED CARD OF 'skolemlaw01.LitsBack'. -/
def litsBackCard : Claim7 := { stood := { row := litsBackRow, standIns := [], harness := (true, "21a4e883901be01ba88377e0834c66cae4a8c281df6a17ab891ec9b0f0187d2e"), looks := true }, kinds := [], alts := [], laidByText := true, laidKinds := [.data, .data, .data, .data, .sentinel, .sentinel, .funcs, .pinned], laidTests := true, laidLooks := .later }
def LitsBackCardSaid : Prop := Claim7.holds Tryz.pinned (.plain (OpenSpec.ofChange litsBackSpec)) litsBackCard

/-- THE TIED CARD OF 'skolemlaw01.LitsLarge'. -/
def litsLargeCard : Claim7 := { stood := { row := litsLargeRow, standIns := [], harness := (true, "21a4e883901be01ba88377e0834c66cae4a8c281df6a17ab891ec9b0f0187d2e"), looks := true }, kinds := [], alts := [], laidByText := true, laidKinds := [.data, .data, .data, .data, .sentinel, .sentinel, .funcs, .pinned], laidTests := true, laidLooks := .later }
def LitsLargeCardSaid : Prop := Claim7.holds Tryz.pinned (.plain (OpenSpec.ofChange litsLargeSpec)) litsLargeCard

/-- THE TIED CARD OF 'skolemlaw01.LitsResolves'. -/
def litsResolvesCard : Claim7 := { stood := { row := litsResolvesRow, standIns := [], harness := (true, "21a4e883901be01ba88377e0834c66cae4a8c281df6a17ab891ec9b0f0187d2e"), looks := true }, kinds := [], alts := [], laidByText := true, laidKinds := [.data, .data, .data, .data, .sentinel, .sentinel, .funcs, .pinned], laidTests := true, laidLooks := .later }
def LitsResolvesCardSaid : Prop := Claim7.holds Tryz.pinned (.plain (OpenSpec.ofChange litsResolvesSpec)) litsResolvesCard

/-- THE TIED CARD OF 'skolemlaw01.LitsTwo'. -/
def litsTwoCard : Claim7 := { stood := { row := litsTwoRow, standIns := [], harness := (true, "21a4e883901be01ba88377e0834c66cae4a8c281df6a17ab891ec9b0f0187d2e"), looks := true }, kinds := [], alts := [], laidByText := true, laidKinds := [.data, .data, .data, .data, .sentinel, .sentinel, .funcs, .pinned], laidTests := true, laidLooks := .later }
def LitsTwoCardSaid : Prop := Claim7.holds Tryz.pinned (.plain (OpenSpec.ofChange litsTwoSpec)) litsTwoCard

/-- THE TIED CARD OF 'skolemlaw01.LitsOne'. -/
def litsOneCard : Claim7 := { stood := { row := litsOneRow, standIns := [], harness := (true, "21a4e883901be01ba88377e0834c66cae4a8c281df6a17ab891ec9b0f0187d2e"), looks := true }, kinds := [], alts := [], laidByText := true, laidKinds := [.data, .data, .data, .data, .sentinel, .sentinel, .funcs, .pinned], laidTests := true, laidLooks := .later }
def LitsOneCardSaid : Prop := Claim7.holds Tryz.pinned (.plain (OpenSpec.ofChange litsOneSpec)) litsOneCard

/-- THE TIED CARD OF 'skolemlaw01.LitsMany'. -/
def litsManyCard : Claim7 := { stood := { row := litsManyRow, standIns := [], harness := (true, "21a4e883901be01ba88377e0834c66cae4a8c281df6a17ab891ec9b0f0187d2e"), looks := true }, kinds := [], alts := [], laidByText := true, laidKinds := [.data, .data, .data, .data, .sentinel, .sentinel, .funcs, .pinned], laidTests := true, laidLooks := .later }
def LitsManyCardSaid : Prop := Claim7.holds Tryz.pinned (.plain (OpenSpec.ofChange litsManySpec)) litsManyCard

/-- THE TIED CARD OF 'skolemlaw01.LitsOrders'. -/
def litsOrdersCard : Claim7 := { stood := { row := litsOrdersRow, standIns := [], harness := (true, "21a4e883901be01ba88377e0834c66cae4a8c281df6a17ab891ec9b0f0187d2e"), looks := true }, kinds := [], alts := [], laidByText := true, laidKinds := [.data, .data, .data, .data, .sentinel, .sentinel, .funcs, .pinned], laidTests := true, laidLooks := .later }
def LitsOrdersCardSaid : Prop := Claim7.holds Tryz.pinned (.plain (OpenSpec.ofChange litsOrdersSpec)) litsOrdersCard

/-- THE SECOND FORM's CARD OF 'skolemlaw01.LitsTexts'. -/
def litsTextsUptoCard : Claim7 := { stood := { row := litsTextsUptoRow, standIns := [], harness := (true, "21a4e883901be01ba88377e0834c66cae4a8c281df6a17ab891ec9b0f0187d2e"), looks := true }, kinds := [], alts := [], laidByText := true, laidKinds := [.data, .data, .data, .data, .sentinel, .sentinel, .funcs, .pinned], laidTests := true, laidLooks := .later }
def LitsTextsUptoCardSaid : Prop := Claim7.holds Tryz.pinned (.plain (OpenSpec.upto litsTextsSpec)) litsTextsUptoCard

/-- THE SECOND FORM's CARD OF 'skolemlaw01.LitsBack'. -/
def litsBackUptoCard : Claim7 := { stood := { row := litsBackUptoRow, standIns := [], harness := (true, "21a4e883901be01ba88377e0834c66cae4a8c281df6a17ab891ec9b0f0187d2e"), looks := true }, kinds := [], alts := [], laidByText := true, laidKinds := [.data, .data, .data, .data, .sentinel, .sentinel, .funcs, .pinned], laidTests := true, laidLooks := .later }
def LitsBackUptoCardSaid : Prop := Claim7.holds Tryz.pinned (.plain (OpenSpec.upto litsBackSpec)) litsBackUptoCard

/-- THE SECOND FORM's CARD OF 'skolemlaw01.LitsLarge'. -/
def litsLargeUptoCard : Claim7 := { stood := { row := litsLargeUptoRow, standIns := [], harness := (true, "21a4e883901be01ba88377e0834c66cae4a8c281df6a17ab891ec9b0f0187d2e"), looks := true }, kinds := [], alts := [], laidByText := true, laidKinds := [.data, .data, .data, .data, .sentinel, .sentinel, .funcs, .pinned], laidTests := true, laidLooks := .later }
def LitsLargeUptoCardSaid : Prop := Claim7.holds Tryz.pinned (.plain (OpenSpec.upto litsLargeSpec)) litsLargeUptoCard

/-- THE SECOND FORM's CARD OF 'skolemlaw01.LitsResolves'. -/
def litsResolvesUptoCard : Claim7 := { stood := { row := litsResolvesUptoRow, standIns := [], harness := (true, "21a4e883901be01ba88377e0834c66cae4a8c281df6a17ab891ec9b0f0187d2e"), looks := true }, kinds := [], alts := [], laidByText := true, laidKinds := [.data, .data, .data, .data, .sentinel, .sentinel, .funcs, .pinned], laidTests := true, laidLooks := .later }
def LitsResolvesUptoCardSaid : Prop := Claim7.holds Tryz.pinned (.plain (OpenSpec.upto litsResolvesSpec)) litsResolvesUptoCard

/-- THE SECOND FORM's CARD OF 'skolemlaw01.LitsTwo'. -/
def litsTwoUptoCard : Claim7 := { stood := { row := litsTwoUptoRow, standIns := [], harness := (true, "21a4e883901be01ba88377e0834c66cae4a8c281df6a17ab891ec9b0f0187d2e"), looks := true }, kinds := [], alts := [], laidByText := true, laidKinds := [.data, .data, .data, .data, .sentinel, .sentinel, .funcs, .pinned], laidTests := true, laidLooks := .later }
def LitsTwoUptoCardSaid : Prop := Claim7.holds Tryz.pinned (.plain (OpenSpec.upto litsTwoSpec)) litsTwoUptoCard

/-- THE SECOND FORM's CARD OF 'skolemlaw01.LitsOne'. -/
def litsOneUptoCard : Claim7 := { stood := { row := litsOneUptoRow, standIns := [], harness := (true, "21a4e883901be01ba88377e0834c66cae4a8c281df6a17ab891ec9b0f0187d2e"), looks := true }, kinds := [], alts := [], laidByText := true, laidKinds := [.data, .data, .data, .data, .sentinel, .sentinel, .funcs, .pinned], laidTests := true, laidLooks := .later }
def LitsOneUptoCardSaid : Prop := Claim7.holds Tryz.pinned (.plain (OpenSpec.upto litsOneSpec)) litsOneUptoCard

/-- THE SECOND FORM's CARD OF 'skolemlaw01.LitsMany'. -/
def litsManyUptoCard : Claim7 := { stood := { row := litsManyUptoRow, standIns := [], harness := (true, "21a4e883901be01ba88377e0834c66cae4a8c281df6a17ab891ec9b0f0187d2e"), looks := true }, kinds := [], alts := [], laidByText := true, laidKinds := [.data, .data, .data, .data, .sentinel, .sentinel, .funcs, .pinned], laidTests := true, laidLooks := .later }
def LitsManyUptoCardSaid : Prop := Claim7.holds Tryz.pinned (.plain (OpenSpec.upto litsManySpec)) litsManyUptoCard

/-- THE SECOND FORM's CARD OF 'skolemlaw01.LitsOrders'. -/
def litsOrdersUptoCard : Claim7 := { stood := { row := litsOrdersUptoRow, standIns := [], harness := (true, "21a4e883901be01ba88377e0834c66cae4a8c281df6a17ab891ec9b0f0187d2e"), looks := true }, kinds := [], alts := [], laidByText := true, laidKinds := [.data, .data, .data, .data, .sentinel, .sentinel, .funcs, .pinned], laidTests := true, laidLooks := .later }
def LitsOrdersUptoCardSaid : Prop := Claim7.holds Tryz.pinned (.plain (OpenSpec.upto litsOrdersSpec)) litsOrdersUptoCard
end Rows
end Go.Proofs.YtlompphnngnaiaaGreatDoor
