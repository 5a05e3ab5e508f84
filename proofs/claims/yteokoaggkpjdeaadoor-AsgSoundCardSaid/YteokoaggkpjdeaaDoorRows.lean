/-
  NARROWER THAN 'FOR EVERY INPUT', by the rows' own cells (each row's printed sentence says how): AsgUnder: laid · AsgPoints: laid · AsgValues: laid · AsgTwice: laid · AsgBack: laid · AsgUnits: laid · AsgOrder: laid · AsgSound: laid.
  DERIVED. THE GIVEN ROWS OF THIS SEAT. 8 by the template 'for every input the law returns true; each argument reads behind the call as it read before'; 0 by the template 'total and deterministic' (their statements: YteokoaggkpjdeaaDoorTotals.lean).
  GIVEN WITH THE SEED: the statements are not yours to turn. If you find one false, say at which input.
  Laid BY PROGRAM, IN A SANDBOX (cutbox-rows.mjs): the forced cells as the released guide's own fill.sh prints them over the translation 1c6b9d1e9cc5dc71… (all of the seat's roots in one cut). By AI agents, Wed Nov 11 2026. No macro, syntax, notation, axiom, sorry.
-/
import Derived.Test.YteokoaggkpjdeaaDoorChecked
import GoSem.Claim
import GoSem.ClaimJoined
import GoSem.ClaimMapViews
import Derived.JoinedTies
import Derived.KernelRfl
namespace Go.Proofs.YteokoaggkpjdeaaDoor
/- THE CELL 'sum', in the pinned program and in every row, IS THE sha256 OF THE DUMP (.gsa) THAT YteokoaggkpjdeaaDoorProg.lean LOADS. Nothing in Lean hashes anything: it is a label: what it is worth is what the hold of that sum in a sandbox is worth. -/
noncomputable def Tryd.pinned : Pinned := { name := "yteokoaggkpjdeaadoor", sum := "1c6b9d1e9cc5dc71e45e9ba20b288d3eb42812c1bb1947bfda0e65192f5817e2", checked := Tryd.checked }
namespace Rows
def none {H : Type} : Left H := { results := [], args := [] }

/- WHAT THE LISTED PACKAGE-LEVEL VARIABLES READ AS WHEN THE CALL BEGINS. Each datum BY PROGRAM (the guide's laid-datum.mjs) off the statement by which the dump's own 'gosem.cut.vars' lays the variable. In a bare row this is a premise. The card (YteokoaggkpjdeaaDoorCards.lean) ties it to the program's text. -/
def laid_skolem_skolemlaw02_same {H : Type} : DataW H := .iface "func table" (.iface "func" (.lit (.string [115, 107, 111, 108, 101, 109, 47, 115, 107, 111, 108, 101, 109, 114, 101, 102, 48, 49, 46, 83, 97, 109, 101])))

/-- 'skolemlaw02.AsgUnder': WHATEVER THE INPUT: true; the input reads as it did. -/
def asgUnderSpec : ChangeSpec := { name := "asgUnder", fn := fun _ => fun
  | [d1, d2] => { results := [.lit (.bool true)], args := [d1, d2] }
  | _ => none }
def asgUnderRow : OpenClaim := { program := "yteokoaggkpjdeaadoor", sum := "1c6b9d1e9cc5dc71e45e9ba20b288d3eb42812c1bb1947bfda0e65192f5817e2", func := "skolem/skolemlaw02.AsgUnder", spec := "asgUnder", unfollowed := true, recurses := true, named := ["skolem/skolemlaw02.same"], apart := false, laid := [("skolem/skolemlaw02.same", laid_skolem_skolemlaw02_same)] }
def AsgUnderSaid : Prop := asgUnderRow.holds Tryd.pinned (OpenSpec.ofChange asgUnderSpec)

/-- ITS FALSE NEIGHBOUR: 'it returns false'. Refute it at one input. -/
def asgUnderWrong : ChangeSpec := { name := "asgUnder", fn := fun _ => fun
  | [d1, d2] => { results := [.lit (.bool false)], args := [d1, d2] }
  | _ => none }
def AsgUnderWrongFalsely : Prop := asgUnderRow.holds Tryd.pinned (OpenSpec.ofChange asgUnderWrong)

/-- 'skolemlaw02.AsgPoints': WHATEVER THE INPUT: true; the input reads as it did. -/
def asgPointsSpec : ChangeSpec := { name := "asgPoints", fn := fun _ => fun
  | [d1, d2, d3] => { results := [.lit (.bool true)], args := [d1, d2, d3] }
  | _ => none }
def asgPointsRow : OpenClaim := { program := "yteokoaggkpjdeaadoor", sum := "1c6b9d1e9cc5dc71e45e9ba20b288d3eb42812c1bb1947bfda0e65192f5817e2", func := "skolem/skolemlaw02.AsgPoints", spec := "asgPoints", unfollowed := true, recurses := true, named := ["skolem/skolemlaw02.same"], apart := false, laid := [("skolem/skolemlaw02.same", laid_skolem_skolemlaw02_same)] }
def AsgPointsSaid : Prop := asgPointsRow.holds Tryd.pinned (OpenSpec.ofChange asgPointsSpec)

/-- ITS FALSE NEIGHBOUR: 'it returns false'. Refute it at one input. -/
def asgPointsWrong : ChangeSpec := { name := "asgPoints", fn := fun _ => fun
  | [d1, d2, d3] => { results := [.lit (.bool false)], args := [d1, d2, d3] }
  | _ => none }
def AsgPointsWrongFalsely : Prop := asgPointsRow.holds Tryd.pinned (OpenSpec.ofChange asgPointsWrong)

/-- 'skolemlaw02.AsgValues': WHATEVER THE INPUT: true; the input reads as it did. -/
def asgValuesSpec : ChangeSpec := { name := "asgValues", fn := fun _ => fun
  | [d1, d2, d3] => { results := [.lit (.bool true)], args := [d1, d2, d3] }
  | _ => none }
def asgValuesRow : OpenClaim := { program := "yteokoaggkpjdeaadoor", sum := "1c6b9d1e9cc5dc71e45e9ba20b288d3eb42812c1bb1947bfda0e65192f5817e2", func := "skolem/skolemlaw02.AsgValues", spec := "asgValues", unfollowed := true, recurses := true, named := ["skolem/skolemlaw02.same"], apart := false, laid := [("skolem/skolemlaw02.same", laid_skolem_skolemlaw02_same)] }
def AsgValuesSaid : Prop := asgValuesRow.holds Tryd.pinned (OpenSpec.ofChange asgValuesSpec)

/-- ITS FALSE NEIGHBOUR: 'it returns false'. Refute it at one input. -/
def asgValuesWrong : ChangeSpec := { name := "asgValues", fn := fun _ => fun
  | [d1, d2, d3] => { results := [.lit (.bool false)], args := [d1, d2, d3] }
  | _ => none }
def AsgValuesWrongFalsely : Prop := asgValuesRow.holds Tryd.pinned (OpenSpec.ofChange asgValuesWrong)

/-- 'skolemlaw02.AsgTwice': WHATEVER THE INPUT: true; the input reads as it did. -/
def asgTwiceSpec : ChangeSpec := { name := "asgTwice", fn := fun _ => fun
  | [d1, d2, d3] => { results := [.lit (.bool true)], args := [d1, d2, d3] }
  | _ => none }
def asgTwiceRow : OpenClaim := { program := "yteokoaggkpjdeaadoor", sum := "1c6b9d1e9cc5dc71e45e9ba20b288d3eb42812c1bb1947bfda0e65192f5817e2", func := "skolem/skolemlaw02.AsgTwice", spec := "asgTwice", unfollowed := true, recurses := true, named := ["skolem/skolemlaw02.same"], apart := false, laid := [("skolem/skolemlaw02.same", laid_skolem_skolemlaw02_same)] }
def AsgTwiceSaid : Prop := asgTwiceRow.holds Tryd.pinned (OpenSpec.ofChange asgTwiceSpec)

/-- ITS FALSE NEIGHBOUR: 'it returns false'. Refute it at one input. -/
def asgTwiceWrong : ChangeSpec := { name := "asgTwice", fn := fun _ => fun
  | [d1, d2, d3] => { results := [.lit (.bool false)], args := [d1, d2, d3] }
  | _ => none }
def AsgTwiceWrongFalsely : Prop := asgTwiceRow.holds Tryd.pinned (OpenSpec.ofChange asgTwiceWrong)

/-- 'skolemlaw02.AsgBack': WHATEVER THE INPUT: true; the input reads as it did. -/
def asgBackSpec : ChangeSpec := { name := "asgBack", fn := fun _ => fun
  | [d1, d2, d3, d4] => { results := [.lit (.bool true)], args := [d1, d2, d3, d4] }
  | _ => none }
def asgBackRow : OpenClaim := { program := "yteokoaggkpjdeaadoor", sum := "1c6b9d1e9cc5dc71e45e9ba20b288d3eb42812c1bb1947bfda0e65192f5817e2", func := "skolem/skolemlaw02.AsgBack", spec := "asgBack", unfollowed := true, recurses := true, named := ["skolem/skolemlaw02.same"], apart := false, laid := [("skolem/skolemlaw02.same", laid_skolem_skolemlaw02_same)] }
def AsgBackSaid : Prop := asgBackRow.holds Tryd.pinned (OpenSpec.ofChange asgBackSpec)

/-- ITS FALSE NEIGHBOUR: 'it returns false'. Refute it at one input. -/
def asgBackWrong : ChangeSpec := { name := "asgBack", fn := fun _ => fun
  | [d1, d2, d3, d4] => { results := [.lit (.bool false)], args := [d1, d2, d3, d4] }
  | _ => none }
def AsgBackWrongFalsely : Prop := asgBackRow.holds Tryd.pinned (OpenSpec.ofChange asgBackWrong)

/-- 'skolemlaw02.AsgUnits': WHATEVER THE INPUT: true; the input reads as it did. -/
def asgUnitsSpec : ChangeSpec := { name := "asgUnits", fn := fun _ => fun
  | [d1, d2] => { results := [.lit (.bool true)], args := [d1, d2] }
  | _ => none }
def asgUnitsRow : OpenClaim := { program := "yteokoaggkpjdeaadoor", sum := "1c6b9d1e9cc5dc71e45e9ba20b288d3eb42812c1bb1947bfda0e65192f5817e2", func := "skolem/skolemlaw02.AsgUnits", spec := "asgUnits", unfollowed := true, recurses := true, named := ["skolem/skolemlaw02.same"], apart := false, laid := [("skolem/skolemlaw02.same", laid_skolem_skolemlaw02_same)] }
def AsgUnitsSaid : Prop := asgUnitsRow.holds Tryd.pinned (OpenSpec.ofChange asgUnitsSpec)

/-- ITS FALSE NEIGHBOUR: 'it returns false'. Refute it at one input. -/
def asgUnitsWrong : ChangeSpec := { name := "asgUnits", fn := fun _ => fun
  | [d1, d2] => { results := [.lit (.bool false)], args := [d1, d2] }
  | _ => none }
def AsgUnitsWrongFalsely : Prop := asgUnitsRow.holds Tryd.pinned (OpenSpec.ofChange asgUnitsWrong)

/-- 'skolemlaw02.AsgOrder': WHATEVER THE INPUT: true; the input reads as it did. -/
def asgOrderSpec : ChangeSpec := { name := "asgOrder", fn := fun _ => fun
  | [d1, d2, d3] => { results := [.lit (.bool true)], args := [d1, d2, d3] }
  | _ => none }
def asgOrderRow : OpenClaim := { program := "yteokoaggkpjdeaadoor", sum := "1c6b9d1e9cc5dc71e45e9ba20b288d3eb42812c1bb1947bfda0e65192f5817e2", func := "skolem/skolemlaw02.AsgOrder", spec := "asgOrder", unfollowed := true, recurses := true, named := ["skolem/skolemlaw02.same"], apart := false, laid := [("skolem/skolemlaw02.same", laid_skolem_skolemlaw02_same)] }
def AsgOrderSaid : Prop := asgOrderRow.holds Tryd.pinned (OpenSpec.ofChange asgOrderSpec)

/-- ITS FALSE NEIGHBOUR: 'it returns false'. Refute it at one input. -/
def asgOrderWrong : ChangeSpec := { name := "asgOrder", fn := fun _ => fun
  | [d1, d2, d3] => { results := [.lit (.bool false)], args := [d1, d2, d3] }
  | _ => none }
def AsgOrderWrongFalsely : Prop := asgOrderRow.holds Tryd.pinned (OpenSpec.ofChange asgOrderWrong)

/-- 'skolemlaw02.AsgSound': WHATEVER THE INPUT: true; the input reads as it did. -/
def asgSoundSpec : ChangeSpec := { name := "asgSound", fn := fun _ => fun
  | [d1, d2] => { results := [.lit (.bool true)], args := [d1, d2] }
  | _ => none }
def asgSoundRow : OpenClaim := { program := "yteokoaggkpjdeaadoor", sum := "1c6b9d1e9cc5dc71e45e9ba20b288d3eb42812c1bb1947bfda0e65192f5817e2", func := "skolem/skolemlaw02.AsgSound", spec := "asgSound", unfollowed := true, recurses := true, named := ["skolem/skolemlaw02.same"], apart := false, laid := [("skolem/skolemlaw02.same", laid_skolem_skolemlaw02_same)] }
def AsgSoundSaid : Prop := asgSoundRow.holds Tryd.pinned (OpenSpec.ofChange asgSoundSpec)

/-- ITS FALSE NEIGHBOUR: 'it returns false'. Refute it at one input. -/
def asgSoundWrong : ChangeSpec := { name := "asgSound", fn := fun _ => fun
  | [d1, d2] => { results := [.lit (.bool false)], args := [d1, d2] }
  | _ => none }
def AsgSoundWrongFalsely : Prop := asgSoundRow.holds Tryd.pinned (OpenSpec.ofChange asgSoundWrong)

/- THE SECOND FORM. 'bulk': how many values and letters a reading holds, each counted each time it is reached (what is shared counts as often as it is met; a slice's spare places count too). A statement '..UptoSaid' is the law's where the arguments, and the package variables that the reading takes, are together of bulk at most 1048576: NARROWER than '..Said'. Prove '..Said' where nothing that the law and all that it calls make is longer than what came in: it says more and counts as full. Else prove '..UptoSaid'. A law counts once. -/
mutual
def uptoBulk {H : Type} : DataW H → Nat
  | .lit (.string bytes) => bytes.length + 1
  | .lit _ => 1
  | .nil => 1
  | .ptr d => uptoBulk d + 1
  | .slice elems spare => uptoBulkAll elems + uptoBulkAll spare + 1
  | .agg parts => uptoBulkAll parts + 1
  | .iface _ d => uptoBulk d + 1
  | .map entries => uptoBulkEntries entries + 1
  | .held _ => 1
def uptoBulkAll {H : Type} : List (DataW H) → Nat
  | [] => 0
  | d :: r => uptoBulk d + uptoBulkAll r
def uptoBulkEntries {H : Type} : List (Lit × DataW H) → Nat
  | [] => 0
  | x :: r => uptoBulkEntry x + uptoBulkEntries r
def uptoBulkEntry {H : Type} : Lit × DataW H → Nat
  | (.string bytes, d) => bytes.length + uptoBulk d + 1
  | (_, d) => uptoBulk d + 1
 end
def uptoSmall : (H : Type) → List (DataW H) → Bool := fun _ ds => decide (uptoBulkAll ds ≤ 1048576)
def OpenSpec.upto (s : _root_.Go.ChangeSpec) : _root_.Go.OpenSpec := { _root_.Go.OpenSpec.ofChange s with cond := some uptoSmall }

/-- 'skolemlaw02.AsgUnder', WHERE WHAT IT READS IS OF BULK AT MOST 1048576: true; the input reads as it did. -/
def asgUnderUptoRow : OpenClaim := { program := "yteokoaggkpjdeaadoor", sum := "1c6b9d1e9cc5dc71e45e9ba20b288d3eb42812c1bb1947bfda0e65192f5817e2", func := "skolem/skolemlaw02.AsgUnder", spec := "asgUnder", unfollowed := true, recurses := true, named := ["skolem/skolemlaw02.same"], apart := false, laid := [("skolem/skolemlaw02.same", laid_skolem_skolemlaw02_same)], narrowed := true }
def AsgUnderUptoSaid : Prop := asgUnderUptoRow.holds Tryd.pinned (OpenSpec.upto asgUnderSpec)

/-- 'skolemlaw02.AsgPoints', WHERE WHAT IT READS IS OF BULK AT MOST 1048576: true; the input reads as it did. -/
def asgPointsUptoRow : OpenClaim := { program := "yteokoaggkpjdeaadoor", sum := "1c6b9d1e9cc5dc71e45e9ba20b288d3eb42812c1bb1947bfda0e65192f5817e2", func := "skolem/skolemlaw02.AsgPoints", spec := "asgPoints", unfollowed := true, recurses := true, named := ["skolem/skolemlaw02.same"], apart := false, laid := [("skolem/skolemlaw02.same", laid_skolem_skolemlaw02_same)], narrowed := true }
def AsgPointsUptoSaid : Prop := asgPointsUptoRow.holds Tryd.pinned (OpenSpec.upto asgPointsSpec)

/-- 'skolemlaw02.AsgValues', WHERE WHAT IT READS IS OF BULK AT MOST 1048576: true; the input reads as it did. -/
def asgValuesUptoRow : OpenClaim := { program := "yteokoaggkpjdeaadoor", sum := "1c6b9d1e9cc5dc71e45e9ba20b288d3eb42812c1bb1947bfda0e65192f5817e2", func := "skolem/skolemlaw02.AsgValues", spec := "asgValues", unfollowed := true, recurses := true, named := ["skolem/skolemlaw02.same"], apart := false, laid := [("skolem/skolemlaw02.same", laid_skolem_skolemlaw02_same)], narrowed := true }
def AsgValuesUptoSaid : Prop := asgValuesUptoRow.holds Tryd.pinned (OpenSpec.upto asgValuesSpec)

/-- 'skolemlaw02.AsgTwice', WHERE WHAT IT READS IS OF BULK AT MOST 1048576: true; the input reads as it did. -/
def asgTwiceUptoRow : OpenClaim := { program := "yteokoaggkpjdeaadoor", sum := "1c6b9d1e9cc5dc71e45e9ba20b288d3eb42812c1bb1947bfda0e65192f5817e2", func := "skolem/skolemlaw02.AsgTwice", spec := "asgTwice", unfollowed := true, recurses := true, named := ["skolem/skolemlaw02.same"], apart := false, laid := [("skolem/skolemlaw02.same", laid_skolem_skolemlaw02_same)], narrowed := true }
def AsgTwiceUptoSaid : Prop := asgTwiceUptoRow.holds Tryd.pinned (OpenSpec.upto asgTwiceSpec)

/-- 'skolemlaw02.AsgBack', WHERE WHAT IT READS IS OF BULK AT MOST 1048576: true; the input reads as it did. -/
def asgBackUptoRow : OpenClaim := { program := "yteokoaggkpjdeaadoor", sum := "1c6b9d1e9cc5dc71e45e9ba20b288d3eb42812c1bb1947bfda0e65192f5817e2", func := "skolem/skolemlaw02.AsgBack", spec := "asgBack", unfollowed := true, recurses := true, named := ["skolem/skolemlaw02.same"], apart := false, laid := [("skolem/skolemlaw02.same", laid_skolem_skolemlaw02_same)], narrowed := true }
def AsgBackUptoSaid : Prop := asgBackUptoRow.holds Tryd.pinned (OpenSpec.upto asgBackSpec)

/-- 'skolemlaw02.AsgUnits', WHERE WHAT IT READS IS OF BULK AT MOST 1048576: true; the input reads as it did. -/
def asgUnitsUptoRow : OpenClaim := { program := "yteokoaggkpjdeaadoor", sum := "1c6b9d1e9cc5dc71e45e9ba20b288d3eb42812c1bb1947bfda0e65192f5817e2", func := "skolem/skolemlaw02.AsgUnits", spec := "asgUnits", unfollowed := true, recurses := true, named := ["skolem/skolemlaw02.same"], apart := false, laid := [("skolem/skolemlaw02.same", laid_skolem_skolemlaw02_same)], narrowed := true }
def AsgUnitsUptoSaid : Prop := asgUnitsUptoRow.holds Tryd.pinned (OpenSpec.upto asgUnitsSpec)

/-- 'skolemlaw02.AsgOrder', WHERE WHAT IT READS IS OF BULK AT MOST 1048576: true; the input reads as it did. -/
def asgOrderUptoRow : OpenClaim := { program := "yteokoaggkpjdeaadoor", sum := "1c6b9d1e9cc5dc71e45e9ba20b288d3eb42812c1bb1947bfda0e65192f5817e2", func := "skolem/skolemlaw02.AsgOrder", spec := "asgOrder", unfollowed := true, recurses := true, named := ["skolem/skolemlaw02.same"], apart := false, laid := [("skolem/skolemlaw02.same", laid_skolem_skolemlaw02_same)], narrowed := true }
def AsgOrderUptoSaid : Prop := asgOrderUptoRow.holds Tryd.pinned (OpenSpec.upto asgOrderSpec)

/-- 'skolemlaw02.AsgSound', WHERE WHAT IT READS IS OF BULK AT MOST 1048576: true; the input reads as it did. -/
def asgSoundUptoRow : OpenClaim := { program := "yteokoaggkpjdeaadoor", sum := "1c6b9d1e9cc5dc71e45e9ba20b288d3eb42812c1bb1947bfda0e65192f5817e2", func := "skolem/skolemlaw02.AsgSound", spec := "asgSound", unfollowed := true, recurses := true, named := ["skolem/skolemlaw02.same"], apart := false, laid := [("skolem/skolemlaw02.same", laid_skolem_skolemlaw02_same)], narrowed := true }
def AsgSoundUptoSaid : Prop := asgSoundUptoRow.holds Tryd.pinned (OpenSpec.upto asgSoundSpec)

end Rows
end Go.Proofs.YteokoaggkpjdeaaDoor
