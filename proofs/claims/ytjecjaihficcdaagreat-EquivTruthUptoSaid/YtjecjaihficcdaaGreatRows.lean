/-
  No cell of these rows narrows 'for every input' (looked for: loops, veiled, ifaces, maps, wideKeys, modest, calm, conditions, laid).
  DERIVED. THE GIVEN ROWS OF THIS SEAT. 6 by the template 'for every input the law returns true; each argument reads behind the call as it read before'; 0 by the template 'total and deterministic' (their statements: YtjecjaihficcdaaGreatTotals.lean).
  GIVEN WITH THE SEED: the statements are not yours to turn. If you find one false, say at which input.
  Laid BY PROGRAM, IN A SANDBOX (cutbox-rows.mjs): the forced cells as the released guide's own fill.sh prints them over the translation 42850a3f015d1e4d… (all of the seat's roots in one cut). By AI agents, Wed Nov 11 2026. No macro, syntax, notation, axiom, sorry.
-/
import Derived.Test.YtjecjaihficcdaaGreatChecked
import GoSem.Claim
import GoSem.ClaimJoined
import GoSem.ClaimMapViews
import Derived.JoinedTies
import Derived.KernelRfl
namespace Go.Proofs.YtjecjaihficcdaaGreat
/- THE CELL 'sum', in the pinned program and in every row, IS THE sha256 OF THE DUMP (.gsa) THAT YtjecjaihficcdaaGreatProg.lean LOADS. Nothing in Lean hashes anything: it is a label: what it is worth is what the hold of that sum in a sandbox is worth. -/
noncomputable def Tryz.pinned : Pinned := { name := "ytjecjaihficcdaagreat", sum := "42850a3f015d1e4d37c09f1ded47ef8ebb56af9fda8a52be68b3301ad27904d0", checked := Tryz.checked }
namespace Rows
def none {H : Type} : Left H := { results := [], args := [] }

/-- 'skolemlaw16.EquivReaches': WHATEVER THE INPUT: true; the input reads as it did. -/
def equivReachesSpec : ChangeSpec := { name := "equivReaches", fn := fun _ => fun
  | [d1, d2] => { results := [.lit (.bool true)], args := [d1, d2] }
  | _ => none }
def equivReachesRow : OpenClaim := { program := "ytjecjaihficcdaagreat", sum := "42850a3f015d1e4d37c09f1ded47ef8ebb56af9fda8a52be68b3301ad27904d0", func := "skolem/skolemlaw16.EquivReaches", spec := "equivReaches", unfollowed := true, recurses := true, plainKeys := false, apart := false }
def EquivReachesSaid : Prop := equivReachesRow.holds Tryz.pinned (OpenSpec.ofChange equivReachesSpec)

/-- ITS FALSE NEIGHBOUR: 'it returns false'. Refute it at one input. -/
def equivReachesWrong : ChangeSpec := { name := "equivReaches", fn := fun _ => fun
  | [d1, d2] => { results := [.lit (.bool false)], args := [d1, d2] }
  | _ => none }
def EquivReachesWrongFalsely : Prop := equivReachesRow.holds Tryz.pinned (OpenSpec.ofChange equivReachesWrong)

/-- 'skolemlaw16.EquivNext': WHATEVER THE INPUT: true; the input reads as it did. -/
def equivNextSpec : ChangeSpec := { name := "equivNext", fn := fun _ => fun
  | [d] => { results := [.lit (.bool true)], args := [d] }
  | _ => none }
def equivNextRow : OpenClaim := { program := "ytjecjaihficcdaagreat", sum := "42850a3f015d1e4d37c09f1ded47ef8ebb56af9fda8a52be68b3301ad27904d0", func := "skolem/skolemlaw16.EquivNext", spec := "equivNext", unfollowed := true, recurses := true, plainKeys := false, apart := false }
def EquivNextSaid : Prop := equivNextRow.holds Tryz.pinned (OpenSpec.ofChange equivNextSpec)

/-- ITS FALSE NEIGHBOUR: 'it returns false'. Refute it at one input. -/
def equivNextWrong : ChangeSpec := { name := "equivNext", fn := fun _ => fun
  | [d] => { results := [.lit (.bool false)], args := [d] }
  | _ => none }
def EquivNextWrongFalsely : Prop := equivNextRow.holds Tryz.pinned (OpenSpec.ofChange equivNextWrong)

/-- 'skolemlaw16.EquivMakes': WHATEVER THE INPUT: true; the input reads as it did. -/
def equivMakesSpec : ChangeSpec := { name := "equivMakes", fn := fun _ => fun
  | [d1, d2] => { results := [.lit (.bool true)], args := [d1, d2] }
  | _ => none }
def equivMakesRow : OpenClaim := { program := "ytjecjaihficcdaagreat", sum := "42850a3f015d1e4d37c09f1ded47ef8ebb56af9fda8a52be68b3301ad27904d0", func := "skolem/skolemlaw16.EquivMakes", spec := "equivMakes", unfollowed := true, recurses := true, plainKeys := false, apart := false }
def EquivMakesSaid : Prop := equivMakesRow.holds Tryz.pinned (OpenSpec.ofChange equivMakesSpec)

/-- ITS FALSE NEIGHBOUR: 'it returns false'. Refute it at one input. -/
def equivMakesWrong : ChangeSpec := { name := "equivMakes", fn := fun _ => fun
  | [d1, d2] => { results := [.lit (.bool false)], args := [d1, d2] }
  | _ => none }
def EquivMakesWrongFalsely : Prop := equivMakesRow.holds Tryz.pinned (OpenSpec.ofChange equivMakesWrong)

/-- 'skolemlaw16.EquivTruth': WHATEVER THE INPUT: true; the input reads as it did. -/
def equivTruthSpec : ChangeSpec := { name := "equivTruth", fn := fun _ => fun
  | [d1, d2] => { results := [.lit (.bool true)], args := [d1, d2] }
  | _ => none }
def equivTruthRow : OpenClaim := { program := "ytjecjaihficcdaagreat", sum := "42850a3f015d1e4d37c09f1ded47ef8ebb56af9fda8a52be68b3301ad27904d0", func := "skolem/skolemlaw16.EquivTruth", spec := "equivTruth", unfollowed := true, recurses := true, plainKeys := false, apart := false }
def EquivTruthSaid : Prop := equivTruthRow.holds Tryz.pinned (OpenSpec.ofChange equivTruthSpec)

/-- ITS FALSE NEIGHBOUR: 'it returns false'. Refute it at one input. -/
def equivTruthWrong : ChangeSpec := { name := "equivTruth", fn := fun _ => fun
  | [d1, d2] => { results := [.lit (.bool false)], args := [d1, d2] }
  | _ => none }
def EquivTruthWrongFalsely : Prop := equivTruthRow.holds Tryz.pinned (OpenSpec.ofChange equivTruthWrong)

/-- 'skolemlaw16.EquivSteps': WHATEVER THE INPUT: true; the input reads as it did. -/
def equivStepsSpec : ChangeSpec := { name := "equivSteps", fn := fun _ => fun
  | [d] => { results := [.lit (.bool true)], args := [d] }
  | _ => none }
def equivStepsRow : OpenClaim := { program := "ytjecjaihficcdaagreat", sum := "42850a3f015d1e4d37c09f1ded47ef8ebb56af9fda8a52be68b3301ad27904d0", func := "skolem/skolemlaw16.EquivSteps", spec := "equivSteps", unfollowed := true, recurses := true, plainKeys := false, apart := false }
def EquivStepsSaid : Prop := equivStepsRow.holds Tryz.pinned (OpenSpec.ofChange equivStepsSpec)

/-- ITS FALSE NEIGHBOUR: 'it returns false'. Refute it at one input. -/
def equivStepsWrong : ChangeSpec := { name := "equivSteps", fn := fun _ => fun
  | [d] => { results := [.lit (.bool false)], args := [d] }
  | _ => none }
def EquivStepsWrongFalsely : Prop := equivStepsRow.holds Tryz.pinned (OpenSpec.ofChange equivStepsWrong)

/-- 'skolemlaw16.EquivHolds': WHATEVER THE INPUT: true; the input reads as it did. -/
def equivHoldsSpec : ChangeSpec := { name := "equivHolds", fn := fun _ => fun
  | [d] => { results := [.lit (.bool true)], args := [d] }
  | _ => none }
def equivHoldsRow : OpenClaim := { program := "ytjecjaihficcdaagreat", sum := "42850a3f015d1e4d37c09f1ded47ef8ebb56af9fda8a52be68b3301ad27904d0", func := "skolem/skolemlaw16.EquivHolds", spec := "equivHolds", unfollowed := true, recurses := true, plainKeys := false, apart := false }
def EquivHoldsSaid : Prop := equivHoldsRow.holds Tryz.pinned (OpenSpec.ofChange equivHoldsSpec)

/-- ITS FALSE NEIGHBOUR: 'it returns false'. Refute it at one input. -/
def equivHoldsWrong : ChangeSpec := { name := "equivHolds", fn := fun _ => fun
  | [d] => { results := [.lit (.bool false)], args := [d] }
  | _ => none }
def EquivHoldsWrongFalsely : Prop := equivHoldsRow.holds Tryz.pinned (OpenSpec.ofChange equivHoldsWrong)

/- THE SECOND FORM. 'bulk': how many values and letters a reading holds, each counted each time it is reached (what is shared counts as often as it is met; a slice's spare places count too). A statement '..UptoSaid' is the law's where the arguments, and the package variables that the reading takes, are together of bulk at most 1048576: NARROWER than '..Said'. Prove '..Said' where nothing that the law and all that it calls make is longer than what came in: it says more and counts as full. Else prove '..UptoSaid'. A law counts once. -/
mutual
def uptoBulk {H : Type} : DataW H → Nat
  | .lit (.string bytes) => bytes.length + 1
  | .lit _ => 1
  | .nil => 1
  | .ptr d => uptoBulk d + 1
  | .slice elems spare => uptoBulkAll elems + uptoBulkAll spare + 1
  | .agg parts => uptoBulkAll parts + 1
  | .iface _ d => uptoBulk d + 1
  | .map entries => uptoBulkEntries entries + 1
  | .held _ => 1
def uptoBulkAll {H : Type} : List (DataW H) → Nat
  | [] => 0
  | d :: r => uptoBulk d + uptoBulkAll r
def uptoBulkEntries {H : Type} : List (Lit × DataW H) → Nat
  | [] => 0
  | x :: r => uptoBulkEntry x + uptoBulkEntries r
def uptoBulkEntry {H : Type} : Lit × DataW H → Nat
  | (.string bytes, d) => bytes.length + uptoBulk d + 1
  | (_, d) => uptoBulk d + 1
 end
def uptoSmall : (H : Type) → List (DataW H) → Bool := fun _ ds => decide (uptoBulkAll ds ≤ 1048576)
def OpenSpec.upto (s : _root_.Go.ChangeSpec) : _root_.Go.OpenSpec := { _root_.Go.OpenSpec.ofChange s with cond := some uptoSmall }

/-- 'skolemlaw16.EquivReaches', WHERE WHAT IT READS IS OF BULK AT MOST 1048576: true; the input reads as it did. -/
def equivReachesUptoRow : OpenClaim := { program := "ytjecjaihficcdaagreat", sum := "42850a3f015d1e4d37c09f1ded47ef8ebb56af9fda8a52be68b3301ad27904d0", func := "skolem/skolemlaw16.EquivReaches", spec := "equivReaches", unfollowed := true, recurses := true, plainKeys := false, apart := false, narrowed := true }
def EquivReachesUptoSaid : Prop := equivReachesUptoRow.holds Tryz.pinned (OpenSpec.upto equivReachesSpec)

/-- 'skolemlaw16.EquivNext', WHERE WHAT IT READS IS OF BULK AT MOST 1048576: true; the input reads as it did. -/
def equivNextUptoRow : OpenClaim := { program := "ytjecjaihficcdaagreat", sum := "42850a3f015d1e4d37c09f1ded47ef8ebb56af9fda8a52be68b3301ad27904d0", func := "skolem/skolemlaw16.EquivNext", spec := "equivNext", unfollowed := true, recurses := true, plainKeys := false, apart := false, narrowed := true }
def EquivNextUptoSaid : Prop := equivNextUptoRow.holds Tryz.pinned (OpenSpec.upto equivNextSpec)

/-- 'skolemlaw16.EquivMakes', WHERE WHAT IT READS IS OF BULK AT MOST 1048576: true; the input reads as it did. -/
def equivMakesUptoRow : OpenClaim := { program := "ytjecjaihficcdaagreat", sum := "42850a3f015d1e4d37c09f1ded47ef8ebb56af9fda8a52be68b3301ad27904d0", func := "skolem/skolemlaw16.EquivMakes", spec := "equivMakes", unfollowed := true, recurses := true, plainKeys := false, apart := false, narrowed := true }
def EquivMakesUptoSaid : Prop := equivMakesUptoRow.holds Tryz.pinned (OpenSpec.upto equivMakesSpec)

/-- 'skolemlaw16.EquivTruth', WHERE WHAT IT READS IS OF BULK AT MOST 1048576: true; the input reads as it did. -/
def equivTruthUptoRow : OpenClaim := { program := "ytjecjaihficcdaagreat", sum := "42850a3f015d1e4d37c09f1ded47ef8ebb56af9fda8a52be68b3301ad27904d0", func := "skolem/skolemlaw16.EquivTruth", spec := "equivTruth", unfollowed := true, recurses := true, plainKeys := false, apart := false, narrowed := true }
def EquivTruthUptoSaid : Prop := equivTruthUptoRow.holds Tryz.pinned (OpenSpec.upto equivTruthSpec)

/-- 'skolemlaw16.EquivSteps', WHERE WHAT IT READS IS OF BULK AT MOST 1048576: true; the input reads as it did. -/
def equivStepsUptoRow : OpenClaim := { program := "ytjecjaihficcdaagreat", sum := "42850a3f015d1e4d37c09f1ded47ef8ebb56af9fda8a52be68b3301ad27904d0", func := "skolem/skolemlaw16.EquivSteps", spec := "equivSteps", unfollowed := true, recurses := true, plainKeys := false, apart := false, narrowed := true }
def EquivStepsUptoSaid : Prop := equivStepsUptoRow.holds Tryz.pinned (OpenSpec.upto equivStepsSpec)

/-- 'skolemlaw16.EquivHolds', WHERE WHAT IT READS IS OF BULK AT MOST 1048576: true; the input reads as it did. -/
def equivHoldsUptoRow : OpenClaim := { program := "ytjecjaihficcdaagreat", sum := "42850a3f015d1e4d37c09f1ded47ef8ebb56af9fda8a52be68b3301ad27904d0", func := "skolem/skolemlaw16.EquivHolds", spec := "equivHolds", unfollowed := true, recurses := true, plainKeys := false, apart := false, narrowed := true }
def EquivHoldsUptoSaid : Prop := equivHoldsUptoRow.holds Tryz.pinned (OpenSpec.upto equivHoldsSpec)

end Rows
end Go.Proofs.YtjecjaihficcdaaGreat
