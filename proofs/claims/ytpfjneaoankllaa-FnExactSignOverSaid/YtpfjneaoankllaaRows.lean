/-
  No cell of these rows narrows 'for every input' (looked for: loops, veiled, ifaces, maps, wideKeys, modest, calm, conditions, laid).
  DERIVED. THE GIVEN ROWS OF THIS SEAT. 8 by the template 'for every input the law returns true; each argument reads behind the call as it read before'; 0 by the template 'total and deterministic' (their statements: YtpfjneaoankllaaTotals.lean).
  GIVEN WITH THE SEED: the statements are not yours to turn. If you find one false, say at which input.
  Laid BY PROGRAM, IN A SANDBOX (cutbox-rows.mjs): the forced cells as the released guide's own fill.sh prints them over the translation 812982ba50fbf272… (all of the seat's roots in one cut). By AI agents, Wed Nov 11 2026. No macro, syntax, notation, axiom, sorry.
-/
import Derived.Test.YtpfjneaoankllaaChecked
import GoSem.Claim
import GoSem.ClaimJoined
import GoSem.ClaimMapViews
import Derived.JoinedTies
import Derived.KernelRfl
namespace Go.Proofs.Ytpfjneaoankllaa
/- THE CELL 'sum', in the pinned program and in every row, IS THE sha256 OF THE DUMP (.gsa) THAT YtpfjneaoankllaaProg.lean LOADS. Nothing in Lean hashes anything: it is a label: what it is worth is what the hold of that sum in a sandbox is worth. -/
noncomputable def Try.pinned : Pinned := { name := "ytpfjneaoankllaa", sum := "812982ba50fbf272cec3d80ca92f30e1a7d55eddab171db871405a01d03942e9", checked := Try.checked }
namespace Rows
def none {H : Type} : Left H := { results := [], args := [] }

/-- 'laws.FnExactBernsteinDenominator': WHATEVER THE INPUT: true; the input reads as it did. -/
def fnExactBernsteinDenominatorSpec : ChangeSpec := { name := "fnExactBernsteinDenominator", fn := fun _ => fun
  | [d1, d2] => { results := [.lit (.bool true)], args := [d1, d2] }
  | _ => none }
def fnExactBernsteinDenominatorRow : OpenClaim := { program := "ytpfjneaoankllaa", sum := "812982ba50fbf272cec3d80ca92f30e1a7d55eddab171db871405a01d03942e9", func := "loop.example/g01009/laws.FnExactBernsteinDenominator", spec := "fnExactBernsteinDenominator", apart := false }
def FnExactBernsteinDenominatorSaid : Prop := fnExactBernsteinDenominatorRow.holds Try.pinned (OpenSpec.ofChange fnExactBernsteinDenominatorSpec)

/-- ITS FALSE NEIGHBOUR: 'it returns false'. Refute it at one input. -/
def fnExactBernsteinDenominatorWrong : ChangeSpec := { name := "fnExactBernsteinDenominator", fn := fun _ => fun
  | [d1, d2] => { results := [.lit (.bool false)], args := [d1, d2] }
  | _ => none }
def FnExactBernsteinDenominatorWrongFalsely : Prop := fnExactBernsteinDenominatorRow.holds Try.pinned (OpenSpec.ofChange fnExactBernsteinDenominatorWrong)

/-- 'laws.FnExactDegreesOf': WHATEVER THE INPUT: true; the input reads as it did. -/
def fnExactDegreesOfSpec : ChangeSpec := { name := "fnExactDegreesOf", fn := fun _ => fun
  | [d1, d2] => { results := [.lit (.bool true)], args := [d1, d2] }
  | _ => none }
def fnExactDegreesOfRow : OpenClaim := { program := "ytpfjneaoankllaa", sum := "812982ba50fbf272cec3d80ca92f30e1a7d55eddab171db871405a01d03942e9", func := "loop.example/g01009/laws.FnExactDegreesOf", spec := "fnExactDegreesOf", apart := false }
def FnExactDegreesOfSaid : Prop := fnExactDegreesOfRow.holds Try.pinned (OpenSpec.ofChange fnExactDegreesOfSpec)

/-- ITS FALSE NEIGHBOUR: 'it returns false'. Refute it at one input. -/
def fnExactDegreesOfWrong : ChangeSpec := { name := "fnExactDegreesOf", fn := fun _ => fun
  | [d1, d2] => { results := [.lit (.bool false)], args := [d1, d2] }
  | _ => none }
def FnExactDegreesOfWrongFalsely : Prop := fnExactDegreesOfRow.holds Try.pinned (OpenSpec.ofChange fnExactDegreesOfWrong)

/-- 'laws.FnExactBernsteinCoefficients': WHATEVER THE INPUT: true; the input reads as it did. -/
def fnExactBernsteinCoefficientsSpec : ChangeSpec := { name := "fnExactBernsteinCoefficients", fn := fun _ => fun
  | [d1, d2] => { results := [.lit (.bool true)], args := [d1, d2] }
  | _ => none }
def fnExactBernsteinCoefficientsRow : OpenClaim := { program := "ytpfjneaoankllaa", sum := "812982ba50fbf272cec3d80ca92f30e1a7d55eddab171db871405a01d03942e9", func := "loop.example/g01009/laws.FnExactBernsteinCoefficients", spec := "fnExactBernsteinCoefficients", apart := false }
def FnExactBernsteinCoefficientsSaid : Prop := fnExactBernsteinCoefficientsRow.holds Try.pinned (OpenSpec.ofChange fnExactBernsteinCoefficientsSpec)

/-- ITS FALSE NEIGHBOUR: 'it returns false'. Refute it at one input. -/
def fnExactBernsteinCoefficientsWrong : ChangeSpec := { name := "fnExactBernsteinCoefficients", fn := fun _ => fun
  | [d1, d2] => { results := [.lit (.bool false)], args := [d1, d2] }
  | _ => none }
def FnExactBernsteinCoefficientsWrongFalsely : Prop := fnExactBernsteinCoefficientsRow.holds Try.pinned (OpenSpec.ofChange fnExactBernsteinCoefficientsWrong)

/-- 'laws.FnExactSignOver': WHATEVER THE INPUT: true; the input reads as it did. -/
def fnExactSignOverSpec : ChangeSpec := { name := "fnExactSignOver", fn := fun _ => fun
  | [d1, d2] => { results := [.lit (.bool true)], args := [d1, d2] }
  | _ => none }
def fnExactSignOverRow : OpenClaim := { program := "ytpfjneaoankllaa", sum := "812982ba50fbf272cec3d80ca92f30e1a7d55eddab171db871405a01d03942e9", func := "loop.example/g01009/laws.FnExactSignOver", spec := "fnExactSignOver", apart := false }
def FnExactSignOverSaid : Prop := fnExactSignOverRow.holds Try.pinned (OpenSpec.ofChange fnExactSignOverSpec)

/-- ITS FALSE NEIGHBOUR: 'it returns false'. Refute it at one input. -/
def fnExactSignOverWrong : ChangeSpec := { name := "fnExactSignOver", fn := fun _ => fun
  | [d1, d2] => { results := [.lit (.bool false)], args := [d1, d2] }
  | _ => none }
def FnExactSignOverWrongFalsely : Prop := fnExactSignOverRow.holds Try.pinned (OpenSpec.ofChange fnExactSignOverWrong)

/-- 'laws.FnExactBernsteinRange': WHATEVER THE INPUT: true; the input reads as it did. -/
def fnExactBernsteinRangeSpec : ChangeSpec := { name := "fnExactBernsteinRange", fn := fun _ => fun
  | [d1, d2] => { results := [.lit (.bool true)], args := [d1, d2] }
  | _ => none }
def fnExactBernsteinRangeRow : OpenClaim := { program := "ytpfjneaoankllaa", sum := "812982ba50fbf272cec3d80ca92f30e1a7d55eddab171db871405a01d03942e9", func := "loop.example/g01009/laws.FnExactBernsteinRange", spec := "fnExactBernsteinRange", inPlace := ["math/bits.Add64", "math/bits.Sub64"], named := ["math/bits.divideError", "math/bits.overflowError"], apart := false }
def FnExactBernsteinRangeSaid : Prop := fnExactBernsteinRangeRow.holds Try.pinned (OpenSpec.ofChange fnExactBernsteinRangeSpec)

/-- ITS FALSE NEIGHBOUR: 'it returns false'. Refute it at one input. -/
def fnExactBernsteinRangeWrong : ChangeSpec := { name := "fnExactBernsteinRange", fn := fun _ => fun
  | [d1, d2] => { results := [.lit (.bool false)], args := [d1, d2] }
  | _ => none }
def FnExactBernsteinRangeWrongFalsely : Prop := fnExactBernsteinRangeRow.holds Try.pinned (OpenSpec.ofChange fnExactBernsteinRangeWrong)

/-- 'laws.FnExactBoundaryEdges': WHATEVER THE INPUT: true; the input reads as it did. -/
def fnExactBoundaryEdgesSpec : ChangeSpec := { name := "fnExactBoundaryEdges", fn := fun _ => fun
  | [d1, d2] => { results := [.lit (.bool true)], args := [d1, d2] }
  | _ => none }
def fnExactBoundaryEdgesRow : OpenClaim := { program := "ytpfjneaoankllaa", sum := "812982ba50fbf272cec3d80ca92f30e1a7d55eddab171db871405a01d03942e9", func := "loop.example/g01009/laws.FnExactBoundaryEdges", spec := "fnExactBoundaryEdges", unfollowed := true, recurses := true, apart := false }
def FnExactBoundaryEdgesSaid : Prop := fnExactBoundaryEdgesRow.holds Try.pinned (OpenSpec.ofChange fnExactBoundaryEdgesSpec)

/-- ITS FALSE NEIGHBOUR: 'it returns false'. Refute it at one input. -/
def fnExactBoundaryEdgesWrong : ChangeSpec := { name := "fnExactBoundaryEdges", fn := fun _ => fun
  | [d1, d2] => { results := [.lit (.bool false)], args := [d1, d2] }
  | _ => none }
def FnExactBoundaryEdgesWrongFalsely : Prop := fnExactBoundaryEdgesRow.holds Try.pinned (OpenSpec.ofChange fnExactBoundaryEdgesWrong)

/-- 'laws.FnExactIsPlaneSystem': WHATEVER THE INPUT: true; the input reads as it did. -/
def fnExactIsPlaneSystemSpec : ChangeSpec := { name := "fnExactIsPlaneSystem", fn := fun _ => fun
  | [d1, d2] => { results := [.lit (.bool true)], args := [d1, d2] }
  | _ => none }
def fnExactIsPlaneSystemRow : OpenClaim := { program := "ytpfjneaoankllaa", sum := "812982ba50fbf272cec3d80ca92f30e1a7d55eddab171db871405a01d03942e9", func := "loop.example/g01009/laws.FnExactIsPlaneSystem", spec := "fnExactIsPlaneSystem", apart := false }
def FnExactIsPlaneSystemSaid : Prop := fnExactIsPlaneSystemRow.holds Try.pinned (OpenSpec.ofChange fnExactIsPlaneSystemSpec)

/-- ITS FALSE NEIGHBOUR: 'it returns false'. Refute it at one input. -/
def fnExactIsPlaneSystemWrong : ChangeSpec := { name := "fnExactIsPlaneSystem", fn := fun _ => fun
  | [d1, d2] => { results := [.lit (.bool false)], args := [d1, d2] }
  | _ => none }
def FnExactIsPlaneSystemWrongFalsely : Prop := fnExactIsPlaneSystemRow.holds Try.pinned (OpenSpec.ofChange fnExactIsPlaneSystemWrong)

/-- 'laws.FnExactFirstSigned': WHATEVER THE INPUT: true; the input reads as it did. -/
def fnExactFirstSignedSpec : ChangeSpec := { name := "fnExactFirstSigned", fn := fun _ => fun
  | [d1, d2] => { results := [.lit (.bool true)], args := [d1, d2] }
  | _ => none }
def fnExactFirstSignedRow : OpenClaim := { program := "ytpfjneaoankllaa", sum := "812982ba50fbf272cec3d80ca92f30e1a7d55eddab171db871405a01d03942e9", func := "loop.example/g01009/laws.FnExactFirstSigned", spec := "fnExactFirstSigned", unfollowed := true, recurses := true, apart := false }
def FnExactFirstSignedSaid : Prop := fnExactFirstSignedRow.holds Try.pinned (OpenSpec.ofChange fnExactFirstSignedSpec)

/-- ITS FALSE NEIGHBOUR: 'it returns false'. Refute it at one input. -/
def fnExactFirstSignedWrong : ChangeSpec := { name := "fnExactFirstSigned", fn := fun _ => fun
  | [d1, d2] => { results := [.lit (.bool false)], args := [d1, d2] }
  | _ => none }
def FnExactFirstSignedWrongFalsely : Prop := fnExactFirstSignedRow.holds Try.pinned (OpenSpec.ofChange fnExactFirstSignedWrong)

/- THE SECOND FORM. 'bulk': how many values and letters a reading holds, each counted each time it is reached (what is shared counts as often as it is met; a slice's spare places count too). A statement '..UptoSaid' is the law's where the arguments, and the package variables that the reading takes, are together of bulk at most 1048576: NARROWER than '..Said'. Prove '..Said' where nothing that the law and all that it calls make is longer than what came in: it says more and counts as full. Else prove '..UptoSaid'. A law counts once. -/
mutual
def uptoBulk {H : Type} : DataW H → Nat
  | .lit (.string bytes) => bytes.length + 1
  | .lit _ => 1
  | .nil => 1
  | .ptr d => uptoBulk d + 1
  | .slice elems spare => uptoBulkAll elems + uptoBulkAll spare + 1
  | .agg parts => uptoBulkAll parts + 1
  | .iface _ d => uptoBulk d + 1
  | .map entries => uptoBulkEntries entries + 1
  | .held _ => 1
def uptoBulkAll {H : Type} : List (DataW H) → Nat
  | [] => 0
  | d :: r => uptoBulk d + uptoBulkAll r
def uptoBulkEntries {H : Type} : List (Lit × DataW H) → Nat
  | [] => 0
  | x :: r => uptoBulkEntry x + uptoBulkEntries r
def uptoBulkEntry {H : Type} : Lit × DataW H → Nat
  | (.string bytes, d) => bytes.length + uptoBulk d + 1
  | (_, d) => uptoBulk d + 1
 end
def uptoSmall : (H : Type) → List (DataW H) → Bool := fun _ ds => decide (uptoBulkAll ds ≤ 1048576)
def OpenSpec.upto (s : _root_.Go.ChangeSpec) : _root_.Go.OpenSpec := { _root_.Go.OpenSpec.ofChange s with cond := some uptoSmall }

/-- 'laws.FnExactBernsteinDenominator', WHERE WHAT IT READS IS OF BULK AT MOST 1048576: true; the input reads as it did. -/
def fnExactBernsteinDenominatorUptoRow : OpenClaim := { program := "ytpfjneaoankllaa", sum := "812982ba50fbf272cec3d80ca92f30e1a7d55eddab171db871405a01d03942e9", func := "loop.example/g01009/laws.FnExactBernsteinDenominator", spec := "fnExactBernsteinDenominator", apart := false, narrowed := true }
def FnExactBernsteinDenominatorUptoSaid : Prop := fnExactBernsteinDenominatorUptoRow.holds Try.pinned (OpenSpec.upto fnExactBernsteinDenominatorSpec)

/-- 'laws.FnExactDegreesOf', WHERE WHAT IT READS IS OF BULK AT MOST 1048576: true; the input reads as it did. -/
def fnExactDegreesOfUptoRow : OpenClaim := { program := "ytpfjneaoankllaa", sum := "812982ba50fbf272cec3d80ca92f30e1a7d55eddab171db871405a01d03942e9", func := "loop.example/g01009/laws.FnExactDegreesOf", spec := "fnExactDegreesOf", apart := false, narrowed := true }
def FnExactDegreesOfUptoSaid : Prop := fnExactDegreesOfUptoRow.holds Try.pinned (OpenSpec.upto fnExactDegreesOfSpec)

/-- 'laws.FnExactBernsteinCoefficients', WHERE WHAT IT READS IS OF BULK AT MOST 1048576: true; the input reads as it did. -/
def fnExactBernsteinCoefficientsUptoRow : OpenClaim := { program := "ytpfjneaoankllaa", sum := "812982ba50fbf272cec3d80ca92f30e1a7d55eddab171db871405a01d03942e9", func := "loop.example/g01009/laws.FnExactBernsteinCoefficients", spec := "fnExactBernsteinCoefficients", apart := false, narrowed := true }
def FnExactBernsteinCoefficientsUptoSaid : Prop := fnExactBernsteinCoefficientsUptoRow.holds Try.pinned (OpenSpec.upto fnExactBernsteinCoefficientsSpec)

/-- 'laws.FnExactSignOver', WHERE WHAT IT READS IS OF BULK AT MOST 1048576: true; the input reads as it did. -/
def fnExactSignOverUptoRow : OpenClaim := { program := "ytpfjneaoankllaa", sum := "812982ba50fbf272cec3d80ca92f30e1a7d55eddab171db871405a01d03942e9", func := "loop.example/g01009/laws.FnExactSignOver", spec := "fnExactSignOver", apart := false, narrowed := true }
def FnExactSignOverUptoSaid : Prop := fnExactSignOverUptoRow.holds Try.pinned (OpenSpec.upto fnExactSignOverSpec)

/-- 'laws.FnExactBernsteinRange', WHERE WHAT IT READS IS OF BULK AT MOST 1048576: true; the input reads as it did. -/
def fnExactBernsteinRangeUptoRow : OpenClaim := { program := "ytpfjneaoankllaa", sum := "812982ba50fbf272cec3d80ca92f30e1a7d55eddab171db871405a01d03942e9", func := "loop.example/g01009/laws.FnExactBernsteinRange", spec := "fnExactBernsteinRange", inPlace := ["math/bits.Add64", "math/bits.Sub64"], named := ["math/bits.divideError", "math/bits.overflowError"], apart := false, narrowed := true }
def FnExactBernsteinRangeUptoSaid : Prop := fnExactBernsteinRangeUptoRow.holds Try.pinned (OpenSpec.upto fnExactBernsteinRangeSpec)

/-- 'laws.FnExactBoundaryEdges', WHERE WHAT IT READS IS OF BULK AT MOST 1048576: true; the input reads as it did. -/
def fnExactBoundaryEdgesUptoRow : OpenClaim := { program := "ytpfjneaoankllaa", sum := "812982ba50fbf272cec3d80ca92f30e1a7d55eddab171db871405a01d03942e9", func := "loop.example/g01009/laws.FnExactBoundaryEdges", spec := "fnExactBoundaryEdges", unfollowed := true, recurses := true, apart := false, narrowed := true }
def FnExactBoundaryEdgesUptoSaid : Prop := fnExactBoundaryEdgesUptoRow.holds Try.pinned (OpenSpec.upto fnExactBoundaryEdgesSpec)

/-- 'laws.FnExactIsPlaneSystem', WHERE WHAT IT READS IS OF BULK AT MOST 1048576: true; the input reads as it did. -/
def fnExactIsPlaneSystemUptoRow : OpenClaim := { program := "ytpfjneaoankllaa", sum := "812982ba50fbf272cec3d80ca92f30e1a7d55eddab171db871405a01d03942e9", func := "loop.example/g01009/laws.FnExactIsPlaneSystem", spec := "fnExactIsPlaneSystem", apart := false, narrowed := true }
def FnExactIsPlaneSystemUptoSaid : Prop := fnExactIsPlaneSystemUptoRow.holds Try.pinned (OpenSpec.upto fnExactIsPlaneSystemSpec)

/-- 'laws.FnExactFirstSigned', WHERE WHAT IT READS IS OF BULK AT MOST 1048576: true; the input reads as it did. -/
def fnExactFirstSignedUptoRow : OpenClaim := { program := "ytpfjneaoankllaa", sum := "812982ba50fbf272cec3d80ca92f30e1a7d55eddab171db871405a01d03942e9", func := "loop.example/g01009/laws.FnExactFirstSigned", spec := "fnExactFirstSigned", unfollowed := true, recurses := true, apart := false, narrowed := true }
def FnExactFirstSignedUptoSaid : Prop := fnExactFirstSignedUptoRow.holds Try.pinned (OpenSpec.upto fnExactFirstSignedSpec)

end Rows
end Go.Proofs.Ytpfjneaoankllaa
