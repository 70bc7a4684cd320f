/-
  No cell of these rows narrows 'for every input' (looked for: loops, veiled, ifaces, maps, wideKeys, modest, calm, conditions, laid).
  DERIVED. THE GIVEN ROWS OF THIS SEAT. 6 by the template 'for every input the law returns true; each argument reads behind the call as it read before'; 0 by the template 'total and deterministic' (their statements: YtecohjcliahbnaaTotals.lean).
  GIVEN WITH THE SEED: the statements are not yours to turn. If you find one false, say at which input.
  Laid BY PROGRAM, IN A SANDBOX (cutbox-rows.mjs): the forced cells as the released guide's own fill.sh prints them over the translation 514e4289bd7fe103… (all of the seat's roots in one cut). By AI agents, Wed Nov 11 2026. No macro, syntax, notation, axiom, sorry.
-/
import Derived.Test.YtecohjcliahbnaaChecked
import GoSem.Claim
import GoSem.ClaimJoined
import GoSem.ClaimMapViews
import Derived.JoinedTies
import Derived.KernelRfl
namespace Go.Proofs.Ytecohjcliahbnaa
/- THE CELL 'sum', in the pinned program and in every row, IS THE sha256 OF THE DUMP (.gsa) THAT YtecohjcliahbnaaProg.lean LOADS. Nothing in Lean hashes anything: it is a label: what it is worth is what the hold of that sum in a sandbox is worth. -/
noncomputable def Try.pinned : Pinned := { name := "ytecohjcliahbnaa", sum := "514e4289bd7fe103d1b418a9c1c32b249b32efd13305fd0c1c802d2d621dbbfa", checked := Try.checked }
namespace Rows
def none {H : Type} : Left H := { results := [], args := [] }

/-- 'laws.FnExactIsFreeReason': WHATEVER THE INPUT: true; the input reads as it did. -/
def fnExactIsFreeReasonSpec : ChangeSpec := { name := "fnExactIsFreeReason", fn := fun _ => fun
  | [d] => { results := [.lit (.bool true)], args := [d] }
  | _ => none }
def fnExactIsFreeReasonRow : OpenClaim := { program := "ytecohjcliahbnaa", sum := "514e4289bd7fe103d1b418a9c1c32b249b32efd13305fd0c1c802d2d621dbbfa", func := "loop.example/g01009/laws.FnExactIsFreeReason", spec := "fnExactIsFreeReason", apart := false }
def FnExactIsFreeReasonSaid : Prop := fnExactIsFreeReasonRow.holds Try.pinned (OpenSpec.ofChange fnExactIsFreeReasonSpec)

/-- ITS FALSE NEIGHBOUR: 'it returns false'. Refute it at one input. -/
def fnExactIsFreeReasonWrong : ChangeSpec := { name := "fnExactIsFreeReason", fn := fun _ => fun
  | [d] => { results := [.lit (.bool false)], args := [d] }
  | _ => none }
def FnExactIsFreeReasonWrongFalsely : Prop := fnExactIsFreeReasonRow.holds Try.pinned (OpenSpec.ofChange fnExactIsFreeReasonWrong)

/-- 'laws.FnExactRaiseCoefficients': WHATEVER THE INPUT: true; the input reads as it did. -/
def fnExactRaiseCoefficientsSpec : ChangeSpec := { name := "fnExactRaiseCoefficients", fn := fun _ => fun
  | [d] => { results := [.lit (.bool true)], args := [d] }
  | _ => none }
def fnExactRaiseCoefficientsRow : OpenClaim := { program := "ytecohjcliahbnaa", sum := "514e4289bd7fe103d1b418a9c1c32b249b32efd13305fd0c1c802d2d621dbbfa", func := "loop.example/g01009/laws.FnExactRaiseCoefficients", spec := "fnExactRaiseCoefficients", unfollowed := true, recurses := true, apart := false }
def FnExactRaiseCoefficientsSaid : Prop := fnExactRaiseCoefficientsRow.holds Try.pinned (OpenSpec.ofChange fnExactRaiseCoefficientsSpec)

/-- ITS FALSE NEIGHBOUR: 'it returns false'. Refute it at one input. -/
def fnExactRaiseCoefficientsWrong : ChangeSpec := { name := "fnExactRaiseCoefficients", fn := fun _ => fun
  | [d] => { results := [.lit (.bool false)], args := [d] }
  | _ => none }
def FnExactRaiseCoefficientsWrongFalsely : Prop := fnExactRaiseCoefficientsRow.holds Try.pinned (OpenSpec.ofChange fnExactRaiseCoefficientsWrong)

/-- 'laws.FnExactDivideCoefficients': WHATEVER THE INPUT: true; the input reads as it did. -/
def fnExactDivideCoefficientsSpec : ChangeSpec := { name := "fnExactDivideCoefficients", fn := fun _ => fun
  | [d] => { results := [.lit (.bool true)], args := [d] }
  | _ => none }
def fnExactDivideCoefficientsRow : OpenClaim := { program := "ytecohjcliahbnaa", sum := "514e4289bd7fe103d1b418a9c1c32b249b32efd13305fd0c1c802d2d621dbbfa", func := "loop.example/g01009/laws.FnExactDivideCoefficients", spec := "fnExactDivideCoefficients", unfollowed := true, recurses := true, apart := false }
def FnExactDivideCoefficientsSaid : Prop := fnExactDivideCoefficientsRow.holds Try.pinned (OpenSpec.ofChange fnExactDivideCoefficientsSpec)

/-- ITS FALSE NEIGHBOUR: 'it returns false'. Refute it at one input. -/
def fnExactDivideCoefficientsWrong : ChangeSpec := { name := "fnExactDivideCoefficients", fn := fun _ => fun
  | [d] => { results := [.lit (.bool false)], args := [d] }
  | _ => none }
def FnExactDivideCoefficientsWrongFalsely : Prop := fnExactDivideCoefficientsRow.holds Try.pinned (OpenSpec.ofChange fnExactDivideCoefficientsWrong)

/-- 'laws.FnExactChangesOf': WHATEVER THE INPUT: true; the input reads as it did. -/
def fnExactChangesOfSpec : ChangeSpec := { name := "fnExactChangesOf", fn := fun _ => fun
  | [d] => { results := [.lit (.bool true)], args := [d] }
  | _ => none }
def fnExactChangesOfRow : OpenClaim := { program := "ytecohjcliahbnaa", sum := "514e4289bd7fe103d1b418a9c1c32b249b32efd13305fd0c1c802d2d621dbbfa", func := "loop.example/g01009/laws.FnExactChangesOf", spec := "fnExactChangesOf", unfollowed := true, recurses := true, apart := false }
def FnExactChangesOfSaid : Prop := fnExactChangesOfRow.holds Try.pinned (OpenSpec.ofChange fnExactChangesOfSpec)

/-- ITS FALSE NEIGHBOUR: 'it returns false'. Refute it at one input. -/
def fnExactChangesOfWrong : ChangeSpec := { name := "fnExactChangesOf", fn := fun _ => fun
  | [d] => { results := [.lit (.bool false)], args := [d] }
  | _ => none }
def FnExactChangesOfWrongFalsely : Prop := fnExactChangesOfRow.holds Try.pinned (OpenSpec.ofChange fnExactChangesOfWrong)

/-- 'laws.FnCoefficients': WHATEVER THE INPUT: true; the input reads as it did. -/
def fnCoefficientsSpec : ChangeSpec := { name := "fnCoefficients", fn := fun _ => fun
  | [d1, d2] => { results := [.lit (.bool true)], args := [d1, d2] }
  | _ => none }
def fnCoefficientsRow : OpenClaim := { program := "ytecohjcliahbnaa", sum := "514e4289bd7fe103d1b418a9c1c32b249b32efd13305fd0c1c802d2d621dbbfa", func := "loop.example/g01009/laws.FnCoefficients", spec := "fnCoefficients", unfollowed := true, recurses := true, apart := false }
def FnCoefficientsSaid : Prop := fnCoefficientsRow.holds Try.pinned (OpenSpec.ofChange fnCoefficientsSpec)

/-- ITS FALSE NEIGHBOUR: 'it returns false'. Refute it at one input. -/
def fnCoefficientsWrong : ChangeSpec := { name := "fnCoefficients", fn := fun _ => fun
  | [d1, d2] => { results := [.lit (.bool false)], args := [d1, d2] }
  | _ => none }
def FnCoefficientsWrongFalsely : Prop := fnCoefficientsRow.holds Try.pinned (OpenSpec.ofChange fnCoefficientsWrong)

/-- 'laws.FnExactBoundaryEdges': WHATEVER THE INPUT: true; the input reads as it did. -/
def fnExactBoundaryEdgesSpec : ChangeSpec := { name := "fnExactBoundaryEdges", fn := fun _ => fun
  | [d1, d2] => { results := [.lit (.bool true)], args := [d1, d2] }
  | _ => none }
def fnExactBoundaryEdgesRow : OpenClaim := { program := "ytecohjcliahbnaa", sum := "514e4289bd7fe103d1b418a9c1c32b249b32efd13305fd0c1c802d2d621dbbfa", func := "loop.example/g01009/laws.FnExactBoundaryEdges", spec := "fnExactBoundaryEdges", unfollowed := true, recurses := true, apart := false }
def FnExactBoundaryEdgesSaid : Prop := fnExactBoundaryEdgesRow.holds Try.pinned (OpenSpec.ofChange fnExactBoundaryEdgesSpec)

/-- ITS FALSE NEIGHBOUR: 'it returns false'. Refute it at one input. -/
def fnExactBoundaryEdgesWrong : ChangeSpec := { name := "fnExactBoundaryEdges", fn := fun _ => fun
  | [d1, d2] => { results := [.lit (.bool false)], args := [d1, d2] }
  | _ => none }
def FnExactBoundaryEdgesWrongFalsely : Prop := fnExactBoundaryEdgesRow.holds Try.pinned (OpenSpec.ofChange fnExactBoundaryEdgesWrong)

/- THE SECOND FORM. 'bulk': how many values and letters a reading holds, each counted each time it is reached (what is shared counts as often as it is met; a slice's spare places count too). A statement '..UptoSaid' is the law's where the arguments, and the package variables that the reading takes, are together of bulk at most 1048576: NARROWER than '..Said'. Prove '..Said' where nothing that the law and all that it calls make is longer than what came in: it says more and counts as full. Else prove '..UptoSaid'. A law counts once. -/
mutual
def uptoBulk {H : Type} : DataW H → Nat
  | .lit (.string bytes) => bytes.length + 1
  | .lit _ => 1
  | .nil => 1
  | .ptr d => uptoBulk d + 1
  | .slice elems spare => uptoBulkAll elems + uptoBulkAll spare + 1
  | .agg parts => uptoBulkAll parts + 1
  | .iface _ d => uptoBulk d + 1
  | .map entries => uptoBulkEntries entries + 1
  | .held _ => 1
def uptoBulkAll {H : Type} : List (DataW H) → Nat
  | [] => 0
  | d :: r => uptoBulk d + uptoBulkAll r
def uptoBulkEntries {H : Type} : List (Lit × DataW H) → Nat
  | [] => 0
  | x :: r => uptoBulkEntry x + uptoBulkEntries r
def uptoBulkEntry {H : Type} : Lit × DataW H → Nat
  | (.string bytes, d) => bytes.length + uptoBulk d + 1
  | (_, d) => uptoBulk d + 1
 end
def uptoSmall : (H : Type) → List (DataW H) → Bool := fun _ ds => decide (uptoBulkAll ds ≤ 1048576)
def OpenSpec.upto (s : _root_.Go.ChangeSpec) : _root_.Go.OpenSpec := { _root_.Go.OpenSpec.ofChange s with cond := some uptoSmall }

/-- 'laws.FnExactIsFreeReason', WHERE WHAT IT READS IS OF BULK AT MOST 1048576: true; the input reads as it did. -/
def fnExactIsFreeReasonUptoRow : OpenClaim := { program := "ytecohjcliahbnaa", sum := "514e4289bd7fe103d1b418a9c1c32b249b32efd13305fd0c1c802d2d621dbbfa", func := "loop.example/g01009/laws.FnExactIsFreeReason", spec := "fnExactIsFreeReason", apart := false, narrowed := true }
def FnExactIsFreeReasonUptoSaid : Prop := fnExactIsFreeReasonUptoRow.holds Try.pinned (OpenSpec.upto fnExactIsFreeReasonSpec)

/-- 'laws.FnExactRaiseCoefficients', WHERE WHAT IT READS IS OF BULK AT MOST 1048576: true; the input reads as it did. -/
def fnExactRaiseCoefficientsUptoRow : OpenClaim := { program := "ytecohjcliahbnaa", sum := "514e4289bd7fe103d1b418a9c1c32b249b32efd13305fd0c1c802d2d621dbbfa", func := "loop.example/g01009/laws.FnExactRaiseCoefficients", spec := "fnExactRaiseCoefficients", unfollowed := true, recurses := true, apart := false, narrowed := true }
def FnExactRaiseCoefficientsUptoSaid : Prop := fnExactRaiseCoefficientsUptoRow.holds Try.pinned (OpenSpec.upto fnExactRaiseCoefficientsSpec)

/-- 'laws.FnExactDivideCoefficients', WHERE WHAT IT READS IS OF BULK AT MOST 1048576: true; the input reads as it did. -/
def fnExactDivideCoefficientsUptoRow : OpenClaim := { program := "ytecohjcliahbnaa", sum := "514e4289bd7fe103d1b418a9c1c32b249b32efd13305fd0c1c802d2d621dbbfa", func := "loop.example/g01009/laws.FnExactDivideCoefficients", spec := "fnExactDivideCoefficients", unfollowed := true, recurses := true, apart := false, narrowed := true }
def FnExactDivideCoefficientsUptoSaid : Prop := fnExactDivideCoefficientsUptoRow.holds Try.pinned (OpenSpec.upto fnExactDivideCoefficientsSpec)

/-- 'laws.FnExactChangesOf', WHERE WHAT IT READS IS OF BULK AT MOST 1048576: true; the input reads as it did. -/
def fnExactChangesOfUptoRow : OpenClaim := { program := "ytecohjcliahbnaa", sum := "514e4289bd7fe103d1b418a9c1c32b249b32efd13305fd0c1c802d2d621dbbfa", func := "loop.example/g01009/laws.FnExactChangesOf", spec := "fnExactChangesOf", unfollowed := true, recurses := true, apart := false, narrowed := true }
def FnExactChangesOfUptoSaid : Prop := fnExactChangesOfUptoRow.holds Try.pinned (OpenSpec.upto fnExactChangesOfSpec)

/-- 'laws.FnCoefficients', WHERE WHAT IT READS IS OF BULK AT MOST 1048576: true; the input reads as it did. -/
def fnCoefficientsUptoRow : OpenClaim := { program := "ytecohjcliahbnaa", sum := "514e4289bd7fe103d1b418a9c1c32b249b32efd13305fd0c1c802d2d621dbbfa", func := "loop.example/g01009/laws.FnCoefficients", spec := "fnCoefficients", unfollowed := true, recurses := true, apart := false, narrowed := true }
def FnCoefficientsUptoSaid : Prop := fnCoefficientsUptoRow.holds Try.pinned (OpenSpec.upto fnCoefficientsSpec)

/-- 'laws.FnExactBoundaryEdges', WHERE WHAT IT READS IS OF BULK AT MOST 1048576: true; the input reads as it did. -/
def fnExactBoundaryEdgesUptoRow : OpenClaim := { program := "ytecohjcliahbnaa", sum := "514e4289bd7fe103d1b418a9c1c32b249b32efd13305fd0c1c802d2d621dbbfa", func := "loop.example/g01009/laws.FnExactBoundaryEdges", spec := "fnExactBoundaryEdges", unfollowed := true, recurses := true, apart := false, narrowed := true }
def FnExactBoundaryEdgesUptoSaid : Prop := fnExactBoundaryEdgesUptoRow.holds Try.pinned (OpenSpec.upto fnExactBoundaryEdgesSpec)

end Rows
end Go.Proofs.Ytecohjcliahbnaa
