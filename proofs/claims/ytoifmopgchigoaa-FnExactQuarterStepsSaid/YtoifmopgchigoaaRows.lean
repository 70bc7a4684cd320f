/-
  No cell of these rows narrows 'for every input' (looked for: loops, veiled, ifaces, maps, wideKeys, modest, calm, conditions, laid).
  DERIVED. THE GIVEN ROWS OF THIS SEAT. 12 by the template 'for every input the law returns true; each argument reads behind the call as it read before'; 0 by the template 'total and deterministic' (their statements: YtoifmopgchigoaaTotals.lean).
  GIVEN WITH THE SEED: the statements are not yours to turn. If you find one false, say at which input.
  Laid BY PROGRAM, IN A SANDBOX (cutbox-rows.mjs): the forced cells as the released guide's own fill.sh prints them over the translation bb19f04e58a2b023… (all of the seat's roots in one cut). By AI agents, Wed Nov 11 2026. No macro, syntax, notation, axiom, sorry.
-/
import Derived.Test.YtoifmopgchigoaaChecked
import GoSem.Claim
import GoSem.ClaimJoined
import GoSem.ClaimMapViews
import Derived.JoinedTies
import Derived.KernelRfl
namespace Go.Proofs.Ytoifmopgchigoaa
/- THE CELL 'sum', in the pinned program and in every row, IS THE sha256 OF THE DUMP (.gsa) THAT YtoifmopgchigoaaProg.lean LOADS. Nothing in Lean hashes anything: it is a label: what it is worth is what the hold of that sum in a sandbox is worth. -/
noncomputable def Try.pinned : Pinned := { name := "ytoifmopgchigoaa", sum := "bb19f04e58a2b023ec9bfc7352fee981e25848d52ba8d20d12a51e34c0126b4f", checked := Try.checked }
namespace Rows
def none {H : Type} : Left H := { results := [], args := [] }

/-- 'laws.FnExactIsPolygon': WHATEVER THE INPUT: true; the input reads as it did. -/
def fnExactIsPolygonSpec : ChangeSpec := { name := "fnExactIsPolygon", fn := fun _ => fun
  | [d] => { results := [.lit (.bool true)], args := [d] }
  | _ => none }
def fnExactIsPolygonRow : OpenClaim := { program := "ytoifmopgchigoaa", sum := "bb19f04e58a2b023ec9bfc7352fee981e25848d52ba8d20d12a51e34c0126b4f", func := "loop.example/g01009/laws.FnExactIsPolygon", spec := "fnExactIsPolygon", apart := false }
def FnExactIsPolygonSaid : Prop := fnExactIsPolygonRow.holds Try.pinned (OpenSpec.ofChange fnExactIsPolygonSpec)

/-- ITS FALSE NEIGHBOUR: 'it returns false'. Refute it at one input. -/
def fnExactIsPolygonWrong : ChangeSpec := { name := "fnExactIsPolygon", fn := fun _ => fun
  | [d] => { results := [.lit (.bool false)], args := [d] }
  | _ => none }
def FnExactIsPolygonWrongFalsely : Prop := fnExactIsPolygonRow.holds Try.pinned (OpenSpec.ofChange fnExactIsPolygonWrong)

/-- 'laws.FnExactTurnsOf': WHATEVER THE INPUT: true; the input reads as it did. -/
def fnExactTurnsOfSpec : ChangeSpec := { name := "fnExactTurnsOf", fn := fun _ => fun
  | [d] => { results := [.lit (.bool true)], args := [d] }
  | _ => none }
def fnExactTurnsOfRow : OpenClaim := { program := "ytoifmopgchigoaa", sum := "bb19f04e58a2b023ec9bfc7352fee981e25848d52ba8d20d12a51e34c0126b4f", func := "loop.example/g01009/laws.FnExactTurnsOf", spec := "fnExactTurnsOf", unfollowed := true, recurses := true, apart := false }
def FnExactTurnsOfSaid : Prop := fnExactTurnsOfRow.holds Try.pinned (OpenSpec.ofChange fnExactTurnsOfSpec)

/-- ITS FALSE NEIGHBOUR: 'it returns false'. Refute it at one input. -/
def fnExactTurnsOfWrong : ChangeSpec := { name := "fnExactTurnsOf", fn := fun _ => fun
  | [d] => { results := [.lit (.bool false)], args := [d] }
  | _ => none }
def FnExactTurnsOfWrongFalsely : Prop := fnExactTurnsOfRow.holds Try.pinned (OpenSpec.ofChange fnExactTurnsOfWrong)

/-- 'laws.FnExactTwiceArea': WHATEVER THE INPUT: true; the input reads as it did. -/
def fnExactTwiceAreaSpec : ChangeSpec := { name := "fnExactTwiceArea", fn := fun _ => fun
  | [d] => { results := [.lit (.bool true)], args := [d] }
  | _ => none }
def fnExactTwiceAreaRow : OpenClaim := { program := "ytoifmopgchigoaa", sum := "bb19f04e58a2b023ec9bfc7352fee981e25848d52ba8d20d12a51e34c0126b4f", func := "loop.example/g01009/laws.FnExactTwiceArea", spec := "fnExactTwiceArea", apart := false }
def FnExactTwiceAreaSaid : Prop := fnExactTwiceAreaRow.holds Try.pinned (OpenSpec.ofChange fnExactTwiceAreaSpec)

/-- ITS FALSE NEIGHBOUR: 'it returns false'. Refute it at one input. -/
def fnExactTwiceAreaWrong : ChangeSpec := { name := "fnExactTwiceArea", fn := fun _ => fun
  | [d] => { results := [.lit (.bool false)], args := [d] }
  | _ => none }
def FnExactTwiceAreaWrongFalsely : Prop := fnExactTwiceAreaRow.holds Try.pinned (OpenSpec.ofChange fnExactTwiceAreaWrong)

/-- 'laws.FnExactIsOnPolygon': WHATEVER THE INPUT: true; the input reads as it did. -/
def fnExactIsOnPolygonSpec : ChangeSpec := { name := "fnExactIsOnPolygon", fn := fun _ => fun
  | [d1, d2] => { results := [.lit (.bool true)], args := [d1, d2] }
  | _ => none }
def fnExactIsOnPolygonRow : OpenClaim := { program := "ytoifmopgchigoaa", sum := "bb19f04e58a2b023ec9bfc7352fee981e25848d52ba8d20d12a51e34c0126b4f", func := "loop.example/g01009/laws.FnExactIsOnPolygon", spec := "fnExactIsOnPolygon", apart := false }
def FnExactIsOnPolygonSaid : Prop := fnExactIsOnPolygonRow.holds Try.pinned (OpenSpec.ofChange fnExactIsOnPolygonSpec)

/-- ITS FALSE NEIGHBOUR: 'it returns false'. Refute it at one input. -/
def fnExactIsOnPolygonWrong : ChangeSpec := { name := "fnExactIsOnPolygon", fn := fun _ => fun
  | [d1, d2] => { results := [.lit (.bool false)], args := [d1, d2] }
  | _ => none }
def FnExactIsOnPolygonWrongFalsely : Prop := fnExactIsOnPolygonRow.holds Try.pinned (OpenSpec.ofChange fnExactIsOnPolygonWrong)

/-- 'laws.FnExactReversePolygon': WHATEVER THE INPUT: true; the input reads as it did. -/
def fnExactReversePolygonSpec : ChangeSpec := { name := "fnExactReversePolygon", fn := fun _ => fun
  | [d] => { results := [.lit (.bool true)], args := [d] }
  | _ => none }
def fnExactReversePolygonRow : OpenClaim := { program := "ytoifmopgchigoaa", sum := "bb19f04e58a2b023ec9bfc7352fee981e25848d52ba8d20d12a51e34c0126b4f", func := "loop.example/g01009/laws.FnExactReversePolygon", spec := "fnExactReversePolygon", apart := false }
def FnExactReversePolygonSaid : Prop := fnExactReversePolygonRow.holds Try.pinned (OpenSpec.ofChange fnExactReversePolygonSpec)

/-- ITS FALSE NEIGHBOUR: 'it returns false'. Refute it at one input. -/
def fnExactReversePolygonWrong : ChangeSpec := { name := "fnExactReversePolygon", fn := fun _ => fun
  | [d] => { results := [.lit (.bool false)], args := [d] }
  | _ => none }
def FnExactReversePolygonWrongFalsely : Prop := fnExactReversePolygonRow.holds Try.pinned (OpenSpec.ofChange fnExactReversePolygonWrong)

/-- 'laws.FnExactBeginAt': WHATEVER THE INPUT: true; the input reads as it did. -/
def fnExactBeginAtSpec : ChangeSpec := { name := "fnExactBeginAt", fn := fun _ => fun
  | [d1, d2] => { results := [.lit (.bool true)], args := [d1, d2] }
  | _ => none }
def fnExactBeginAtRow : OpenClaim := { program := "ytoifmopgchigoaa", sum := "bb19f04e58a2b023ec9bfc7352fee981e25848d52ba8d20d12a51e34c0126b4f", func := "loop.example/g01009/laws.FnExactBeginAt", spec := "fnExactBeginAt", apart := false }
def FnExactBeginAtSaid : Prop := fnExactBeginAtRow.holds Try.pinned (OpenSpec.ofChange fnExactBeginAtSpec)

/-- ITS FALSE NEIGHBOUR: 'it returns false'. Refute it at one input. -/
def fnExactBeginAtWrong : ChangeSpec := { name := "fnExactBeginAt", fn := fun _ => fun
  | [d1, d2] => { results := [.lit (.bool false)], args := [d1, d2] }
  | _ => none }
def FnExactBeginAtWrongFalsely : Prop := fnExactBeginAtRow.holds Try.pinned (OpenSpec.ofChange fnExactBeginAtWrong)

/-- 'laws.FnExactJoinPolygons': WHATEVER THE INPUT: true; the input reads as it did. -/
def fnExactJoinPolygonsSpec : ChangeSpec := { name := "fnExactJoinPolygons", fn := fun _ => fun
  | [d1, d2] => { results := [.lit (.bool true)], args := [d1, d2] }
  | _ => none }
def fnExactJoinPolygonsRow : OpenClaim := { program := "ytoifmopgchigoaa", sum := "bb19f04e58a2b023ec9bfc7352fee981e25848d52ba8d20d12a51e34c0126b4f", func := "loop.example/g01009/laws.FnExactJoinPolygons", spec := "fnExactJoinPolygons", apart := false }
def FnExactJoinPolygonsSaid : Prop := fnExactJoinPolygonsRow.holds Try.pinned (OpenSpec.ofChange fnExactJoinPolygonsSpec)

/-- ITS FALSE NEIGHBOUR: 'it returns false'. Refute it at one input. -/
def fnExactJoinPolygonsWrong : ChangeSpec := { name := "fnExactJoinPolygons", fn := fun _ => fun
  | [d1, d2] => { results := [.lit (.bool false)], args := [d1, d2] }
  | _ => none }
def FnExactJoinPolygonsWrongFalsely : Prop := fnExactJoinPolygonsRow.holds Try.pinned (OpenSpec.ofChange fnExactJoinPolygonsWrong)

/-- 'laws.FnExactWindingNumber': WHATEVER THE INPUT: true; the input reads as it did. -/
def fnExactWindingNumberSpec : ChangeSpec := { name := "fnExactWindingNumber", fn := fun _ => fun
  | [d1, d2] => { results := [.lit (.bool true)], args := [d1, d2] }
  | _ => none }
def fnExactWindingNumberRow : OpenClaim := { program := "ytoifmopgchigoaa", sum := "bb19f04e58a2b023ec9bfc7352fee981e25848d52ba8d20d12a51e34c0126b4f", func := "loop.example/g01009/laws.FnExactWindingNumber", spec := "fnExactWindingNumber", apart := false }
def FnExactWindingNumberSaid : Prop := fnExactWindingNumberRow.holds Try.pinned (OpenSpec.ofChange fnExactWindingNumberSpec)

/-- ITS FALSE NEIGHBOUR: 'it returns false'. Refute it at one input. -/
def fnExactWindingNumberWrong : ChangeSpec := { name := "fnExactWindingNumber", fn := fun _ => fun
  | [d1, d2] => { results := [.lit (.bool false)], args := [d1, d2] }
  | _ => none }
def FnExactWindingNumberWrongFalsely : Prop := fnExactWindingNumberRow.holds Try.pinned (OpenSpec.ofChange fnExactWindingNumberWrong)

/-- 'laws.FnExactQuarterSteps': WHATEVER THE INPUT: true; the input reads as it did. -/
def fnExactQuarterStepsSpec : ChangeSpec := { name := "fnExactQuarterSteps", fn := fun _ => fun
  | [d1, d2] => { results := [.lit (.bool true)], args := [d1, d2] }
  | _ => none }
def fnExactQuarterStepsRow : OpenClaim := { program := "ytoifmopgchigoaa", sum := "bb19f04e58a2b023ec9bfc7352fee981e25848d52ba8d20d12a51e34c0126b4f", func := "loop.example/g01009/laws.FnExactQuarterSteps", spec := "fnExactQuarterSteps", apart := false }
def FnExactQuarterStepsSaid : Prop := fnExactQuarterStepsRow.holds Try.pinned (OpenSpec.ofChange fnExactQuarterStepsSpec)

/-- ITS FALSE NEIGHBOUR: 'it returns false'. Refute it at one input. -/
def fnExactQuarterStepsWrong : ChangeSpec := { name := "fnExactQuarterSteps", fn := fun _ => fun
  | [d1, d2] => { results := [.lit (.bool false)], args := [d1, d2] }
  | _ => none }
def FnExactQuarterStepsWrongFalsely : Prop := fnExactQuarterStepsRow.holds Try.pinned (OpenSpec.ofChange fnExactQuarterStepsWrong)

/-- 'laws.FnExactIsSimple': WHATEVER THE INPUT: true; the input reads as it did. -/
def fnExactIsSimpleSpec : ChangeSpec := { name := "fnExactIsSimple", fn := fun _ => fun
  | [d] => { results := [.lit (.bool true)], args := [d] }
  | _ => none }
def fnExactIsSimpleRow : OpenClaim := { program := "ytoifmopgchigoaa", sum := "bb19f04e58a2b023ec9bfc7352fee981e25848d52ba8d20d12a51e34c0126b4f", func := "loop.example/g01009/laws.FnExactIsSimple", spec := "fnExactIsSimple", apart := false }
def FnExactIsSimpleSaid : Prop := fnExactIsSimpleRow.holds Try.pinned (OpenSpec.ofChange fnExactIsSimpleSpec)

/-- ITS FALSE NEIGHBOUR: 'it returns false'. Refute it at one input. -/
def fnExactIsSimpleWrong : ChangeSpec := { name := "fnExactIsSimple", fn := fun _ => fun
  | [d] => { results := [.lit (.bool false)], args := [d] }
  | _ => none }
def FnExactIsSimpleWrongFalsely : Prop := fnExactIsSimpleRow.holds Try.pinned (OpenSpec.ofChange fnExactIsSimpleWrong)

/-- 'laws.FnExactCrossingsOf': WHATEVER THE INPUT: true; the input reads as it did. -/
def fnExactCrossingsOfSpec : ChangeSpec := { name := "fnExactCrossingsOf", fn := fun _ => fun
  | [d1, d2] => { results := [.lit (.bool true)], args := [d1, d2] }
  | _ => none }
def fnExactCrossingsOfRow : OpenClaim := { program := "ytoifmopgchigoaa", sum := "bb19f04e58a2b023ec9bfc7352fee981e25848d52ba8d20d12a51e34c0126b4f", func := "loop.example/g01009/laws.FnExactCrossingsOf", spec := "fnExactCrossingsOf", apart := false }
def FnExactCrossingsOfSaid : Prop := fnExactCrossingsOfRow.holds Try.pinned (OpenSpec.ofChange fnExactCrossingsOfSpec)

/-- ITS FALSE NEIGHBOUR: 'it returns false'. Refute it at one input. -/
def fnExactCrossingsOfWrong : ChangeSpec := { name := "fnExactCrossingsOf", fn := fun _ => fun
  | [d1, d2] => { results := [.lit (.bool false)], args := [d1, d2] }
  | _ => none }
def FnExactCrossingsOfWrongFalsely : Prop := fnExactCrossingsOfRow.holds Try.pinned (OpenSpec.ofChange fnExactCrossingsOfWrong)

/-- 'laws.FnWinding': WHATEVER THE INPUT: true; the input reads as it did. -/
def fnWindingSpec : ChangeSpec := { name := "fnWinding", fn := fun _ => fun
  | [d1, d2] => { results := [.lit (.bool true)], args := [d1, d2] }
  | _ => none }
def fnWindingRow : OpenClaim := { program := "ytoifmopgchigoaa", sum := "bb19f04e58a2b023ec9bfc7352fee981e25848d52ba8d20d12a51e34c0126b4f", func := "loop.example/g01009/laws.FnWinding", spec := "fnWinding", apart := false }
def FnWindingSaid : Prop := fnWindingRow.holds Try.pinned (OpenSpec.ofChange fnWindingSpec)

/-- ITS FALSE NEIGHBOUR: 'it returns false'. Refute it at one input. -/
def fnWindingWrong : ChangeSpec := { name := "fnWinding", fn := fun _ => fun
  | [d1, d2] => { results := [.lit (.bool false)], args := [d1, d2] }
  | _ => none }
def FnWindingWrongFalsely : Prop := fnWindingRow.holds Try.pinned (OpenSpec.ofChange fnWindingWrong)

/- THE SECOND FORM. 'bulk': how many values and letters a reading holds, each counted each time it is reached (what is shared counts as often as it is met; a slice's spare places count too). A statement '..UptoSaid' is the law's where the arguments, and the package variables that the reading takes, are together of bulk at most 1048576: NARROWER than '..Said'. Prove '..Said' where nothing that the law and all that it calls make is longer than what came in: it says more and counts as full. Else prove '..UptoSaid'. A law counts once. -/
mutual
def uptoBulk {H : Type} : DataW H → Nat
  | .lit (.string bytes) => bytes.length + 1
  | .lit _ => 1
  | .nil => 1
  | .ptr d => uptoBulk d + 1
  | .slice elems spare => uptoBulkAll elems + uptoBulkAll spare + 1
  | .agg parts => uptoBulkAll parts + 1
  | .iface _ d => uptoBulk d + 1
  | .map entries => uptoBulkEntries entries + 1
  | .held _ => 1
def uptoBulkAll {H : Type} : List (DataW H) → Nat
  | [] => 0
  | d :: r => uptoBulk d + uptoBulkAll r
def uptoBulkEntries {H : Type} : List (Lit × DataW H) → Nat
  | [] => 0
  | x :: r => uptoBulkEntry x + uptoBulkEntries r
def uptoBulkEntry {H : Type} : Lit × DataW H → Nat
  | (.string bytes, d) => bytes.length + uptoBulk d + 1
  | (_, d) => uptoBulk d + 1
 end
def uptoSmall : (H : Type) → List (DataW H) → Bool := fun _ ds => decide (uptoBulkAll ds ≤ 1048576)
def OpenSpec.upto (s : _root_.Go.ChangeSpec) : _root_.Go.OpenSpec := { _root_.Go.OpenSpec.ofChange s with cond := some uptoSmall }

/-- 'laws.FnExactIsPolygon', WHERE WHAT IT READS IS OF BULK AT MOST 1048576: true; the input reads as it did. -/
def fnExactIsPolygonUptoRow : OpenClaim := { program := "ytoifmopgchigoaa", sum := "bb19f04e58a2b023ec9bfc7352fee981e25848d52ba8d20d12a51e34c0126b4f", func := "loop.example/g01009/laws.FnExactIsPolygon", spec := "fnExactIsPolygon", apart := false, narrowed := true }
def FnExactIsPolygonUptoSaid : Prop := fnExactIsPolygonUptoRow.holds Try.pinned (OpenSpec.upto fnExactIsPolygonSpec)

/-- 'laws.FnExactTurnsOf', WHERE WHAT IT READS IS OF BULK AT MOST 1048576: true; the input reads as it did. -/
def fnExactTurnsOfUptoRow : OpenClaim := { program := "ytoifmopgchigoaa", sum := "bb19f04e58a2b023ec9bfc7352fee981e25848d52ba8d20d12a51e34c0126b4f", func := "loop.example/g01009/laws.FnExactTurnsOf", spec := "fnExactTurnsOf", unfollowed := true, recurses := true, apart := false, narrowed := true }
def FnExactTurnsOfUptoSaid : Prop := fnExactTurnsOfUptoRow.holds Try.pinned (OpenSpec.upto fnExactTurnsOfSpec)

/-- 'laws.FnExactTwiceArea', WHERE WHAT IT READS IS OF BULK AT MOST 1048576: true; the input reads as it did. -/
def fnExactTwiceAreaUptoRow : OpenClaim := { program := "ytoifmopgchigoaa", sum := "bb19f04e58a2b023ec9bfc7352fee981e25848d52ba8d20d12a51e34c0126b4f", func := "loop.example/g01009/laws.FnExactTwiceArea", spec := "fnExactTwiceArea", apart := false, narrowed := true }
def FnExactTwiceAreaUptoSaid : Prop := fnExactTwiceAreaUptoRow.holds Try.pinned (OpenSpec.upto fnExactTwiceAreaSpec)

/-- 'laws.FnExactIsOnPolygon', WHERE WHAT IT READS IS OF BULK AT MOST 1048576: true; the input reads as it did. -/
def fnExactIsOnPolygonUptoRow : OpenClaim := { program := "ytoifmopgchigoaa", sum := "bb19f04e58a2b023ec9bfc7352fee981e25848d52ba8d20d12a51e34c0126b4f", func := "loop.example/g01009/laws.FnExactIsOnPolygon", spec := "fnExactIsOnPolygon", apart := false, narrowed := true }
def FnExactIsOnPolygonUptoSaid : Prop := fnExactIsOnPolygonUptoRow.holds Try.pinned (OpenSpec.upto fnExactIsOnPolygonSpec)

/-- 'laws.FnExactReversePolygon', WHERE WHAT IT READS IS OF BULK AT MOST 1048576: true; the input reads as it did. -/
def fnExactReversePolygonUptoRow : OpenClaim := { program := "ytoifmopgchigoaa", sum := "bb19f04e58a2b023ec9bfc7352fee981e25848d52ba8d20d12a51e34c0126b4f", func := "loop.example/g01009/laws.FnExactReversePolygon", spec := "fnExactReversePolygon", apart := false, narrowed := true }
def FnExactReversePolygonUptoSaid : Prop := fnExactReversePolygonUptoRow.holds Try.pinned (OpenSpec.upto fnExactReversePolygonSpec)

/-- 'laws.FnExactBeginAt', WHERE WHAT IT READS IS OF BULK AT MOST 1048576: true; the input reads as it did. -/
def fnExactBeginAtUptoRow : OpenClaim := { program := "ytoifmopgchigoaa", sum := "bb19f04e58a2b023ec9bfc7352fee981e25848d52ba8d20d12a51e34c0126b4f", func := "loop.example/g01009/laws.FnExactBeginAt", spec := "fnExactBeginAt", apart := false, narrowed := true }
def FnExactBeginAtUptoSaid : Prop := fnExactBeginAtUptoRow.holds Try.pinned (OpenSpec.upto fnExactBeginAtSpec)

/-- 'laws.FnExactJoinPolygons', WHERE WHAT IT READS IS OF BULK AT MOST 1048576: true; the input reads as it did. -/
def fnExactJoinPolygonsUptoRow : OpenClaim := { program := "ytoifmopgchigoaa", sum := "bb19f04e58a2b023ec9bfc7352fee981e25848d52ba8d20d12a51e34c0126b4f", func := "loop.example/g01009/laws.FnExactJoinPolygons", spec := "fnExactJoinPolygons", apart := false, narrowed := true }
def FnExactJoinPolygonsUptoSaid : Prop := fnExactJoinPolygonsUptoRow.holds Try.pinned (OpenSpec.upto fnExactJoinPolygonsSpec)

/-- 'laws.FnExactWindingNumber', WHERE WHAT IT READS IS OF BULK AT MOST 1048576: true; the input reads as it did. -/
def fnExactWindingNumberUptoRow : OpenClaim := { program := "ytoifmopgchigoaa", sum := "bb19f04e58a2b023ec9bfc7352fee981e25848d52ba8d20d12a51e34c0126b4f", func := "loop.example/g01009/laws.FnExactWindingNumber", spec := "fnExactWindingNumber", apart := false, narrowed := true }
def FnExactWindingNumberUptoSaid : Prop := fnExactWindingNumberUptoRow.holds Try.pinned (OpenSpec.upto fnExactWindingNumberSpec)

/-- 'laws.FnExactQuarterSteps', WHERE WHAT IT READS IS OF BULK AT MOST 1048576: true; the input reads as it did. -/
def fnExactQuarterStepsUptoRow : OpenClaim := { program := "ytoifmopgchigoaa", sum := "bb19f04e58a2b023ec9bfc7352fee981e25848d52ba8d20d12a51e34c0126b4f", func := "loop.example/g01009/laws.FnExactQuarterSteps", spec := "fnExactQuarterSteps", apart := false, narrowed := true }
def FnExactQuarterStepsUptoSaid : Prop := fnExactQuarterStepsUptoRow.holds Try.pinned (OpenSpec.upto fnExactQuarterStepsSpec)

/-- 'laws.FnExactIsSimple', WHERE WHAT IT READS IS OF BULK AT MOST 1048576: true; the input reads as it did. -/
def fnExactIsSimpleUptoRow : OpenClaim := { program := "ytoifmopgchigoaa", sum := "bb19f04e58a2b023ec9bfc7352fee981e25848d52ba8d20d12a51e34c0126b4f", func := "loop.example/g01009/laws.FnExactIsSimple", spec := "fnExactIsSimple", apart := false, narrowed := true }
def FnExactIsSimpleUptoSaid : Prop := fnExactIsSimpleUptoRow.holds Try.pinned (OpenSpec.upto fnExactIsSimpleSpec)

/-- 'laws.FnExactCrossingsOf', WHERE WHAT IT READS IS OF BULK AT MOST 1048576: true; the input reads as it did. -/
def fnExactCrossingsOfUptoRow : OpenClaim := { program := "ytoifmopgchigoaa", sum := "bb19f04e58a2b023ec9bfc7352fee981e25848d52ba8d20d12a51e34c0126b4f", func := "loop.example/g01009/laws.FnExactCrossingsOf", spec := "fnExactCrossingsOf", apart := false, narrowed := true }
def FnExactCrossingsOfUptoSaid : Prop := fnExactCrossingsOfUptoRow.holds Try.pinned (OpenSpec.upto fnExactCrossingsOfSpec)

/-- 'laws.FnWinding', WHERE WHAT IT READS IS OF BULK AT MOST 1048576: true; the input reads as it did. -/
def fnWindingUptoRow : OpenClaim := { program := "ytoifmopgchigoaa", sum := "bb19f04e58a2b023ec9bfc7352fee981e25848d52ba8d20d12a51e34c0126b4f", func := "loop.example/g01009/laws.FnWinding", spec := "fnWinding", apart := false, narrowed := true }
def FnWindingUptoSaid : Prop := fnWindingUptoRow.holds Try.pinned (OpenSpec.upto fnWindingSpec)

end Rows
end Go.Proofs.Ytoifmopgchigoaa
