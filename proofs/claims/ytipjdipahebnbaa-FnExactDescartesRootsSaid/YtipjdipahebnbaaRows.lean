/-
  No cell of these rows narrows 'for every input' (looked for: loops, veiled, ifaces, maps, wideKeys, modest, calm, conditions, laid).
  DERIVED. THE GIVEN ROWS OF THIS SEAT. 6 by the template 'for every input the law returns true; each argument reads behind the call as it read before'; 0 by the template 'total and deterministic' (their statements: YtipjdipahebnbaaTotals.lean).
  GIVEN WITH THE SEED: the statements are not yours to turn. If you find one false, say at which input.
  Laid BY PROGRAM, IN A SANDBOX (cutbox-rows.mjs): the forced cells as the released guide's own fill.sh prints them over the translation bbb68244d0e7355f… (all of the seat's roots in one cut). By AI agents, Wed Nov 11 2026. No macro, syntax, notation, axiom, sorry.
-/
import Derived.Test.YtipjdipahebnbaaChecked
import GoSem.Claim
import GoSem.ClaimJoined
import GoSem.ClaimMapViews
import Derived.JoinedTies
import Derived.KernelRfl
namespace Go.Proofs.Ytipjdipahebnbaa
/- THE CELL 'sum', in the pinned program and in every row, IS THE sha256 OF THE DUMP (.gsa) THAT YtipjdipahebnbaaProg.lean LOADS. Nothing in Lean hashes anything: it is a label: what it is worth is what the hold of that sum in a sandbox is worth. -/
noncomputable def Try.pinned : Pinned := { name := "ytipjdipahebnbaa", sum := "bbb68244d0e7355f7800b29eae66a1cd6dd2dda3b433173c33a49a02d3d4b28b", checked := Try.checked }
namespace Rows
def none {H : Type} : Left H := { results := [], args := [] }

/-- 'laws.FnExactShiftSingle': WHATEVER THE INPUT: true; the input reads as it did. -/
def fnExactShiftSingleSpec : ChangeSpec := { name := "fnExactShiftSingle", fn := fun _ => fun
  | [d1, d2] => { results := [.lit (.bool true)], args := [d1, d2] }
  | _ => none }
def fnExactShiftSingleRow : OpenClaim := { program := "ytipjdipahebnbaa", sum := "bbb68244d0e7355f7800b29eae66a1cd6dd2dda3b433173c33a49a02d3d4b28b", func := "loop.example/g01009/laws.FnExactShiftSingle", spec := "fnExactShiftSingle", unfollowed := true, recurses := true, apart := false }
def FnExactShiftSingleSaid : Prop := fnExactShiftSingleRow.holds Try.pinned (OpenSpec.ofChange fnExactShiftSingleSpec)

/-- ITS FALSE NEIGHBOUR: 'it returns false'. Refute it at one input. -/
def fnExactShiftSingleWrong : ChangeSpec := { name := "fnExactShiftSingle", fn := fun _ => fun
  | [d1, d2] => { results := [.lit (.bool false)], args := [d1, d2] }
  | _ => none }
def FnExactShiftSingleWrongFalsely : Prop := fnExactShiftSingleRow.holds Try.pinned (OpenSpec.ofChange fnExactShiftSingleWrong)

/-- 'laws.FnExactOverInterval': WHATEVER THE INPUT: true; the input reads as it did. -/
def fnExactOverIntervalSpec : ChangeSpec := { name := "fnExactOverInterval", fn := fun _ => fun
  | [d1, d2] => { results := [.lit (.bool true)], args := [d1, d2] }
  | _ => none }
def fnExactOverIntervalRow : OpenClaim := { program := "ytipjdipahebnbaa", sum := "bbb68244d0e7355f7800b29eae66a1cd6dd2dda3b433173c33a49a02d3d4b28b", func := "loop.example/g01009/laws.FnExactOverInterval", spec := "fnExactOverInterval", unfollowed := true, recurses := true, apart := false }
def FnExactOverIntervalSaid : Prop := fnExactOverIntervalRow.holds Try.pinned (OpenSpec.ofChange fnExactOverIntervalSpec)

/-- ITS FALSE NEIGHBOUR: 'it returns false'. Refute it at one input. -/
def fnExactOverIntervalWrong : ChangeSpec := { name := "fnExactOverInterval", fn := fun _ => fun
  | [d1, d2] => { results := [.lit (.bool false)], args := [d1, d2] }
  | _ => none }
def FnExactOverIntervalWrongFalsely : Prop := fnExactOverIntervalRow.holds Try.pinned (OpenSpec.ofChange fnExactOverIntervalWrong)

/-- 'laws.FnExactVariationsOver': WHATEVER THE INPUT: true; the input reads as it did. -/
def fnExactVariationsOverSpec : ChangeSpec := { name := "fnExactVariationsOver", fn := fun _ => fun
  | [d1, d2] => { results := [.lit (.bool true)], args := [d1, d2] }
  | _ => none }
def fnExactVariationsOverRow : OpenClaim := { program := "ytipjdipahebnbaa", sum := "bbb68244d0e7355f7800b29eae66a1cd6dd2dda3b433173c33a49a02d3d4b28b", func := "loop.example/g01009/laws.FnExactVariationsOver", spec := "fnExactVariationsOver", unfollowed := true, recurses := true, apart := false }
def FnExactVariationsOverSaid : Prop := fnExactVariationsOverRow.holds Try.pinned (OpenSpec.ofChange fnExactVariationsOverSpec)

/-- ITS FALSE NEIGHBOUR: 'it returns false'. Refute it at one input. -/
def fnExactVariationsOverWrong : ChangeSpec := { name := "fnExactVariationsOver", fn := fun _ => fun
  | [d1, d2] => { results := [.lit (.bool false)], args := [d1, d2] }
  | _ => none }
def FnExactVariationsOverWrongFalsely : Prop := fnExactVariationsOverRow.holds Try.pinned (OpenSpec.ofChange fnExactVariationsOverWrong)

/-- 'laws.FnExactNearestIsolated': WHATEVER THE INPUT: true; the input reads as it did. -/
def fnExactNearestIsolatedSpec : ChangeSpec := { name := "fnExactNearestIsolated", fn := fun _ => fun
  | [d1, d2] => { results := [.lit (.bool true)], args := [d1, d2] }
  | _ => none }
def fnExactNearestIsolatedRow : OpenClaim := { program := "ytipjdipahebnbaa", sum := "bbb68244d0e7355f7800b29eae66a1cd6dd2dda3b433173c33a49a02d3d4b28b", func := "loop.example/g01009/laws.FnExactNearestIsolated", spec := "fnExactNearestIsolated", inPlace := ["math/bits.Add64", "math/bits.Sub64"], unfollowed := true, recurses := true, apart := false }
def FnExactNearestIsolatedSaid : Prop := fnExactNearestIsolatedRow.holds Try.pinned (OpenSpec.ofChange fnExactNearestIsolatedSpec)

/-- ITS FALSE NEIGHBOUR: 'it returns false'. Refute it at one input. -/
def fnExactNearestIsolatedWrong : ChangeSpec := { name := "fnExactNearestIsolated", fn := fun _ => fun
  | [d1, d2] => { results := [.lit (.bool false)], args := [d1, d2] }
  | _ => none }
def FnExactNearestIsolatedWrongFalsely : Prop := fnExactNearestIsolatedRow.holds Try.pinned (OpenSpec.ofChange fnExactNearestIsolatedWrong)

/-- 'laws.FnExactDescartesRoots': WHATEVER THE INPUT: true; the input reads as it did. -/
def fnExactDescartesRootsSpec : ChangeSpec := { name := "fnExactDescartesRoots", fn := fun _ => fun
  | [d1, d2] => { results := [.lit (.bool true)], args := [d1, d2] }
  | _ => none }
def fnExactDescartesRootsRow : OpenClaim := { program := "ytipjdipahebnbaa", sum := "bbb68244d0e7355f7800b29eae66a1cd6dd2dda3b433173c33a49a02d3d4b28b", func := "loop.example/g01009/laws.FnExactDescartesRoots", spec := "fnExactDescartesRoots", inPlace := ["math/bits.Add64", "math/bits.Sub64"], unfollowed := true, recurses := true, apart := false }
def FnExactDescartesRootsSaid : Prop := fnExactDescartesRootsRow.holds Try.pinned (OpenSpec.ofChange fnExactDescartesRootsSpec)

/-- ITS FALSE NEIGHBOUR: 'it returns false'. Refute it at one input. -/
def fnExactDescartesRootsWrong : ChangeSpec := { name := "fnExactDescartesRoots", fn := fun _ => fun
  | [d1, d2] => { results := [.lit (.bool false)], args := [d1, d2] }
  | _ => none }
def FnExactDescartesRootsWrongFalsely : Prop := fnExactDescartesRootsRow.holds Try.pinned (OpenSpec.ofChange fnExactDescartesRootsWrong)

/-- 'laws.FnTurnedSingles': WHATEVER THE INPUT: true; the input reads as it did. -/
def fnTurnedSinglesSpec : ChangeSpec := { name := "fnTurnedSingles", fn := fun _ => fun
  | [d1, d2] => { results := [.lit (.bool true)], args := [d1, d2] }
  | _ => none }
def fnTurnedSinglesRow : OpenClaim := { program := "ytipjdipahebnbaa", sum := "bbb68244d0e7355f7800b29eae66a1cd6dd2dda3b433173c33a49a02d3d4b28b", func := "loop.example/g01009/laws.FnTurnedSingles", spec := "fnTurnedSingles", unfollowed := true, recurses := true, apart := false }
def FnTurnedSinglesSaid : Prop := fnTurnedSinglesRow.holds Try.pinned (OpenSpec.ofChange fnTurnedSinglesSpec)

/-- ITS FALSE NEIGHBOUR: 'it returns false'. Refute it at one input. -/
def fnTurnedSinglesWrong : ChangeSpec := { name := "fnTurnedSingles", fn := fun _ => fun
  | [d1, d2] => { results := [.lit (.bool false)], args := [d1, d2] }
  | _ => none }
def FnTurnedSinglesWrongFalsely : Prop := fnTurnedSinglesRow.holds Try.pinned (OpenSpec.ofChange fnTurnedSinglesWrong)

/- THE SECOND FORM. 'bulk': how many values and letters a reading holds, each counted each time it is reached (what is shared counts as often as it is met; a slice's spare places count too). A statement '..UptoSaid' is the law's where the arguments, and the package variables that the reading takes, are together of bulk at most 1048576: NARROWER than '..Said'. Prove '..Said' where nothing that the law and all that it calls make is longer than what came in: it says more and counts as full. Else prove '..UptoSaid'. A law counts once. -/
mutual
def uptoBulk {H : Type} : DataW H → Nat
  | .lit (.string bytes) => bytes.length + 1
  | .lit _ => 1
  | .nil => 1
  | .ptr d => uptoBulk d + 1
  | .slice elems spare => uptoBulkAll elems + uptoBulkAll spare + 1
  | .agg parts => uptoBulkAll parts + 1
  | .iface _ d => uptoBulk d + 1
  | .map entries => uptoBulkEntries entries + 1
  | .held _ => 1
def uptoBulkAll {H : Type} : List (DataW H) → Nat
  | [] => 0
  | d :: r => uptoBulk d + uptoBulkAll r
def uptoBulkEntries {H : Type} : List (Lit × DataW H) → Nat
  | [] => 0
  | x :: r => uptoBulkEntry x + uptoBulkEntries r
def uptoBulkEntry {H : Type} : Lit × DataW H → Nat
  | (.string bytes, d) => bytes.length + uptoBulk d + 1
  | (_, d) => uptoBulk d + 1
 end
def uptoSmall : (H : Type) → List (DataW H) → Bool := fun _ ds => decide (uptoBulkAll ds ≤ 1048576)
def OpenSpec.upto (s : _root_.Go.ChangeSpec) : _root_.Go.OpenSpec := { _root_.Go.OpenSpec.ofChange s with cond := some uptoSmall }

/-- 'laws.FnExactShiftSingle', WHERE WHAT IT READS IS OF BULK AT MOST 1048576: true; the input reads as it did. -/
def fnExactShiftSingleUptoRow : OpenClaim := { program := "ytipjdipahebnbaa", sum := "bbb68244d0e7355f7800b29eae66a1cd6dd2dda3b433173c33a49a02d3d4b28b", func := "loop.example/g01009/laws.FnExactShiftSingle", spec := "fnExactShiftSingle", unfollowed := true, recurses := true, apart := false, narrowed := true }
def FnExactShiftSingleUptoSaid : Prop := fnExactShiftSingleUptoRow.holds Try.pinned (OpenSpec.upto fnExactShiftSingleSpec)

/-- 'laws.FnExactOverInterval', WHERE WHAT IT READS IS OF BULK AT MOST 1048576: true; the input reads as it did. -/
def fnExactOverIntervalUptoRow : OpenClaim := { program := "ytipjdipahebnbaa", sum := "bbb68244d0e7355f7800b29eae66a1cd6dd2dda3b433173c33a49a02d3d4b28b", func := "loop.example/g01009/laws.FnExactOverInterval", spec := "fnExactOverInterval", unfollowed := true, recurses := true, apart := false, narrowed := true }
def FnExactOverIntervalUptoSaid : Prop := fnExactOverIntervalUptoRow.holds Try.pinned (OpenSpec.upto fnExactOverIntervalSpec)

/-- 'laws.FnExactVariationsOver', WHERE WHAT IT READS IS OF BULK AT MOST 1048576: true; the input reads as it did. -/
def fnExactVariationsOverUptoRow : OpenClaim := { program := "ytipjdipahebnbaa", sum := "bbb68244d0e7355f7800b29eae66a1cd6dd2dda3b433173c33a49a02d3d4b28b", func := "loop.example/g01009/laws.FnExactVariationsOver", spec := "fnExactVariationsOver", unfollowed := true, recurses := true, apart := false, narrowed := true }
def FnExactVariationsOverUptoSaid : Prop := fnExactVariationsOverUptoRow.holds Try.pinned (OpenSpec.upto fnExactVariationsOverSpec)

/-- 'laws.FnExactNearestIsolated', WHERE WHAT IT READS IS OF BULK AT MOST 1048576: true; the input reads as it did. -/
def fnExactNearestIsolatedUptoRow : OpenClaim := { program := "ytipjdipahebnbaa", sum := "bbb68244d0e7355f7800b29eae66a1cd6dd2dda3b433173c33a49a02d3d4b28b", func := "loop.example/g01009/laws.FnExactNearestIsolated", spec := "fnExactNearestIsolated", inPlace := ["math/bits.Add64", "math/bits.Sub64"], unfollowed := true, recurses := true, apart := false, narrowed := true }
def FnExactNearestIsolatedUptoSaid : Prop := fnExactNearestIsolatedUptoRow.holds Try.pinned (OpenSpec.upto fnExactNearestIsolatedSpec)

/-- 'laws.FnExactDescartesRoots', WHERE WHAT IT READS IS OF BULK AT MOST 1048576: true; the input reads as it did. -/
def fnExactDescartesRootsUptoRow : OpenClaim := { program := "ytipjdipahebnbaa", sum := "bbb68244d0e7355f7800b29eae66a1cd6dd2dda3b433173c33a49a02d3d4b28b", func := "loop.example/g01009/laws.FnExactDescartesRoots", spec := "fnExactDescartesRoots", inPlace := ["math/bits.Add64", "math/bits.Sub64"], unfollowed := true, recurses := true, apart := false, narrowed := true }
def FnExactDescartesRootsUptoSaid : Prop := fnExactDescartesRootsUptoRow.holds Try.pinned (OpenSpec.upto fnExactDescartesRootsSpec)

/-- 'laws.FnTurnedSingles', WHERE WHAT IT READS IS OF BULK AT MOST 1048576: true; the input reads as it did. -/
def fnTurnedSinglesUptoRow : OpenClaim := { program := "ytipjdipahebnbaa", sum := "bbb68244d0e7355f7800b29eae66a1cd6dd2dda3b433173c33a49a02d3d4b28b", func := "loop.example/g01009/laws.FnTurnedSingles", spec := "fnTurnedSingles", unfollowed := true, recurses := true, apart := false, narrowed := true }
def FnTurnedSinglesUptoSaid : Prop := fnTurnedSinglesUptoRow.holds Try.pinned (OpenSpec.upto fnTurnedSinglesSpec)

end Rows
end Go.Proofs.Ytipjdipahebnbaa
