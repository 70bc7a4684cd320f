/-
  DERIVED. GIVEN WITH THE SEED: THE CARDS: each row of YtipjdipahebnbaaDoorRows.lean that lists a variable, with what it lists TIED to the program's text (the seventh form; the later family's looks); each row that meets fmt, with fmt's text TOLD by the authors' own Lean function (tested against real Go, not proved from fmt's source: count such statements apart). THE CARD IS WHAT COUNTS. Prove the row's statement (the work); the ties are given (YtipjdipahebnbaaDoorTie.lean); close each card by the builder's one call (the guide's Derived/Test/ToyasCard.lean, 'card_holds'). Laid BY PROGRAM, IN A SANDBOX (cutbox-door.mjs). By AI agents, Wed Nov 11 2026. No macro, syntax, notation, axiom, sorry.
-/
import Derived.Test.YtipjdipahebnbaaDoorRows
import GoSem.ClaimSeven
namespace Go.Proofs.YtipjdipahebnbaaDoor
namespace Rows

/-- THE TIED CARD OF 'laws.FnExactIsolatingText'. -/
def fnExactIsolatingTextCard : Claim7 := { stood := { row := fnExactIsolatingTextRow, standIns := [], harness := (true, "50b5e27ebc38b3d95dd3a322710df0e6fbaf48dbd60fcd1ff62b13d270b8e226"), looks := false }, kinds := [], alts := [], laidByText := true, laidKinds := [.data, .data, .data], laidTests := true, laidLooks := .later }
def FnExactIsolatingTextCardSaid : Prop := Claim7.holds Tryd.pinned (.plain (OpenSpec.ofChange fnExactIsolatingTextSpec)) fnExactIsolatingTextCard

/-- THE SECOND FORM's CARD OF 'laws.FnExactIsolatingText'. -/
def fnExactIsolatingTextUptoCard : Claim7 := { stood := { row := fnExactIsolatingTextUptoRow, standIns := [], harness := (true, "50b5e27ebc38b3d95dd3a322710df0e6fbaf48dbd60fcd1ff62b13d270b8e226"), looks := false }, kinds := [], alts := [], laidByText := true, laidKinds := [.data, .data, .data], laidTests := true, laidLooks := .later }
def FnExactIsolatingTextUptoCardSaid : Prop := Claim7.holds Tryd.pinned (.plain (OpenSpec.upto fnExactIsolatingTextSpec)) fnExactIsolatingTextUptoCard
end Rows
end Go.Proofs.YtipjdipahebnbaaDoor
