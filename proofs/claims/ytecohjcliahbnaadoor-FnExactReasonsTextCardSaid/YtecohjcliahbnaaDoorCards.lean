/-
  DERIVED. GIVEN WITH THE SEED: THE CARDS: each row of YtecohjcliahbnaaDoorRows.lean that lists a variable, with what it lists TIED to the program's text (the seventh form; the later family's looks); each row that meets fmt, with fmt's text TOLD by the authors' own Lean function (tested against real Go, not proved from fmt's source: count such statements apart). THE CARD IS WHAT COUNTS. Prove the row's statement (the work); the ties are given (YtecohjcliahbnaaDoorTie.lean); close each card by the builder's one call (the guide's Derived/Test/ToyasCard.lean, 'card_holds'). Laid BY PROGRAM, IN A SANDBOX (cutbox-door.mjs). By AI agents, Wed Nov 11 2026. No macro, syntax, notation, axiom, sorry.
-/
import Derived.Test.YtecohjcliahbnaaDoorRows
import GoSem.ClaimSeven
namespace Go.Proofs.YtecohjcliahbnaaDoor
namespace Rows

/-- THE TIED CARD OF 'laws.FnExactReasonName'. -/
def fnExactReasonNameCard : Claim7 := { stood := { row := fnExactReasonNameRow, standIns := [], harness := (true, "089b1a70b39bb2d8d56302afc43e1375a59180d5193d216f878427bc1a53ebbd"), looks := true }, kinds := [], alts := [], laidByText := true, laidKinds := [.data, .data, .data], laidTests := true, laidLooks := .later }
def FnExactReasonNameCardSaid : Prop := Claim7.holds Tryd.pinned (.plain (OpenSpec.ofChange fnExactReasonNameSpec)) fnExactReasonNameCard

/-- THE TIED CARD OF 'laws.FnExactParseReasonName'. -/
def fnExactParseReasonNameCard : Claim7 := { stood := { row := fnExactParseReasonNameRow, standIns := [], harness := (true, "089b1a70b39bb2d8d56302afc43e1375a59180d5193d216f878427bc1a53ebbd"), looks := true }, kinds := [], alts := [], laidByText := true, laidKinds := [.data, .data, .data], laidTests := true, laidLooks := .later }
def FnExactParseReasonNameCardSaid : Prop := Claim7.holds Tryd.pinned (.plain (OpenSpec.ofChange fnExactParseReasonNameSpec)) fnExactParseReasonNameCard

/-- THE TIED CARD OF 'laws.FnExactReasonsText'. -/
def fnExactReasonsTextCard : Claim7 := { stood := { row := fnExactReasonsTextRow, standIns := [], harness := (true, "089b1a70b39bb2d8d56302afc43e1375a59180d5193d216f878427bc1a53ebbd"), looks := true }, kinds := [], alts := [], laidByText := true, laidKinds := [.data, .data, .data], laidTests := true, laidLooks := .later }
def FnExactReasonsTextCardSaid : Prop := Claim7.holds Tryd.pinned (.plain (OpenSpec.ofChange fnExactReasonsTextSpec)) fnExactReasonsTextCard

/-- THE TIED CARD OF 'laws.FnExactPolygonText'. -/
def fnExactPolygonTextCard : Claim7 := { stood := { row := fnExactPolygonTextRow, standIns := [], harness := (true, "089b1a70b39bb2d8d56302afc43e1375a59180d5193d216f878427bc1a53ebbd"), looks := true }, kinds := [], alts := [], laidByText := true, laidKinds := [.data, .data, .data], laidTests := true, laidLooks := .later }
def FnExactPolygonTextCardSaid : Prop := Claim7.holds Tryd.pinned (.plain (OpenSpec.ofChange fnExactPolygonTextSpec)) fnExactPolygonTextCard

/-- THE TIED CARD OF 'laws.FnExactParsePolygon'. -/
def fnExactParsePolygonCard : Claim7 := { stood := { row := fnExactParsePolygonRow, standIns := [], harness := (true, "089b1a70b39bb2d8d56302afc43e1375a59180d5193d216f878427bc1a53ebbd"), looks := true }, kinds := [], alts := [], laidByText := true, laidKinds := [.data, .data, .data, .data, .sentinel, .sentinel, .pinned], laidTests := true, laidLooks := .later }
def FnExactParsePolygonCardSaid : Prop := Claim7.holds Tryd.pinned (.plain (OpenSpec.ofChange fnExactParsePolygonSpec)) fnExactParsePolygonCard

/-- THE SECOND FORM's CARD OF 'laws.FnExactReasonName'. -/
def fnExactReasonNameUptoCard : Claim7 := { stood := { row := fnExactReasonNameUptoRow, standIns := [], harness := (true, "089b1a70b39bb2d8d56302afc43e1375a59180d5193d216f878427bc1a53ebbd"), looks := true }, kinds := [], alts := [], laidByText := true, laidKinds := [.data, .data, .data], laidTests := true, laidLooks := .later }
def FnExactReasonNameUptoCardSaid : Prop := Claim7.holds Tryd.pinned (.plain (OpenSpec.upto fnExactReasonNameSpec)) fnExactReasonNameUptoCard

/-- THE SECOND FORM's CARD OF 'laws.FnExactParseReasonName'. -/
def fnExactParseReasonNameUptoCard : Claim7 := { stood := { row := fnExactParseReasonNameUptoRow, standIns := [], harness := (true, "089b1a70b39bb2d8d56302afc43e1375a59180d5193d216f878427bc1a53ebbd"), looks := true }, kinds := [], alts := [], laidByText := true, laidKinds := [.data, .data, .data], laidTests := true, laidLooks := .later }
def FnExactParseReasonNameUptoCardSaid : Prop := Claim7.holds Tryd.pinned (.plain (OpenSpec.upto fnExactParseReasonNameSpec)) fnExactParseReasonNameUptoCard

/-- THE SECOND FORM's CARD OF 'laws.FnExactReasonsText'. -/
def fnExactReasonsTextUptoCard : Claim7 := { stood := { row := fnExactReasonsTextUptoRow, standIns := [], harness := (true, "089b1a70b39bb2d8d56302afc43e1375a59180d5193d216f878427bc1a53ebbd"), looks := true }, kinds := [], alts := [], laidByText := true, laidKinds := [.data, .data, .data], laidTests := true, laidLooks := .later }
def FnExactReasonsTextUptoCardSaid : Prop := Claim7.holds Tryd.pinned (.plain (OpenSpec.upto fnExactReasonsTextSpec)) fnExactReasonsTextUptoCard

/-- THE SECOND FORM's CARD OF 'laws.FnExactPolygonText'. -/
def fnExactPolygonTextUptoCard : Claim7 := { stood := { row := fnExactPolygonTextUptoRow, standIns := [], harness := (true, "089b1a70b39bb2d8d56302afc43e1375a59180d5193d216f878427bc1a53ebbd"), looks := true }, kinds := [], alts := [], laidByText := true, laidKinds := [.data, .data, .data], laidTests := true, laidLooks := .later }
def FnExactPolygonTextUptoCardSaid : Prop := Claim7.holds Tryd.pinned (.plain (OpenSpec.upto fnExactPolygonTextSpec)) fnExactPolygonTextUptoCard

/-- THE SECOND FORM's CARD OF 'laws.FnExactParsePolygon'. -/
def fnExactParsePolygonUptoCard : Claim7 := { stood := { row := fnExactParsePolygonUptoRow, standIns := [], harness := (true, "089b1a70b39bb2d8d56302afc43e1375a59180d5193d216f878427bc1a53ebbd"), looks := true }, kinds := [], alts := [], laidByText := true, laidKinds := [.data, .data, .data, .data, .sentinel, .sentinel, .pinned], laidTests := true, laidLooks := .later }
def FnExactParsePolygonUptoCardSaid : Prop := Claim7.holds Tryd.pinned (.plain (OpenSpec.upto fnExactParsePolygonSpec)) fnExactParsePolygonUptoCard
end Rows
end Go.Proofs.YtecohjcliahbnaaDoor
