/-
  DERIVED. GIVEN WITH THE SEED: THE CARDS: each row of YtekpbmoagabmeaaDoorRows.lean that lists a variable, with what it lists TIED to the program's text (the seventh form; the later family's looks); each row that meets fmt, with fmt's text TOLD by the authors' own Lean function (tested against real Go, not proved from fmt's source: count such statements apart). THE CARD IS WHAT COUNTS. Prove the row's statement (the work); the ties are given (YtekpbmoagabmeaaDoorTie.lean); close each card by the builder's one call (the guide's Derived/Test/ToyasCard.lean, 'card_holds'). Laid BY PROGRAM, IN A SANDBOX (cutbox-door.mjs). By AI agents, Wed Nov 11 2026. No macro, syntax, notation, axiom, sorry.
-/
import Derived.Test.YtekpbmoagabmeaaDoorRows
import GoSem.ClaimSeven
namespace Go.Proofs.YtekpbmoagabmeaaDoor
namespace Rows

/-- THE TIED CARD OF 'laws.FnExactImproveCode'. -/
def fnExactImproveCodeCard : Claim7 := { stood := { row := fnExactImproveCodeRow, standIns := [], harness := (true, "d8012269983f08c7ad3b2185d5e070d74c9cb223be0e354e527eab3314c9ac3c"), looks := false }, kinds := [], alts := [], laidByText := true, laidKinds := [.widerDeep], laidTests := true, laidLooks := .later }
def FnExactImproveCodeCardSaid : Prop := Claim7.holds Tryd.pinned (.plain (OpenSpec.ofChange fnExactImproveCodeSpec)) fnExactImproveCodeCard

/-- THE TIED CARD OF 'laws.FnImproved'. -/
def fnImprovedCard : Claim7 := { stood := { row := fnImprovedRow, standIns := [], harness := (true, "d8012269983f08c7ad3b2185d5e070d74c9cb223be0e354e527eab3314c9ac3c"), looks := false }, kinds := [], alts := [], laidByText := true, laidKinds := [.widerDeep], laidTests := true, laidLooks := .later }
def FnImprovedCardSaid : Prop := Claim7.holds Tryd.pinned (.plain (OpenSpec.ofChange fnImprovedSpec)) fnImprovedCard

/-- THE TIED CARD OF 'laws.FnExactExpressionText'. -/
def fnExactExpressionTextCard : Claim7 := { stood := { row := fnExactExpressionTextRow, standIns := [], harness := (true, "d8012269983f08c7ad3b2185d5e070d74c9cb223be0e354e527eab3314c9ac3c"), looks := false }, kinds := [], alts := [], laidByText := true, laidKinds := [.data, .data, .data, .widerDeep], laidTests := true, laidLooks := .later }
def FnExactExpressionTextCardSaid : Prop := Claim7.holds Tryd.pinned (.plain (OpenSpec.ofChange fnExactExpressionTextSpec)) fnExactExpressionTextCard

/-- THE SECOND FORM's CARD OF 'laws.FnExactImproveCode'. -/
def fnExactImproveCodeUptoCard : Claim7 := { stood := { row := fnExactImproveCodeUptoRow, standIns := [], harness := (true, "d8012269983f08c7ad3b2185d5e070d74c9cb223be0e354e527eab3314c9ac3c"), looks := false }, kinds := [], alts := [], laidByText := true, laidKinds := [.widerDeep], laidTests := true, laidLooks := .later }
def FnExactImproveCodeUptoCardSaid : Prop := Claim7.holds Tryd.pinned (.plain (OpenSpec.upto fnExactImproveCodeSpec)) fnExactImproveCodeUptoCard

/-- THE SECOND FORM's CARD OF 'laws.FnImproved'. -/
def fnImprovedUptoCard : Claim7 := { stood := { row := fnImprovedUptoRow, standIns := [], harness := (true, "d8012269983f08c7ad3b2185d5e070d74c9cb223be0e354e527eab3314c9ac3c"), looks := false }, kinds := [], alts := [], laidByText := true, laidKinds := [.widerDeep], laidTests := true, laidLooks := .later }
def FnImprovedUptoCardSaid : Prop := Claim7.holds Tryd.pinned (.plain (OpenSpec.upto fnImprovedSpec)) fnImprovedUptoCard

/-- THE SECOND FORM's CARD OF 'laws.FnExactExpressionText'. -/
def fnExactExpressionTextUptoCard : Claim7 := { stood := { row := fnExactExpressionTextUptoRow, standIns := [], harness := (true, "d8012269983f08c7ad3b2185d5e070d74c9cb223be0e354e527eab3314c9ac3c"), looks := false }, kinds := [], alts := [], laidByText := true, laidKinds := [.data, .data, .data, .widerDeep], laidTests := true, laidLooks := .later }
def FnExactExpressionTextUptoCardSaid : Prop := Claim7.holds Tryd.pinned (.plain (OpenSpec.upto fnExactExpressionTextSpec)) fnExactExpressionTextUptoCard
end Rows
end Go.Proofs.YtekpbmoagabmeaaDoor
