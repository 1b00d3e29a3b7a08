/-
  DERIVED. GIVEN WITH THE SEED: THE CARDS: each row of YtflhdijlhdckoaaDoorRows.lean that lists a variable, with what it lists TIED to the program's text (the seventh form; the later family's looks); each row that meets fmt, with fmt's text TOLD by the authors' own Lean function (tested against real Go, not proved from fmt's source: count such statements apart). THE CARD IS WHAT COUNTS. Prove the row's statement (the work); the ties are given (YtflhdijlhdckoaaDoorTie.lean); close each card by the builder's one call (the guide's Derived/Test/ToyasCard.lean, 'card_holds'). Laid BY PROGRAM, IN A SANDBOX (cutbox-door.mjs). By AI agents, Wed Nov 11 2026. No macro, syntax, notation, axiom, sorry.
-/
import Derived.Test.YtflhdijlhdckoaaDoorRows
import GoSem.ClaimSeven
namespace Go.Proofs.YtflhdijlhdckoaaDoor
namespace Rows

/-- THE TIED CARD OF 'laws.FnImproved'. -/
def fnImprovedCard : Claim7 := { stood := { row := fnImprovedRow, standIns := [], harness := (true, "5a3039f8a07a741aeff7076a8ea565c3416516e93ed09c9425359ec4a30b599c"), looks := true }, kinds := [], alts := [], laidByText := true, laidKinds := [.widerDeep], laidTests := true, laidLooks := .later }
def FnImprovedCardSaid : Prop := Claim7.holds Tryd.pinned (.plain (OpenSpec.ofChange fnImprovedSpec)) fnImprovedCard

/-- THE TIED CARD OF 'laws.FnExactBlockText'. -/
def fnExactBlockTextCard : Claim7 := { stood := { row := fnExactBlockTextRow, standIns := [], harness := (true, "5a3039f8a07a741aeff7076a8ea565c3416516e93ed09c9425359ec4a30b599c"), looks := true }, kinds := [], alts := [], laidByText := true, laidKinds := [.data, .data, .data, .widerDeep], laidTests := true, laidLooks := .later }
def FnExactBlockTextCardSaid : Prop := Claim7.holds Tryd.pinned (.plain (OpenSpec.ofChange fnExactBlockTextSpec)) fnExactBlockTextCard

/-- THE TIED CARD OF 'laws.FnExactCodeText'. -/
def fnExactCodeTextCard : Claim7 := { stood := { row := fnExactCodeTextRow, standIns := [], harness := (true, "5a3039f8a07a741aeff7076a8ea565c3416516e93ed09c9425359ec4a30b599c"), looks := true }, kinds := [], alts := [], laidByText := true, laidKinds := [.data, .data, .data, .widerDeep], laidTests := true, laidLooks := .later }
def FnExactCodeTextCardSaid : Prop := Claim7.holds Tryd.pinned (.plain (OpenSpec.ofChange fnExactCodeTextSpec)) fnExactCodeTextCard

/-- THE TIED CARD OF 'laws.FnExactStandardText'. -/
def fnExactStandardTextCard : Claim7 := { stood := { row := fnExactStandardTextRow, standIns := [], harness := (true, "5a3039f8a07a741aeff7076a8ea565c3416516e93ed09c9425359ec4a30b599c"), looks := true }, kinds := [], alts := [], laidByText := true, laidKinds := [.data, .data, .data, .sentinel, .sentinel, .widerDeep], laidTests := true, laidLooks := .later }
def FnExactStandardTextCardSaid : Prop := Claim7.holds Tryd.pinned (.plain (OpenSpec.ofChange fnExactStandardTextSpec)) fnExactStandardTextCard

/-- THE TIED CARD OF 'laws.FnExactExpressionText'. -/
def fnExactExpressionTextCard : Claim7 := { stood := { row := fnExactExpressionTextRow, standIns := [], harness := (true, "5a3039f8a07a741aeff7076a8ea565c3416516e93ed09c9425359ec4a30b599c"), looks := true }, kinds := [], alts := [], laidByText := true, laidKinds := [.data, .data, .data, .widerDeep], laidTests := true, laidLooks := .later }
def FnExactExpressionTextCardSaid : Prop := Claim7.holds Tryd.pinned (.plain (OpenSpec.ofChange fnExactExpressionTextSpec)) fnExactExpressionTextCard

/-- THE SECOND FORM's CARD OF 'laws.FnImproved'. -/
def fnImprovedUptoCard : Claim7 := { stood := { row := fnImprovedUptoRow, standIns := [], harness := (true, "5a3039f8a07a741aeff7076a8ea565c3416516e93ed09c9425359ec4a30b599c"), looks := true }, kinds := [], alts := [], laidByText := true, laidKinds := [.widerDeep], laidTests := true, laidLooks := .later }
def FnImprovedUptoCardSaid : Prop := Claim7.holds Tryd.pinned (.plain (OpenSpec.upto fnImprovedSpec)) fnImprovedUptoCard

/-- THE SECOND FORM's CARD OF 'laws.FnExactBlockText'. -/
def fnExactBlockTextUptoCard : Claim7 := { stood := { row := fnExactBlockTextUptoRow, standIns := [], harness := (true, "5a3039f8a07a741aeff7076a8ea565c3416516e93ed09c9425359ec4a30b599c"), looks := true }, kinds := [], alts := [], laidByText := true, laidKinds := [.data, .data, .data, .widerDeep], laidTests := true, laidLooks := .later }
def FnExactBlockTextUptoCardSaid : Prop := Claim7.holds Tryd.pinned (.plain (OpenSpec.upto fnExactBlockTextSpec)) fnExactBlockTextUptoCard

/-- THE SECOND FORM's CARD OF 'laws.FnExactCodeText'. -/
def fnExactCodeTextUptoCard : Claim7 := { stood := { row := fnExactCodeTextUptoRow, standIns := [], harness := (true, "5a3039f8a07a741aeff7076a8ea565c3416516e93ed09c9425359ec4a30b599c"), looks := true }, kinds := [], alts := [], laidByText := true, laidKinds := [.data, .data, .data, .widerDeep], laidTests := true, laidLooks := .later }
def FnExactCodeTextUptoCardSaid : Prop := Claim7.holds Tryd.pinned (.plain (OpenSpec.upto fnExactCodeTextSpec)) fnExactCodeTextUptoCard

/-- THE SECOND FORM's CARD OF 'laws.FnExactStandardText'. -/
def fnExactStandardTextUptoCard : Claim7 := { stood := { row := fnExactStandardTextUptoRow, standIns := [], harness := (true, "5a3039f8a07a741aeff7076a8ea565c3416516e93ed09c9425359ec4a30b599c"), looks := true }, kinds := [], alts := [], laidByText := true, laidKinds := [.data, .data, .data, .sentinel, .sentinel, .widerDeep], laidTests := true, laidLooks := .later }
def FnExactStandardTextUptoCardSaid : Prop := Claim7.holds Tryd.pinned (.plain (OpenSpec.upto fnExactStandardTextSpec)) fnExactStandardTextUptoCard

/-- THE SECOND FORM's CARD OF 'laws.FnExactExpressionText'. -/
def fnExactExpressionTextUptoCard : Claim7 := { stood := { row := fnExactExpressionTextUptoRow, standIns := [], harness := (true, "5a3039f8a07a741aeff7076a8ea565c3416516e93ed09c9425359ec4a30b599c"), looks := true }, kinds := [], alts := [], laidByText := true, laidKinds := [.data, .data, .data, .widerDeep], laidTests := true, laidLooks := .later }
def FnExactExpressionTextUptoCardSaid : Prop := Claim7.holds Tryd.pinned (.plain (OpenSpec.upto fnExactExpressionTextSpec)) fnExactExpressionTextUptoCard
end Rows
end Go.Proofs.YtflhdijlhdckoaaDoor
