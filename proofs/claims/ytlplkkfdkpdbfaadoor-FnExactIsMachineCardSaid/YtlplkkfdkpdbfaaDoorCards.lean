/-
  DERIVED. GIVEN WITH THE SEED: THE CARDS: each row of YtlplkkfdkpdbfaaDoorRows.lean that lists a variable, with what it lists TIED to the program's text (the seventh form; the later family's looks); each row that meets fmt, with fmt's text TOLD by the authors' own Lean function (tested against real Go, not proved from fmt's source: count such statements apart). THE CARD IS WHAT COUNTS. Prove the row's statement (the work); the ties are given (YtlplkkfdkpdbfaaDoorTie.lean); close each card by the builder's one call (the guide's Derived/Test/ToyasCard.lean, 'card_holds'). Laid BY PROGRAM, IN A SANDBOX (cutbox-door.mjs). By AI agents, Wed Nov 11 2026. No macro, syntax, notation, axiom, sorry.
-/
import Derived.Test.YtlplkkfdkpdbfaaDoorRows
import GoSem.ClaimSeven
namespace Go.Proofs.YtlplkkfdkpdbfaaDoor
namespace Rows

/-- THE TIED CARD OF 'laws.FnExactIsKeyword'. -/
def fnExactIsKeywordCard : Claim7 := { stood := { row := fnExactIsKeywordRow, standIns := [], harness := (true, "5de3a91c563c6681ba2a380517578544cbbd6d1b871549a6a0a9b34cd4bc6499"), looks := false }, kinds := [], alts := [], laidByText := true, laidKinds := [.widerDeep], laidTests := true, laidLooks := .later }
def FnExactIsKeywordCardSaid : Prop := Claim7.holds Tryd.pinned (.plain (OpenSpec.ofChange fnExactIsKeywordSpec)) fnExactIsKeywordCard

/-- THE TIED CARD OF 'laws.FnExactIsBlock'. -/
def fnExactIsBlockCard : Claim7 := { stood := { row := fnExactIsBlockRow, standIns := [], harness := (true, "5de3a91c563c6681ba2a380517578544cbbd6d1b871549a6a0a9b34cd4bc6499"), looks := false }, kinds := [], alts := [], laidByText := true, laidKinds := [.widerDeep], laidTests := true, laidLooks := .later }
def FnExactIsBlockCardSaid : Prop := Claim7.holds Tryd.pinned (.plain (OpenSpec.ofChange fnExactIsBlockSpec)) fnExactIsBlockCard

/-- THE TIED CARD OF 'laws.FnExactIsPossible'. -/
def fnExactIsPossibleCard : Claim7 := { stood := { row := fnExactIsPossibleRow, standIns := [], harness := (true, "5de3a91c563c6681ba2a380517578544cbbd6d1b871549a6a0a9b34cd4bc6499"), looks := false }, kinds := [], alts := [], laidByText := true, laidKinds := [.widerDeep], laidTests := true, laidLooks := .later }
def FnExactIsPossibleCardSaid : Prop := Claim7.holds Tryd.pinned (.plain (OpenSpec.ofChange fnExactIsPossibleSpec)) fnExactIsPossibleCard

/-- THE TIED CARD OF 'laws.FnExactIsFaulty'. -/
def fnExactIsFaultyCard : Claim7 := { stood := { row := fnExactIsFaultyRow, standIns := [], harness := (true, "5de3a91c563c6681ba2a380517578544cbbd6d1b871549a6a0a9b34cd4bc6499"), looks := false }, kinds := [], alts := [], laidByText := true, laidKinds := [.widerDeep], laidTests := true, laidLooks := .later }
def FnExactIsFaultyCardSaid : Prop := Claim7.holds Tryd.pinned (.plain (OpenSpec.ofChange fnExactIsFaultySpec)) fnExactIsFaultyCard

/-- THE TIED CARD OF 'laws.FnExactIsExpression'. -/
def fnExactIsExpressionCard : Claim7 := { stood := { row := fnExactIsExpressionRow, standIns := [], harness := (true, "5de3a91c563c6681ba2a380517578544cbbd6d1b871549a6a0a9b34cd4bc6499"), looks := false }, kinds := [], alts := [], laidByText := true, laidKinds := [.widerDeep], laidTests := true, laidLooks := .later }
def FnExactIsExpressionCardSaid : Prop := Claim7.holds Tryd.pinned (.plain (OpenSpec.ofChange fnExactIsExpressionSpec)) fnExactIsExpressionCard

/-- THE TIED CARD OF 'laws.FnExactHeightOf'. -/
def fnExactHeightOfCard : Claim7 := { stood := { row := fnExactHeightOfRow, standIns := [], harness := (true, "5de3a91c563c6681ba2a380517578544cbbd6d1b871549a6a0a9b34cd4bc6499"), looks := false }, kinds := [], alts := [], laidByText := true, laidKinds := [.widerDeep], laidTests := true, laidLooks := .later }
def FnExactHeightOfCardSaid : Prop := Claim7.holds Tryd.pinned (.plain (OpenSpec.ofChange fnExactHeightOfSpec)) fnExactHeightOfCard

/-- THE TIED CARD OF 'laws.FnExactIsCode'. -/
def fnExactIsCodeCard : Claim7 := { stood := { row := fnExactIsCodeRow, standIns := [], harness := (true, "5de3a91c563c6681ba2a380517578544cbbd6d1b871549a6a0a9b34cd4bc6499"), looks := false }, kinds := [], alts := [], laidByText := true, laidKinds := [.widerDeep], laidTests := true, laidLooks := .later }
def FnExactIsCodeCardSaid : Prop := Claim7.holds Tryd.pinned (.plain (OpenSpec.ofChange fnExactIsCodeSpec)) fnExactIsCodeCard

/-- THE TIED CARD OF 'laws.FnExactCountSteps'. -/
def fnExactCountStepsCard : Claim7 := { stood := { row := fnExactCountStepsRow, standIns := [], harness := (true, "5de3a91c563c6681ba2a380517578544cbbd6d1b871549a6a0a9b34cd4bc6499"), looks := false }, kinds := [], alts := [], laidByText := true, laidKinds := [.widerDeep], laidTests := true, laidLooks := .later }
def FnExactCountStepsCardSaid : Prop := Claim7.holds Tryd.pinned (.plain (OpenSpec.ofChange fnExactCountStepsSpec)) fnExactCountStepsCard

/-- THE TIED CARD OF 'laws.FnExactStackHeights'. -/
def fnExactStackHeightsCard : Claim7 := { stood := { row := fnExactStackHeightsRow, standIns := [], harness := (true, "5de3a91c563c6681ba2a380517578544cbbd6d1b871549a6a0a9b34cd4bc6499"), looks := false }, kinds := [], alts := [], laidByText := true, laidKinds := [.widerDeep], laidTests := true, laidLooks := .later }
def FnExactStackHeightsCardSaid : Prop := Claim7.holds Tryd.pinned (.plain (OpenSpec.ofChange fnExactStackHeightsSpec)) fnExactStackHeightsCard

/-- THE TIED CARD OF 'laws.FnExactIsMachine'. -/
def fnExactIsMachineCard : Claim7 := { stood := { row := fnExactIsMachineRow, standIns := [], harness := (true, "5de3a91c563c6681ba2a380517578544cbbd6d1b871549a6a0a9b34cd4bc6499"), looks := false }, kinds := [], alts := [], laidByText := true, laidKinds := [.widerDeep], laidTests := true, laidLooks := .later }
def FnExactIsMachineCardSaid : Prop := Claim7.holds Tryd.pinned (.plain (OpenSpec.ofChange fnExactIsMachineSpec)) fnExactIsMachineCard

/-- THE TIED CARD OF 'laws.FnExactLeftOf'. -/
def fnExactLeftOfCard : Claim7 := { stood := { row := fnExactLeftOfRow, standIns := [], harness := (true, "5de3a91c563c6681ba2a380517578544cbbd6d1b871549a6a0a9b34cd4bc6499"), looks := false }, kinds := [], alts := [], laidByText := true, laidKinds := [.widerDeep], laidTests := true, laidLooks := .later }
def FnExactLeftOfCardSaid : Prop := Claim7.holds Tryd.pinned (.plain (OpenSpec.ofChange fnExactLeftOfSpec)) fnExactLeftOfCard

/-- THE TIED CARD OF 'laws.FnExactImproveCode'. -/
def fnExactImproveCodeCard : Claim7 := { stood := { row := fnExactImproveCodeRow, standIns := [], harness := (true, "5de3a91c563c6681ba2a380517578544cbbd6d1b871549a6a0a9b34cd4bc6499"), looks := false }, kinds := [], alts := [], laidByText := true, laidKinds := [.widerDeep], laidTests := true, laidLooks := .later }
def FnExactImproveCodeCardSaid : Prop := Claim7.holds Tryd.pinned (.plain (OpenSpec.ofChange fnExactImproveCodeSpec)) fnExactImproveCodeCard

/-- THE SECOND FORM's CARD OF 'laws.FnExactIsKeyword'. -/
def fnExactIsKeywordUptoCard : Claim7 := { stood := { row := fnExactIsKeywordUptoRow, standIns := [], harness := (true, "5de3a91c563c6681ba2a380517578544cbbd6d1b871549a6a0a9b34cd4bc6499"), looks := false }, kinds := [], alts := [], laidByText := true, laidKinds := [.widerDeep], laidTests := true, laidLooks := .later }
def FnExactIsKeywordUptoCardSaid : Prop := Claim7.holds Tryd.pinned (.plain (OpenSpec.upto fnExactIsKeywordSpec)) fnExactIsKeywordUptoCard

/-- THE SECOND FORM's CARD OF 'laws.FnExactIsBlock'. -/
def fnExactIsBlockUptoCard : Claim7 := { stood := { row := fnExactIsBlockUptoRow, standIns := [], harness := (true, "5de3a91c563c6681ba2a380517578544cbbd6d1b871549a6a0a9b34cd4bc6499"), looks := false }, kinds := [], alts := [], laidByText := true, laidKinds := [.widerDeep], laidTests := true, laidLooks := .later }
def FnExactIsBlockUptoCardSaid : Prop := Claim7.holds Tryd.pinned (.plain (OpenSpec.upto fnExactIsBlockSpec)) fnExactIsBlockUptoCard

/-- THE SECOND FORM's CARD OF 'laws.FnExactIsPossible'. -/
def fnExactIsPossibleUptoCard : Claim7 := { stood := { row := fnExactIsPossibleUptoRow, standIns := [], harness := (true, "5de3a91c563c6681ba2a380517578544cbbd6d1b871549a6a0a9b34cd4bc6499"), looks := false }, kinds := [], alts := [], laidByText := true, laidKinds := [.widerDeep], laidTests := true, laidLooks := .later }
def FnExactIsPossibleUptoCardSaid : Prop := Claim7.holds Tryd.pinned (.plain (OpenSpec.upto fnExactIsPossibleSpec)) fnExactIsPossibleUptoCard

/-- THE SECOND FORM's CARD OF 'laws.FnExactIsFaulty'. -/
def fnExactIsFaultyUptoCard : Claim7 := { stood := { row := fnExactIsFaultyUptoRow, standIns := [], harness := (true, "5de3a91c563c6681ba2a380517578544cbbd6d1b871549a6a0a9b34cd4bc6499"), looks := false }, kinds := [], alts := [], laidByText := true, laidKinds := [.widerDeep], laidTests := true, laidLooks := .later }
def FnExactIsFaultyUptoCardSaid : Prop := Claim7.holds Tryd.pinned (.plain (OpenSpec.upto fnExactIsFaultySpec)) fnExactIsFaultyUptoCard

/-- THE SECOND FORM's CARD OF 'laws.FnExactIsExpression'. -/
def fnExactIsExpressionUptoCard : Claim7 := { stood := { row := fnExactIsExpressionUptoRow, standIns := [], harness := (true, "5de3a91c563c6681ba2a380517578544cbbd6d1b871549a6a0a9b34cd4bc6499"), looks := false }, kinds := [], alts := [], laidByText := true, laidKinds := [.widerDeep], laidTests := true, laidLooks := .later }
def FnExactIsExpressionUptoCardSaid : Prop := Claim7.holds Tryd.pinned (.plain (OpenSpec.upto fnExactIsExpressionSpec)) fnExactIsExpressionUptoCard

/-- THE SECOND FORM's CARD OF 'laws.FnExactHeightOf'. -/
def fnExactHeightOfUptoCard : Claim7 := { stood := { row := fnExactHeightOfUptoRow, standIns := [], harness := (true, "5de3a91c563c6681ba2a380517578544cbbd6d1b871549a6a0a9b34cd4bc6499"), looks := false }, kinds := [], alts := [], laidByText := true, laidKinds := [.widerDeep], laidTests := true, laidLooks := .later }
def FnExactHeightOfUptoCardSaid : Prop := Claim7.holds Tryd.pinned (.plain (OpenSpec.upto fnExactHeightOfSpec)) fnExactHeightOfUptoCard

/-- THE SECOND FORM's CARD OF 'laws.FnExactIsCode'. -/
def fnExactIsCodeUptoCard : Claim7 := { stood := { row := fnExactIsCodeUptoRow, standIns := [], harness := (true, "5de3a91c563c6681ba2a380517578544cbbd6d1b871549a6a0a9b34cd4bc6499"), looks := false }, kinds := [], alts := [], laidByText := true, laidKinds := [.widerDeep], laidTests := true, laidLooks := .later }
def FnExactIsCodeUptoCardSaid : Prop := Claim7.holds Tryd.pinned (.plain (OpenSpec.upto fnExactIsCodeSpec)) fnExactIsCodeUptoCard

/-- THE SECOND FORM's CARD OF 'laws.FnExactCountSteps'. -/
def fnExactCountStepsUptoCard : Claim7 := { stood := { row := fnExactCountStepsUptoRow, standIns := [], harness := (true, "5de3a91c563c6681ba2a380517578544cbbd6d1b871549a6a0a9b34cd4bc6499"), looks := false }, kinds := [], alts := [], laidByText := true, laidKinds := [.widerDeep], laidTests := true, laidLooks := .later }
def FnExactCountStepsUptoCardSaid : Prop := Claim7.holds Tryd.pinned (.plain (OpenSpec.upto fnExactCountStepsSpec)) fnExactCountStepsUptoCard

/-- THE SECOND FORM's CARD OF 'laws.FnExactStackHeights'. -/
def fnExactStackHeightsUptoCard : Claim7 := { stood := { row := fnExactStackHeightsUptoRow, standIns := [], harness := (true, "5de3a91c563c6681ba2a380517578544cbbd6d1b871549a6a0a9b34cd4bc6499"), looks := false }, kinds := [], alts := [], laidByText := true, laidKinds := [.widerDeep], laidTests := true, laidLooks := .later }
def FnExactStackHeightsUptoCardSaid : Prop := Claim7.holds Tryd.pinned (.plain (OpenSpec.upto fnExactStackHeightsSpec)) fnExactStackHeightsUptoCard

/-- THE SECOND FORM's CARD OF 'laws.FnExactIsMachine'. -/
def fnExactIsMachineUptoCard : Claim7 := { stood := { row := fnExactIsMachineUptoRow, standIns := [], harness := (true, "5de3a91c563c6681ba2a380517578544cbbd6d1b871549a6a0a9b34cd4bc6499"), looks := false }, kinds := [], alts := [], laidByText := true, laidKinds := [.widerDeep], laidTests := true, laidLooks := .later }
def FnExactIsMachineUptoCardSaid : Prop := Claim7.holds Tryd.pinned (.plain (OpenSpec.upto fnExactIsMachineSpec)) fnExactIsMachineUptoCard

/-- THE SECOND FORM's CARD OF 'laws.FnExactLeftOf'. -/
def fnExactLeftOfUptoCard : Claim7 := { stood := { row := fnExactLeftOfUptoRow, standIns := [], harness := (true, "5de3a91c563c6681ba2a380517578544cbbd6d1b871549a6a0a9b34cd4bc6499"), looks := false }, kinds := [], alts := [], laidByText := true, laidKinds := [.widerDeep], laidTests := true, laidLooks := .later }
def FnExactLeftOfUptoCardSaid : Prop := Claim7.holds Tryd.pinned (.plain (OpenSpec.upto fnExactLeftOfSpec)) fnExactLeftOfUptoCard

/-- THE SECOND FORM's CARD OF 'laws.FnExactImproveCode'. -/
def fnExactImproveCodeUptoCard : Claim7 := { stood := { row := fnExactImproveCodeUptoRow, standIns := [], harness := (true, "5de3a91c563c6681ba2a380517578544cbbd6d1b871549a6a0a9b34cd4bc6499"), looks := false }, kinds := [], alts := [], laidByText := true, laidKinds := [.widerDeep], laidTests := true, laidLooks := .later }
def FnExactImproveCodeUptoCardSaid : Prop := Claim7.holds Tryd.pinned (.plain (OpenSpec.upto fnExactImproveCodeSpec)) fnExactImproveCodeUptoCard
end Rows
end Go.Proofs.YtlplkkfdkpdbfaaDoor
