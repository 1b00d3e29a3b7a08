/-
  DERIVED. GIVEN WITH THE SEED: THE CARDS: each row of YteielmihlfakgaaDoorRows.lean that lists a variable, with what it lists TIED to the program's text (the seventh form; the later family's looks); each row that meets fmt, with fmt's text TOLD by the authors' own Lean function (tested against real Go, not proved from fmt's source: count such statements apart). THE CARD IS WHAT COUNTS. Prove the row's statement (the work); the ties are given (YteielmihlfakgaaDoorTie.lean); close each card by the builder's one call (the guide's Derived/Test/ToyasCard.lean, 'card_holds'). Laid BY PROGRAM, IN A SANDBOX (cutbox-door.mjs). By AI agents, Wed Nov 11 2026. No macro, syntax, notation, axiom, sorry.
-/
import Derived.Test.YteielmihlfakgaaDoorRows
import GoSem.ClaimSeven
namespace Go.Proofs.YteielmihlfakgaaDoor
namespace Rows

/-- THE TIED CARD OF 'laws.FnNamesOf'. -/
def fnNamesOfCard : Claim7 := { stood := { row := fnNamesOfRow, standIns := [], harness := (true, "dffb0ffd2a252204e5a7bb9f7c46eeee29f9fcd563ed3901d9c42491b4dbe98f"), looks := false }, kinds := [], alts := [], laidByText := true, laidKinds := [.widerDeep], laidTests := true, laidLooks := .later }
def FnNamesOfCardSaid : Prop := Claim7.holds Tryd.pinned (.plain (OpenSpec.ofChange fnNamesOfSpec)) fnNamesOfCard

/-- THE TIED CARD OF 'laws.FnSound'. -/
def fnSoundCard : Claim7 := { stood := { row := fnSoundRow, standIns := [], harness := (true, "dffb0ffd2a252204e5a7bb9f7c46eeee29f9fcd563ed3901d9c42491b4dbe98f"), looks := false }, kinds := [], alts := [], laidByText := true, laidKinds := [.widerDeep], laidTests := true, laidLooks := .later }
def FnSoundCardSaid : Prop := Claim7.holds Tryd.pinned (.plain (OpenSpec.ofChange fnSoundSpec)) fnSoundCard

/-- THE TIED CARD OF 'laws.FnExactExpressionText'. -/
def fnExactExpressionTextCard : Claim7 := { stood := { row := fnExactExpressionTextRow, standIns := [], harness := (true, "dffb0ffd2a252204e5a7bb9f7c46eeee29f9fcd563ed3901d9c42491b4dbe98f"), looks := false }, kinds := [], alts := [], laidByText := true, laidKinds := [.data, .data, .data, .widerDeep], laidTests := true, laidLooks := .later }
def FnExactExpressionTextCardSaid : Prop := Claim7.holds Tryd.pinned (.plain (OpenSpec.ofChange fnExactExpressionTextSpec)) fnExactExpressionTextCard

/-- THE TIED CARD OF 'laws.FnImproved'. -/
def fnImprovedCard : Claim7 := { stood := { row := fnImprovedRow, standIns := [], harness := (true, "dffb0ffd2a252204e5a7bb9f7c46eeee29f9fcd563ed3901d9c42491b4dbe98f"), looks := false }, kinds := [], alts := [], laidByText := true, laidKinds := [.widerDeep], laidTests := true, laidLooks := .later }
def FnImprovedCardSaid : Prop := Claim7.holds Tryd.pinned (.plain (OpenSpec.ofChange fnImprovedSpec)) fnImprovedCard

/-- THE SECOND FORM's CARD OF 'laws.FnNamesOf'. -/
def fnNamesOfUptoCard : Claim7 := { stood := { row := fnNamesOfUptoRow, standIns := [], harness := (true, "dffb0ffd2a252204e5a7bb9f7c46eeee29f9fcd563ed3901d9c42491b4dbe98f"), looks := false }, kinds := [], alts := [], laidByText := true, laidKinds := [.widerDeep], laidTests := true, laidLooks := .later }
def FnNamesOfUptoCardSaid : Prop := Claim7.holds Tryd.pinned (.plain (OpenSpec.upto fnNamesOfSpec)) fnNamesOfUptoCard

/-- THE SECOND FORM's CARD OF 'laws.FnSound'. -/
def fnSoundUptoCard : Claim7 := { stood := { row := fnSoundUptoRow, standIns := [], harness := (true, "dffb0ffd2a252204e5a7bb9f7c46eeee29f9fcd563ed3901d9c42491b4dbe98f"), looks := false }, kinds := [], alts := [], laidByText := true, laidKinds := [.widerDeep], laidTests := true, laidLooks := .later }
def FnSoundUptoCardSaid : Prop := Claim7.holds Tryd.pinned (.plain (OpenSpec.upto fnSoundSpec)) fnSoundUptoCard

/-- THE SECOND FORM's CARD OF 'laws.FnExactExpressionText'. -/
def fnExactExpressionTextUptoCard : Claim7 := { stood := { row := fnExactExpressionTextUptoRow, standIns := [], harness := (true, "dffb0ffd2a252204e5a7bb9f7c46eeee29f9fcd563ed3901d9c42491b4dbe98f"), looks := false }, kinds := [], alts := [], laidByText := true, laidKinds := [.data, .data, .data, .widerDeep], laidTests := true, laidLooks := .later }
def FnExactExpressionTextUptoCardSaid : Prop := Claim7.holds Tryd.pinned (.plain (OpenSpec.upto fnExactExpressionTextSpec)) fnExactExpressionTextUptoCard

/-- THE SECOND FORM's CARD OF 'laws.FnImproved'. -/
def fnImprovedUptoCard : Claim7 := { stood := { row := fnImprovedUptoRow, standIns := [], harness := (true, "dffb0ffd2a252204e5a7bb9f7c46eeee29f9fcd563ed3901d9c42491b4dbe98f"), looks := false }, kinds := [], alts := [], laidByText := true, laidKinds := [.widerDeep], laidTests := true, laidLooks := .later }
def FnImprovedUptoCardSaid : Prop := Claim7.holds Tryd.pinned (.plain (OpenSpec.upto fnImprovedSpec)) fnImprovedUptoCard
end Rows
end Go.Proofs.YteielmihlfakgaaDoor
