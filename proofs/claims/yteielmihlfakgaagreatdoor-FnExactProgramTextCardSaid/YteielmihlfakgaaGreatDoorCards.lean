/-
  DERIVED. GIVEN WITH THE SEED: THE CARDS: each row of YteielmihlfakgaaGreatDoorRows.lean that lists a variable, with what it lists TIED to the program's text (the seventh form; the later family's looks); each row that meets fmt, with fmt's text TOLD by the authors' own Lean function (tested against real Go, not proved from fmt's source: count such statements apart). THE CARD IS WHAT COUNTS. Prove the row's statement (the work); the ties are given (YteielmihlfakgaaGreatDoorTie.lean); close each card by the builder's one call (the guide's Derived/Test/ToyasCard.lean, 'card_holds'). Laid BY PROGRAM, IN A SANDBOX (cutbox-door.mjs). By AI agents, Wed Nov 11 2026. No macro, syntax, notation, axiom, sorry.
-/
import Derived.Test.YteielmihlfakgaaGreatDoorRows
import GoSem.ClaimSeven
namespace Go.Proofs.YteielmihlfakgaaGreatDoor
namespace Rows

/-- THE TIED CARD OF 'laws.FnCodes'. -/
def fnCodesCard : Claim7 := { stood := { row := fnCodesRow, standIns := [], harness := (true, "d3c9566fe7aa33b9d91037f2ec86055872854ddfb731ade1cd18f6ae6b0da26a"), looks := true }, kinds := [], alts := [], laidByText := true, laidKinds := [.data, .data, .data, .data, .sentinel, .sentinel, .widerDeep, .pinned], laidTests := true, laidLooks := .later }
def FnCodesCardSaid : Prop := Claim7.holds Tryz.pinned (.plain (OpenSpec.ofChange fnCodesSpec)) fnCodesCard

/-- THE TIED CARD OF 'laws.FnExactProgramText'. -/
def fnExactProgramTextCard : Claim7 := { stood := { row := fnExactProgramTextRow, standIns := [], harness := (true, "d3c9566fe7aa33b9d91037f2ec86055872854ddfb731ade1cd18f6ae6b0da26a"), looks := true }, kinds := [], alts := [], laidByText := true, laidKinds := [.data, .data, .data, .widerDeep], laidTests := true, laidLooks := .later }
def FnExactProgramTextCardSaid : Prop := Claim7.holds Tryz.pinned (.plain (OpenSpec.ofChange fnExactProgramTextSpec)) fnExactProgramTextCard

/-- THE SECOND FORM's CARD OF 'laws.FnCodes'. -/
def fnCodesUptoCard : Claim7 := { stood := { row := fnCodesUptoRow, standIns := [], harness := (true, "d3c9566fe7aa33b9d91037f2ec86055872854ddfb731ade1cd18f6ae6b0da26a"), looks := true }, kinds := [], alts := [], laidByText := true, laidKinds := [.data, .data, .data, .data, .sentinel, .sentinel, .widerDeep, .pinned], laidTests := true, laidLooks := .later }
def FnCodesUptoCardSaid : Prop := Claim7.holds Tryz.pinned (.plain (OpenSpec.upto fnCodesSpec)) fnCodesUptoCard

/-- THE SECOND FORM's CARD OF 'laws.FnExactProgramText'. -/
def fnExactProgramTextUptoCard : Claim7 := { stood := { row := fnExactProgramTextUptoRow, standIns := [], harness := (true, "d3c9566fe7aa33b9d91037f2ec86055872854ddfb731ade1cd18f6ae6b0da26a"), looks := true }, kinds := [], alts := [], laidByText := true, laidKinds := [.data, .data, .data, .widerDeep], laidTests := true, laidLooks := .later }
def FnExactProgramTextUptoCardSaid : Prop := Claim7.holds Tryz.pinned (.plain (OpenSpec.upto fnExactProgramTextSpec)) fnExactProgramTextUptoCard
end Rows
end Go.Proofs.YteielmihlfakgaaGreatDoor
