/-
  DERIVED. GIVEN WITH THE SEED: THE CARDS: each row of YtekpbmoagabmeaaGreatDoorRows.lean that lists a variable, with what it lists TIED to the program's text (the seventh form; the later family's looks); each row that meets fmt, with fmt's text TOLD by the authors' own Lean function (tested against real Go, not proved from fmt's source: count such statements apart). THE CARD IS WHAT COUNTS. Prove the row's statement (the work); the ties are given (YtekpbmoagabmeaaGreatDoorTie.lean); close each card by the builder's one call (the guide's Derived/Test/ToyasCard.lean, 'card_holds'). Laid BY PROGRAM, IN A SANDBOX (cutbox-door.mjs). By AI agents, Wed Nov 11 2026. No macro, syntax, notation, axiom, sorry.
-/
import Derived.Test.YtekpbmoagabmeaaGreatDoorRows
import GoSem.ClaimSeven
namespace Go.Proofs.YtekpbmoagabmeaaGreatDoor
namespace Rows

/-- THE TIED CARD OF 'laws.FnExactReadCode'. -/
def fnExactReadCodeCard : Claim7 := { stood := { row := fnExactReadCodeRow, standIns := [], harness := (true, "c541c991471c6c9f5e5b63d5cd867a679bf3bdeec536f6b8ab13b2c3f485ce58"), looks := true }, kinds := [], alts := [], laidByText := true, laidKinds := [.data, .data, .data, .data, .sentinel, .sentinel, .widerDeep, .pinned], laidTests := true, laidLooks := .later }
def FnExactReadCodeCardSaid : Prop := Claim7.holds Tryz.pinned (.plain (OpenSpec.ofChange fnExactReadCodeSpec)) fnExactReadCodeCard

/-- THE TIED CARD OF 'laws.FnCodes'. -/
def fnCodesCard : Claim7 := { stood := { row := fnCodesRow, standIns := [], harness := (true, "c541c991471c6c9f5e5b63d5cd867a679bf3bdeec536f6b8ab13b2c3f485ce58"), looks := true }, kinds := [], alts := [], laidByText := true, laidKinds := [.data, .data, .data, .data, .sentinel, .sentinel, .widerDeep, .pinned], laidTests := true, laidLooks := .later }
def FnCodesCardSaid : Prop := Claim7.holds Tryz.pinned (.plain (OpenSpec.ofChange fnCodesSpec)) fnCodesCard

/-- THE TIED CARD OF 'laws.FnExactProgramText'. -/
def fnExactProgramTextCard : Claim7 := { stood := { row := fnExactProgramTextRow, standIns := [], harness := (true, "c541c991471c6c9f5e5b63d5cd867a679bf3bdeec536f6b8ab13b2c3f485ce58"), looks := true }, kinds := [], alts := [], laidByText := true, laidKinds := [.data, .data, .data, .widerDeep], laidTests := true, laidLooks := .later }
def FnExactProgramTextCardSaid : Prop := Claim7.holds Tryz.pinned (.plain (OpenSpec.ofChange fnExactProgramTextSpec)) fnExactProgramTextCard

/-- THE SECOND FORM's CARD OF 'laws.FnExactReadCode'. -/
def fnExactReadCodeUptoCard : Claim7 := { stood := { row := fnExactReadCodeUptoRow, standIns := [], harness := (true, "c541c991471c6c9f5e5b63d5cd867a679bf3bdeec536f6b8ab13b2c3f485ce58"), looks := true }, kinds := [], alts := [], laidByText := true, laidKinds := [.data, .data, .data, .data, .sentinel, .sentinel, .widerDeep, .pinned], laidTests := true, laidLooks := .later }
def FnExactReadCodeUptoCardSaid : Prop := Claim7.holds Tryz.pinned (.plain (OpenSpec.upto fnExactReadCodeSpec)) fnExactReadCodeUptoCard

/-- THE SECOND FORM's CARD OF 'laws.FnCodes'. -/
def fnCodesUptoCard : Claim7 := { stood := { row := fnCodesUptoRow, standIns := [], harness := (true, "c541c991471c6c9f5e5b63d5cd867a679bf3bdeec536f6b8ab13b2c3f485ce58"), looks := true }, kinds := [], alts := [], laidByText := true, laidKinds := [.data, .data, .data, .data, .sentinel, .sentinel, .widerDeep, .pinned], laidTests := true, laidLooks := .later }
def FnCodesUptoCardSaid : Prop := Claim7.holds Tryz.pinned (.plain (OpenSpec.upto fnCodesSpec)) fnCodesUptoCard

/-- THE SECOND FORM's CARD OF 'laws.FnExactProgramText'. -/
def fnExactProgramTextUptoCard : Claim7 := { stood := { row := fnExactProgramTextUptoRow, standIns := [], harness := (true, "c541c991471c6c9f5e5b63d5cd867a679bf3bdeec536f6b8ab13b2c3f485ce58"), looks := true }, kinds := [], alts := [], laidByText := true, laidKinds := [.data, .data, .data, .widerDeep], laidTests := true, laidLooks := .later }
def FnExactProgramTextUptoCardSaid : Prop := Claim7.holds Tryz.pinned (.plain (OpenSpec.upto fnExactProgramTextSpec)) fnExactProgramTextUptoCard
end Rows
end Go.Proofs.YtekpbmoagabmeaaGreatDoor
