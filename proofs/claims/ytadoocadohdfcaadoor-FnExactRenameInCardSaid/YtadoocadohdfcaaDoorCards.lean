/-
  DERIVED. GIVEN WITH THE SEED: THE CARDS: each row of YtadoocadohdfcaaDoorRows.lean that lists a variable, with what it lists TIED to the program's text (the seventh form; the later family's looks); each row that meets fmt, with fmt's text TOLD by the authors' own Lean function (tested against real Go, not proved from fmt's source: count such statements apart). THE CARD IS WHAT COUNTS. Prove the row's statement (the work); the ties are given (YtadoocadohdfcaaDoorTie.lean); close each card by the builder's one call (the guide's Derived/Test/ToyasCard.lean, 'card_holds'). Laid BY PROGRAM, IN A SANDBOX (cutbox-door.mjs). By AI agents, Wed Nov 11 2026. No macro, syntax, notation, axiom, sorry.
-/
import Derived.Test.YtadoocadohdfcaaDoorRows
import GoSem.ClaimSeven
namespace Go.Proofs.YtadoocadohdfcaaDoor
namespace Rows

/-- THE TIED CARD OF 'laws.FnExactRenameIn'. -/
def fnExactRenameInCard : Claim7 := { stood := { row := fnExactRenameInRow, standIns := [], harness := (true, "9a090613f787fe52eee22de0af2e7303a120006cdda327ef9e89360d3f4bfe5c"), looks := false }, kinds := [], alts := [], laidByText := true, laidKinds := [.widerDeep], laidTests := true, laidLooks := .later }
def FnExactRenameInCardSaid : Prop := Claim7.holds Tryd.pinned (.plain (OpenSpec.ofChange fnExactRenameInSpec)) fnExactRenameInCard

/-- THE TIED CARD OF 'laws.FnNamesOf'. -/
def fnNamesOfCard : Claim7 := { stood := { row := fnNamesOfRow, standIns := [], harness := (true, "9a090613f787fe52eee22de0af2e7303a120006cdda327ef9e89360d3f4bfe5c"), looks := false }, kinds := [], alts := [], laidByText := true, laidKinds := [.widerDeep], laidTests := true, laidLooks := .later }
def FnNamesOfCardSaid : Prop := Claim7.holds Tryd.pinned (.plain (OpenSpec.ofChange fnNamesOfSpec)) fnNamesOfCard

/-- THE TIED CARD OF 'laws.FnSound'. -/
def fnSoundCard : Claim7 := { stood := { row := fnSoundRow, standIns := [], harness := (true, "9a090613f787fe52eee22de0af2e7303a120006cdda327ef9e89360d3f4bfe5c"), looks := false }, kinds := [], alts := [], laidByText := true, laidKinds := [.widerDeep], laidTests := true, laidLooks := .later }
def FnSoundCardSaid : Prop := Claim7.holds Tryd.pinned (.plain (OpenSpec.ofChange fnSoundSpec)) fnSoundCard

/-- THE SECOND FORM's CARD OF 'laws.FnExactRenameIn'. -/
def fnExactRenameInUptoCard : Claim7 := { stood := { row := fnExactRenameInUptoRow, standIns := [], harness := (true, "9a090613f787fe52eee22de0af2e7303a120006cdda327ef9e89360d3f4bfe5c"), looks := false }, kinds := [], alts := [], laidByText := true, laidKinds := [.widerDeep], laidTests := true, laidLooks := .later }
def FnExactRenameInUptoCardSaid : Prop := Claim7.holds Tryd.pinned (.plain (OpenSpec.upto fnExactRenameInSpec)) fnExactRenameInUptoCard

/-- THE SECOND FORM's CARD OF 'laws.FnNamesOf'. -/
def fnNamesOfUptoCard : Claim7 := { stood := { row := fnNamesOfUptoRow, standIns := [], harness := (true, "9a090613f787fe52eee22de0af2e7303a120006cdda327ef9e89360d3f4bfe5c"), looks := false }, kinds := [], alts := [], laidByText := true, laidKinds := [.widerDeep], laidTests := true, laidLooks := .later }
def FnNamesOfUptoCardSaid : Prop := Claim7.holds Tryd.pinned (.plain (OpenSpec.upto fnNamesOfSpec)) fnNamesOfUptoCard

/-- THE SECOND FORM's CARD OF 'laws.FnSound'. -/
def fnSoundUptoCard : Claim7 := { stood := { row := fnSoundUptoRow, standIns := [], harness := (true, "9a090613f787fe52eee22de0af2e7303a120006cdda327ef9e89360d3f4bfe5c"), looks := false }, kinds := [], alts := [], laidByText := true, laidKinds := [.widerDeep], laidTests := true, laidLooks := .later }
def FnSoundUptoCardSaid : Prop := Claim7.holds Tryd.pinned (.plain (OpenSpec.upto fnSoundSpec)) fnSoundUptoCard
end Rows
end Go.Proofs.YtadoocadohdfcaaDoor
