/-
  DERIVED. GIVEN WITH THE SEED: THE CARDS: each row of YtommolbkcjpjhaaDoorRows.lean that lists a variable, with what it lists TIED to the program's text (the seventh form; the later family's looks); each row that meets fmt, with fmt's text TOLD by the authors' own Lean function (tested against real Go, not proved from fmt's source: count such statements apart). THE CARD IS WHAT COUNTS. Prove the row's statement (the work); the ties are given (YtommolbkcjpjhaaDoorTie.lean); close each card by the builder's one call (the guide's Derived/Test/ToyasCard.lean, 'card_holds'). Laid BY PROGRAM, IN A SANDBOX (cutbox-door.mjs). By AI agents, Wed Nov 11 2026. No macro, syntax, notation, axiom, sorry.
-/
import Derived.Test.YtommolbkcjpjhaaDoorRows
import GoSem.ClaimSeven
namespace Go.Proofs.YtommolbkcjpjhaaDoor
namespace Rows

/-- THE TIED CARD OF 'laws.FnTrafficText'. -/
def fnTrafficTextCard : Claim7 := { stood := { row := fnTrafficTextRow, standIns := [], harness := (true, "a62a0705f22dcdaa49ef7b018eb46e3518e24caf6fa132d45887ebe923c12203"), looks := true }, kinds := [], alts := [], laidByText := true, laidKinds := [.data, .data, .data, .data, .sentinel, .sentinel, .pinned], laidTests := true, laidLooks := .later }
def FnTrafficTextCardSaid : Prop := Claim7.holds Tryd.pinned (.plain (OpenSpec.ofChange fnTrafficTextSpec)) fnTrafficTextCard

/-- THE TIED CARD OF 'laws.FnExactReadTraffic'. -/
def fnExactReadTrafficCard : Claim7 := { stood := { row := fnExactReadTrafficRow, standIns := [], harness := (true, "a62a0705f22dcdaa49ef7b018eb46e3518e24caf6fa132d45887ebe923c12203"), looks := true }, kinds := [], alts := [], laidByText := true, laidKinds := [.data, .data, .data, .data, .sentinel, .sentinel, .pinned], laidTests := true, laidLooks := .later }
def FnExactReadTrafficCardSaid : Prop := Claim7.holds Tryd.pinned (.plain (OpenSpec.ofChange fnExactReadTrafficSpec)) fnExactReadTrafficCard

/-- THE SECOND FORM's CARD OF 'laws.FnTrafficText'. -/
def fnTrafficTextUptoCard : Claim7 := { stood := { row := fnTrafficTextUptoRow, standIns := [], harness := (true, "a62a0705f22dcdaa49ef7b018eb46e3518e24caf6fa132d45887ebe923c12203"), looks := true }, kinds := [], alts := [], laidByText := true, laidKinds := [.data, .data, .data, .data, .sentinel, .sentinel, .pinned], laidTests := true, laidLooks := .later }
def FnTrafficTextUptoCardSaid : Prop := Claim7.holds Tryd.pinned (.plain (OpenSpec.upto fnTrafficTextSpec)) fnTrafficTextUptoCard

/-- THE SECOND FORM's CARD OF 'laws.FnExactReadTraffic'. -/
def fnExactReadTrafficUptoCard : Claim7 := { stood := { row := fnExactReadTrafficUptoRow, standIns := [], harness := (true, "a62a0705f22dcdaa49ef7b018eb46e3518e24caf6fa132d45887ebe923c12203"), looks := true }, kinds := [], alts := [], laidByText := true, laidKinds := [.data, .data, .data, .data, .sentinel, .sentinel, .pinned], laidTests := true, laidLooks := .later }
def FnExactReadTrafficUptoCardSaid : Prop := Claim7.holds Tryd.pinned (.plain (OpenSpec.upto fnExactReadTrafficSpec)) fnExactReadTrafficUptoCard
end Rows
end Go.Proofs.YtommolbkcjpjhaaDoor
