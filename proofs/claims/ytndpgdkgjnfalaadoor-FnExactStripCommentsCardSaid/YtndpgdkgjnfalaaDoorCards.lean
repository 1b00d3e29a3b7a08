/-
  DERIVED. GIVEN WITH THE SEED: THE CARDS: each row of YtndpgdkgjnfalaaDoorRows.lean that lists a variable, with what it lists TIED to the program's text (the seventh form; the later family's looks); each row that meets fmt, with fmt's text TOLD by the authors' own Lean function (tested against real Go, not proved from fmt's source: count such statements apart). THE CARD IS WHAT COUNTS. Prove the row's statement (the work); the ties are given (YtndpgdkgjnfalaaDoorTie.lean); close each card by the builder's one call (the guide's Derived/Test/ToyasCard.lean, 'card_holds'). Laid BY PROGRAM, IN A SANDBOX (cutbox-door.mjs). By AI agents, Wed Nov 11 2026. No macro, syntax, notation, axiom, sorry.
-/
import Derived.Test.YtndpgdkgjnfalaaDoorRows
import GoSem.ClaimSeven
namespace Go.Proofs.YtndpgdkgjnfalaaDoor
namespace Rows

/-- THE TIED CARD OF 'laws.FnTrafficText'. -/
def fnTrafficTextCard : Claim7 := { stood := { row := fnTrafficTextRow, standIns := [], harness := (true, "ab1dd1633f01245ac277aaf65b4d168e570937730cf34affd381838e5f303f72"), looks := true }, kinds := [], alts := [], laidByText := true, laidKinds := [.data, .data, .data, .data, .sentinel, .sentinel, .pinned], laidTests := true, laidLooks := .later }
def FnTrafficTextCardSaid : Prop := Claim7.holds Tryd.pinned (.plain (OpenSpec.ofChange fnTrafficTextSpec)) fnTrafficTextCard

/-- THE TIED CARD OF 'laws.FnExactTrafficText'. -/
def fnExactTrafficTextCard : Claim7 := { stood := { row := fnExactTrafficTextRow, standIns := [], harness := (true, "ab1dd1633f01245ac277aaf65b4d168e570937730cf34affd381838e5f303f72"), looks := true }, kinds := [], alts := [], laidByText := true, laidKinds := [.data, .data, .data], laidTests := true, laidLooks := .later }
def FnExactTrafficTextCardSaid : Prop := Claim7.holds Tryd.pinned (.plain (OpenSpec.ofChange fnExactTrafficTextSpec)) fnExactTrafficTextCard

/-- THE TIED CARD OF 'laws.FnExactReadTraffic'. -/
def fnExactReadTrafficCard : Claim7 := { stood := { row := fnExactReadTrafficRow, standIns := [], harness := (true, "ab1dd1633f01245ac277aaf65b4d168e570937730cf34affd381838e5f303f72"), looks := true }, kinds := [], alts := [], laidByText := true, laidKinds := [.data, .data, .data, .data, .sentinel, .sentinel, .pinned], laidTests := true, laidLooks := .later }
def FnExactReadTrafficCardSaid : Prop := Claim7.holds Tryd.pinned (.plain (OpenSpec.ofChange fnExactReadTrafficSpec)) fnExactReadTrafficCard

/-- THE TIED CARD OF 'laws.FnExactStripComments'. -/
def fnExactStripCommentsCard : Claim7 := { stood := { row := fnExactStripCommentsRow, standIns := [], harness := (true, "ab1dd1633f01245ac277aaf65b4d168e570937730cf34affd381838e5f303f72"), looks := true }, kinds := [], alts := [], laidByText := true, laidKinds := [.data, .pinned], laidTests := true, laidLooks := .later }
def FnExactStripCommentsCardSaid : Prop := Claim7.holds Tryd.pinned (.plain (OpenSpec.ofChange fnExactStripCommentsSpec)) fnExactStripCommentsCard

/-- THE TIED CARD OF 'laws.FnExactIsToken'. -/
def fnExactIsTokenCard : Claim7 := { stood := { row := fnExactIsTokenRow, standIns := [], harness := (true, "ab1dd1633f01245ac277aaf65b4d168e570937730cf34affd381838e5f303f72"), looks := true }, kinds := [], alts := [], laidByText := true, laidKinds := [.data, .data, .data, .sentinel, .sentinel], laidTests := true, laidLooks := .later }
def FnExactIsTokenCardSaid : Prop := Claim7.holds Tryd.pinned (.plain (OpenSpec.ofChange fnExactIsTokenSpec)) fnExactIsTokenCard

/-- THE TIED CARD OF 'laws.FnExactCountWords'. -/
def fnExactCountWordsCard : Claim7 := { stood := { row := fnExactCountWordsRow, standIns := [], harness := (true, "ab1dd1633f01245ac277aaf65b4d168e570937730cf34affd381838e5f303f72"), looks := true }, kinds := [], alts := [], laidByText := true, laidKinds := [.data, .data, .data, .sentinel, .sentinel], laidTests := true, laidLooks := .later }
def FnExactCountWordsCardSaid : Prop := Claim7.holds Tryd.pinned (.plain (OpenSpec.ofChange fnExactCountWordsSpec)) fnExactCountWordsCard

/-- THE SECOND FORM's CARD OF 'laws.FnTrafficText'. -/
def fnTrafficTextUptoCard : Claim7 := { stood := { row := fnTrafficTextUptoRow, standIns := [], harness := (true, "ab1dd1633f01245ac277aaf65b4d168e570937730cf34affd381838e5f303f72"), looks := true }, kinds := [], alts := [], laidByText := true, laidKinds := [.data, .data, .data, .data, .sentinel, .sentinel, .pinned], laidTests := true, laidLooks := .later }
def FnTrafficTextUptoCardSaid : Prop := Claim7.holds Tryd.pinned (.plain (OpenSpec.upto fnTrafficTextSpec)) fnTrafficTextUptoCard

/-- THE SECOND FORM's CARD OF 'laws.FnExactTrafficText'. -/
def fnExactTrafficTextUptoCard : Claim7 := { stood := { row := fnExactTrafficTextUptoRow, standIns := [], harness := (true, "ab1dd1633f01245ac277aaf65b4d168e570937730cf34affd381838e5f303f72"), looks := true }, kinds := [], alts := [], laidByText := true, laidKinds := [.data, .data, .data], laidTests := true, laidLooks := .later }
def FnExactTrafficTextUptoCardSaid : Prop := Claim7.holds Tryd.pinned (.plain (OpenSpec.upto fnExactTrafficTextSpec)) fnExactTrafficTextUptoCard

/-- THE SECOND FORM's CARD OF 'laws.FnExactReadTraffic'. -/
def fnExactReadTrafficUptoCard : Claim7 := { stood := { row := fnExactReadTrafficUptoRow, standIns := [], harness := (true, "ab1dd1633f01245ac277aaf65b4d168e570937730cf34affd381838e5f303f72"), looks := true }, kinds := [], alts := [], laidByText := true, laidKinds := [.data, .data, .data, .data, .sentinel, .sentinel, .pinned], laidTests := true, laidLooks := .later }
def FnExactReadTrafficUptoCardSaid : Prop := Claim7.holds Tryd.pinned (.plain (OpenSpec.upto fnExactReadTrafficSpec)) fnExactReadTrafficUptoCard

/-- THE SECOND FORM's CARD OF 'laws.FnExactStripComments'. -/
def fnExactStripCommentsUptoCard : Claim7 := { stood := { row := fnExactStripCommentsUptoRow, standIns := [], harness := (true, "ab1dd1633f01245ac277aaf65b4d168e570937730cf34affd381838e5f303f72"), looks := true }, kinds := [], alts := [], laidByText := true, laidKinds := [.data, .pinned], laidTests := true, laidLooks := .later }
def FnExactStripCommentsUptoCardSaid : Prop := Claim7.holds Tryd.pinned (.plain (OpenSpec.upto fnExactStripCommentsSpec)) fnExactStripCommentsUptoCard

/-- THE SECOND FORM's CARD OF 'laws.FnExactIsToken'. -/
def fnExactIsTokenUptoCard : Claim7 := { stood := { row := fnExactIsTokenUptoRow, standIns := [], harness := (true, "ab1dd1633f01245ac277aaf65b4d168e570937730cf34affd381838e5f303f72"), looks := true }, kinds := [], alts := [], laidByText := true, laidKinds := [.data, .data, .data, .sentinel, .sentinel], laidTests := true, laidLooks := .later }
def FnExactIsTokenUptoCardSaid : Prop := Claim7.holds Tryd.pinned (.plain (OpenSpec.upto fnExactIsTokenSpec)) fnExactIsTokenUptoCard

/-- THE SECOND FORM's CARD OF 'laws.FnExactCountWords'. -/
def fnExactCountWordsUptoCard : Claim7 := { stood := { row := fnExactCountWordsUptoRow, standIns := [], harness := (true, "ab1dd1633f01245ac277aaf65b4d168e570937730cf34affd381838e5f303f72"), looks := true }, kinds := [], alts := [], laidByText := true, laidKinds := [.data, .data, .data, .sentinel, .sentinel], laidTests := true, laidLooks := .later }
def FnExactCountWordsUptoCardSaid : Prop := Claim7.holds Tryd.pinned (.plain (OpenSpec.upto fnExactCountWordsSpec)) fnExactCountWordsUptoCard
end Rows
end Go.Proofs.YtndpgdkgjnfalaaDoor
