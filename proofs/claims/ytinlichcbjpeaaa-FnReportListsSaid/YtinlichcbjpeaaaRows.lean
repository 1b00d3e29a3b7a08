/-
  No cell of these rows narrows 'for every input' (looked for: loops, veiled, ifaces, maps, wideKeys, modest, calm, conditions, laid).
  DERIVED. THE GIVEN ROWS OF THIS SEAT. 8 by the template 'for every input the law returns true; each argument reads behind the call as it read before'; 0 by the template 'total and deterministic' (their statements: YtinlichcbjpeaaaTotals.lean).
  GIVEN WITH THE SEED: the statements are not yours to turn. If you find one false, say at which input.
  Laid BY PROGRAM, IN A SANDBOX (cutbox-rows.mjs): the forced cells as the released guide's own fill.sh prints them over the translation 7c34ab907b1cc69a… (all of the seat's roots in one cut). By AI agents, Wed Nov 11 2026. No macro, syntax, notation, axiom, sorry.
-/
import Derived.Test.YtinlichcbjpeaaaChecked
import GoSem.Claim
import GoSem.ClaimJoined
import GoSem.ClaimMapViews
import Derived.JoinedTies
import Derived.KernelRfl
namespace Go.Proofs.Ytinlichcbjpeaaa
/- THE CELL 'sum', in the pinned program and in every row, IS THE sha256 OF THE DUMP (.gsa) THAT YtinlichcbjpeaaaProg.lean LOADS. Nothing in Lean hashes anything: it is a label: what it is worth is what the hold of that sum in a sandbox is worth. -/
noncomputable def Try.pinned : Pinned := { name := "ytinlichcbjpeaaa", sum := "7c34ab907b1cc69a8ac6fec87138a36f907ad0d78280d6671d3f1e904bac7f49", checked := Try.checked }
namespace Rows
def none {H : Type} : Left H := { results := [], args := [] }

/-- 'laws.FnReportLists': WHATEVER THE INPUT: true; the input reads as it did. -/
def fnReportListsSpec : ChangeSpec := { name := "fnReportLists", fn := fun _ => fun
  | [d] => { results := [.lit (.bool true)], args := [d] }
  | _ => none }
def fnReportListsRow : OpenClaim := { program := "ytinlichcbjpeaaa", sum := "7c34ab907b1cc69a8ac6fec87138a36f907ad0d78280d6671d3f1e904bac7f49", func := "loop.example/g00916/laws.FnReportLists", spec := "fnReportLists", unfollowed := true, recurses := true, apart := false }
def FnReportListsSaid : Prop := fnReportListsRow.holds Try.pinned (OpenSpec.ofChange fnReportListsSpec)

/-- ITS FALSE NEIGHBOUR: 'it returns false'. Refute it at one input. -/
def fnReportListsWrong : ChangeSpec := { name := "fnReportLists", fn := fun _ => fun
  | [d] => { results := [.lit (.bool false)], args := [d] }
  | _ => none }
def FnReportListsWrongFalsely : Prop := fnReportListsRow.holds Try.pinned (OpenSpec.ofChange fnReportListsWrong)

/-- 'laws.FnExactIsSafeTraffic': WHATEVER THE INPUT: true; the input reads as it did. -/
def fnExactIsSafeTrafficSpec : ChangeSpec := { name := "fnExactIsSafeTraffic", fn := fun _ => fun
  | [d] => { results := [.lit (.bool true)], args := [d] }
  | _ => none }
def fnExactIsSafeTrafficRow : OpenClaim := { program := "ytinlichcbjpeaaa", sum := "7c34ab907b1cc69a8ac6fec87138a36f907ad0d78280d6671d3f1e904bac7f49", func := "loop.example/g00916/laws.FnExactIsSafeTraffic", spec := "fnExactIsSafeTraffic", unfollowed := true, recurses := true, apart := false }
def FnExactIsSafeTrafficSaid : Prop := fnExactIsSafeTrafficRow.holds Try.pinned (OpenSpec.ofChange fnExactIsSafeTrafficSpec)

/-- ITS FALSE NEIGHBOUR: 'it returns false'. Refute it at one input. -/
def fnExactIsSafeTrafficWrong : ChangeSpec := { name := "fnExactIsSafeTraffic", fn := fun _ => fun
  | [d] => { results := [.lit (.bool false)], args := [d] }
  | _ => none }
def FnExactIsSafeTrafficWrongFalsely : Prop := fnExactIsSafeTrafficRow.holds Try.pinned (OpenSpec.ofChange fnExactIsSafeTrafficWrong)

/-- 'laws.FnExactUsedBlocks': WHATEVER THE INPUT: true; the input reads as it did. -/
def fnExactUsedBlocksSpec : ChangeSpec := { name := "fnExactUsedBlocks", fn := fun _ => fun
  | [d1, d2] => { results := [.lit (.bool true)], args := [d1, d2] }
  | _ => none }
def fnExactUsedBlocksRow : OpenClaim := { program := "ytinlichcbjpeaaa", sum := "7c34ab907b1cc69a8ac6fec87138a36f907ad0d78280d6671d3f1e904bac7f49", func := "loop.example/g00916/laws.FnExactUsedBlocks", spec := "fnExactUsedBlocks", unfollowed := true, recurses := true, apart := false }
def FnExactUsedBlocksSaid : Prop := fnExactUsedBlocksRow.holds Try.pinned (OpenSpec.ofChange fnExactUsedBlocksSpec)

/-- ITS FALSE NEIGHBOUR: 'it returns false'. Refute it at one input. -/
def fnExactUsedBlocksWrong : ChangeSpec := { name := "fnExactUsedBlocks", fn := fun _ => fun
  | [d1, d2] => { results := [.lit (.bool false)], args := [d1, d2] }
  | _ => none }
def FnExactUsedBlocksWrongFalsely : Prop := fnExactUsedBlocksRow.holds Try.pinned (OpenSpec.ofChange fnExactUsedBlocksWrong)

/-- 'laws.FnExactUsesOfBlocks': WHATEVER THE INPUT: true; the input reads as it did. -/
def fnExactUsesOfBlocksSpec : ChangeSpec := { name := "fnExactUsesOfBlocks", fn := fun _ => fun
  | [d] => { results := [.lit (.bool true)], args := [d] }
  | _ => none }
def fnExactUsesOfBlocksRow : OpenClaim := { program := "ytinlichcbjpeaaa", sum := "7c34ab907b1cc69a8ac6fec87138a36f907ad0d78280d6671d3f1e904bac7f49", func := "loop.example/g00916/laws.FnExactUsesOfBlocks", spec := "fnExactUsesOfBlocks", unfollowed := true, recurses := true, apart := false }
def FnExactUsesOfBlocksSaid : Prop := fnExactUsesOfBlocksRow.holds Try.pinned (OpenSpec.ofChange fnExactUsesOfBlocksSpec)

/-- ITS FALSE NEIGHBOUR: 'it returns false'. Refute it at one input. -/
def fnExactUsesOfBlocksWrong : ChangeSpec := { name := "fnExactUsesOfBlocks", fn := fun _ => fun
  | [d] => { results := [.lit (.bool false)], args := [d] }
  | _ => none }
def FnExactUsesOfBlocksWrongFalsely : Prop := fnExactUsesOfBlocksRow.holds Try.pinned (OpenSpec.ofChange fnExactUsesOfBlocksWrong)

/-- 'laws.FnTrafficUses': WHATEVER THE INPUT: true; the input reads as it did. -/
def fnTrafficUsesSpec : ChangeSpec := { name := "fnTrafficUses", fn := fun _ => fun
  | [d] => { results := [.lit (.bool true)], args := [d] }
  | _ => none }
def fnTrafficUsesRow : OpenClaim := { program := "ytinlichcbjpeaaa", sum := "7c34ab907b1cc69a8ac6fec87138a36f907ad0d78280d6671d3f1e904bac7f49", func := "loop.example/g00916/laws.FnTrafficUses", spec := "fnTrafficUses", unfollowed := true, recurses := true, apart := false }
def FnTrafficUsesSaid : Prop := fnTrafficUsesRow.holds Try.pinned (OpenSpec.ofChange fnTrafficUsesSpec)

/-- ITS FALSE NEIGHBOUR: 'it returns false'. Refute it at one input. -/
def fnTrafficUsesWrong : ChangeSpec := { name := "fnTrafficUses", fn := fun _ => fun
  | [d] => { results := [.lit (.bool false)], args := [d] }
  | _ => none }
def FnTrafficUsesWrongFalsely : Prop := fnTrafficUsesRow.holds Try.pinned (OpenSpec.ofChange fnTrafficUsesWrong)

/-- 'laws.FnExactBrakesIn': WHATEVER THE INPUT: true; the input reads as it did. -/
def fnExactBrakesInSpec : ChangeSpec := { name := "fnExactBrakesIn", fn := fun _ => fun
  | [d1, d2, d3] => { results := [.lit (.bool true)], args := [d1, d2, d3] }
  | _ => none }
def fnExactBrakesInRow : OpenClaim := { program := "ytinlichcbjpeaaa", sum := "7c34ab907b1cc69a8ac6fec87138a36f907ad0d78280d6671d3f1e904bac7f49", func := "loop.example/g00916/laws.FnExactBrakesIn", spec := "fnExactBrakesIn", recurses := true, apart := false }
def FnExactBrakesInSaid : Prop := fnExactBrakesInRow.holds Try.pinned (OpenSpec.ofChange fnExactBrakesInSpec)

/-- ITS FALSE NEIGHBOUR: 'it returns false'. Refute it at one input. -/
def fnExactBrakesInWrong : ChangeSpec := { name := "fnExactBrakesIn", fn := fun _ => fun
  | [d1, d2, d3] => { results := [.lit (.bool false)], args := [d1, d2, d3] }
  | _ => none }
def FnExactBrakesInWrongFalsely : Prop := fnExactBrakesInRow.holds Try.pinned (OpenSpec.ofChange fnExactBrakesInWrong)

/-- 'laws.FnExactReportOf': WHATEVER THE INPUT: true; the input reads as it did. -/
def fnExactReportOfSpec : ChangeSpec := { name := "fnExactReportOf", fn := fun _ => fun
  | [d1, d2] => { results := [.lit (.bool true)], args := [d1, d2] }
  | _ => none }
def fnExactReportOfRow : OpenClaim := { program := "ytinlichcbjpeaaa", sum := "7c34ab907b1cc69a8ac6fec87138a36f907ad0d78280d6671d3f1e904bac7f49", func := "loop.example/g00916/laws.FnExactReportOf", spec := "fnExactReportOf", unfollowed := true, recurses := true, apart := false }
def FnExactReportOfSaid : Prop := fnExactReportOfRow.holds Try.pinned (OpenSpec.ofChange fnExactReportOfSpec)

/-- ITS FALSE NEIGHBOUR: 'it returns false'. Refute it at one input. -/
def fnExactReportOfWrong : ChangeSpec := { name := "fnExactReportOf", fn := fun _ => fun
  | [d1, d2] => { results := [.lit (.bool false)], args := [d1, d2] }
  | _ => none }
def FnExactReportOfWrongFalsely : Prop := fnExactReportOfRow.holds Try.pinned (OpenSpec.ofChange fnExactReportOfWrong)

/-- 'laws.FnReports': WHATEVER THE INPUT: true; the input reads as it did. -/
def fnReportsSpec : ChangeSpec := { name := "fnReports", fn := fun _ => fun
  | [d] => { results := [.lit (.bool true)], args := [d] }
  | _ => none }
def fnReportsRow : OpenClaim := { program := "ytinlichcbjpeaaa", sum := "7c34ab907b1cc69a8ac6fec87138a36f907ad0d78280d6671d3f1e904bac7f49", func := "loop.example/g00916/laws.FnReports", spec := "fnReports", unfollowed := true, recurses := true, apart := false }
def FnReportsSaid : Prop := fnReportsRow.holds Try.pinned (OpenSpec.ofChange fnReportsSpec)

/-- ITS FALSE NEIGHBOUR: 'it returns false'. Refute it at one input. -/
def fnReportsWrong : ChangeSpec := { name := "fnReports", fn := fun _ => fun
  | [d] => { results := [.lit (.bool false)], args := [d] }
  | _ => none }
def FnReportsWrongFalsely : Prop := fnReportsRow.holds Try.pinned (OpenSpec.ofChange fnReportsWrong)

/- THE SECOND FORM. 'bulk': how many values and letters a reading holds, each counted each time it is reached (what is shared counts as often as it is met; a slice's spare places count too). A statement '..UptoSaid' is the law's where the arguments, and the package variables that the reading takes, are together of bulk at most 1048576: NARROWER than '..Said'. Prove '..Said' where nothing that the law and all that it calls make is longer than what came in: it says more and counts as full. Else prove '..UptoSaid'. A law counts once. -/
mutual
def uptoBulk {H : Type} : DataW H → Nat
  | .lit (.string bytes) => bytes.length + 1
  | .lit _ => 1
  | .nil => 1
  | .ptr d => uptoBulk d + 1
  | .slice elems spare => uptoBulkAll elems + uptoBulkAll spare + 1
  | .agg parts => uptoBulkAll parts + 1
  | .iface _ d => uptoBulk d + 1
  | .map entries => uptoBulkEntries entries + 1
  | .held _ => 1
def uptoBulkAll {H : Type} : List (DataW H) → Nat
  | [] => 0
  | d :: r => uptoBulk d + uptoBulkAll r
def uptoBulkEntries {H : Type} : List (Lit × DataW H) → Nat
  | [] => 0
  | x :: r => uptoBulkEntry x + uptoBulkEntries r
def uptoBulkEntry {H : Type} : Lit × DataW H → Nat
  | (.string bytes, d) => bytes.length + uptoBulk d + 1
  | (_, d) => uptoBulk d + 1
 end
def uptoSmall : (H : Type) → List (DataW H) → Bool := fun _ ds => decide (uptoBulkAll ds ≤ 1048576)
def OpenSpec.upto (s : _root_.Go.ChangeSpec) : _root_.Go.OpenSpec := { _root_.Go.OpenSpec.ofChange s with cond := some uptoSmall }

/-- 'laws.FnReportLists', WHERE WHAT IT READS IS OF BULK AT MOST 1048576: true; the input reads as it did. -/
def fnReportListsUptoRow : OpenClaim := { program := "ytinlichcbjpeaaa", sum := "7c34ab907b1cc69a8ac6fec87138a36f907ad0d78280d6671d3f1e904bac7f49", func := "loop.example/g00916/laws.FnReportLists", spec := "fnReportLists", unfollowed := true, recurses := true, apart := false, narrowed := true }
def FnReportListsUptoSaid : Prop := fnReportListsUptoRow.holds Try.pinned (OpenSpec.upto fnReportListsSpec)

/-- 'laws.FnExactIsSafeTraffic', WHERE WHAT IT READS IS OF BULK AT MOST 1048576: true; the input reads as it did. -/
def fnExactIsSafeTrafficUptoRow : OpenClaim := { program := "ytinlichcbjpeaaa", sum := "7c34ab907b1cc69a8ac6fec87138a36f907ad0d78280d6671d3f1e904bac7f49", func := "loop.example/g00916/laws.FnExactIsSafeTraffic", spec := "fnExactIsSafeTraffic", unfollowed := true, recurses := true, apart := false, narrowed := true }
def FnExactIsSafeTrafficUptoSaid : Prop := fnExactIsSafeTrafficUptoRow.holds Try.pinned (OpenSpec.upto fnExactIsSafeTrafficSpec)

/-- 'laws.FnExactUsedBlocks', WHERE WHAT IT READS IS OF BULK AT MOST 1048576: true; the input reads as it did. -/
def fnExactUsedBlocksUptoRow : OpenClaim := { program := "ytinlichcbjpeaaa", sum := "7c34ab907b1cc69a8ac6fec87138a36f907ad0d78280d6671d3f1e904bac7f49", func := "loop.example/g00916/laws.FnExactUsedBlocks", spec := "fnExactUsedBlocks", unfollowed := true, recurses := true, apart := false, narrowed := true }
def FnExactUsedBlocksUptoSaid : Prop := fnExactUsedBlocksUptoRow.holds Try.pinned (OpenSpec.upto fnExactUsedBlocksSpec)

/-- 'laws.FnExactUsesOfBlocks', WHERE WHAT IT READS IS OF BULK AT MOST 1048576: true; the input reads as it did. -/
def fnExactUsesOfBlocksUptoRow : OpenClaim := { program := "ytinlichcbjpeaaa", sum := "7c34ab907b1cc69a8ac6fec87138a36f907ad0d78280d6671d3f1e904bac7f49", func := "loop.example/g00916/laws.FnExactUsesOfBlocks", spec := "fnExactUsesOfBlocks", unfollowed := true, recurses := true, apart := false, narrowed := true }
def FnExactUsesOfBlocksUptoSaid : Prop := fnExactUsesOfBlocksUptoRow.holds Try.pinned (OpenSpec.upto fnExactUsesOfBlocksSpec)

/-- 'laws.FnTrafficUses', WHERE WHAT IT READS IS OF BULK AT MOST 1048576: true; the input reads as it did. -/
def fnTrafficUsesUptoRow : OpenClaim := { program := "ytinlichcbjpeaaa", sum := "7c34ab907b1cc69a8ac6fec87138a36f907ad0d78280d6671d3f1e904bac7f49", func := "loop.example/g00916/laws.FnTrafficUses", spec := "fnTrafficUses", unfollowed := true, recurses := true, apart := false, narrowed := true }
def FnTrafficUsesUptoSaid : Prop := fnTrafficUsesUptoRow.holds Try.pinned (OpenSpec.upto fnTrafficUsesSpec)

/-- 'laws.FnExactBrakesIn', WHERE WHAT IT READS IS OF BULK AT MOST 1048576: true; the input reads as it did. -/
def fnExactBrakesInUptoRow : OpenClaim := { program := "ytinlichcbjpeaaa", sum := "7c34ab907b1cc69a8ac6fec87138a36f907ad0d78280d6671d3f1e904bac7f49", func := "loop.example/g00916/laws.FnExactBrakesIn", spec := "fnExactBrakesIn", recurses := true, apart := false, narrowed := true }
def FnExactBrakesInUptoSaid : Prop := fnExactBrakesInUptoRow.holds Try.pinned (OpenSpec.upto fnExactBrakesInSpec)

/-- 'laws.FnExactReportOf', WHERE WHAT IT READS IS OF BULK AT MOST 1048576: true; the input reads as it did. -/
def fnExactReportOfUptoRow : OpenClaim := { program := "ytinlichcbjpeaaa", sum := "7c34ab907b1cc69a8ac6fec87138a36f907ad0d78280d6671d3f1e904bac7f49", func := "loop.example/g00916/laws.FnExactReportOf", spec := "fnExactReportOf", unfollowed := true, recurses := true, apart := false, narrowed := true }
def FnExactReportOfUptoSaid : Prop := fnExactReportOfUptoRow.holds Try.pinned (OpenSpec.upto fnExactReportOfSpec)

/-- 'laws.FnReports', WHERE WHAT IT READS IS OF BULK AT MOST 1048576: true; the input reads as it did. -/
def fnReportsUptoRow : OpenClaim := { program := "ytinlichcbjpeaaa", sum := "7c34ab907b1cc69a8ac6fec87138a36f907ad0d78280d6671d3f1e904bac7f49", func := "loop.example/g00916/laws.FnReports", spec := "fnReports", unfollowed := true, recurses := true, apart := false, narrowed := true }
def FnReportsUptoSaid : Prop := fnReportsUptoRow.holds Try.pinned (OpenSpec.upto fnReportsSpec)

end Rows
end Go.Proofs.Ytinlichcbjpeaaa
