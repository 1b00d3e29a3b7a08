/-
  No cell of these rows narrows 'for every input' (looked for: loops, veiled, ifaces, maps, wideKeys, modest, calm, conditions, laid).
  DERIVED. THE GIVEN ROWS OF THIS SEAT. 12 by the template 'for every input the law returns true; each argument reads behind the call as it read before'; 0 by the template 'total and deterministic' (their statements: YtdhmngmclbaieaaTotals.lean).
  GIVEN WITH THE SEED: the statements are not yours to turn. If you find one false, say at which input.
  Laid BY PROGRAM, IN A SANDBOX (cutbox-rows.mjs): the forced cells as the released guide's own fill.sh prints them over the translation 087eafb5018061ee… (all of the seat's roots in one cut). By AI agents, Wed Nov 11 2026. No macro, syntax, notation, axiom, sorry.
-/
import Derived.Test.YtdhmngmclbaieaaChecked
import GoSem.Claim
import GoSem.ClaimJoined
import GoSem.ClaimMapViews
import Derived.JoinedTies
import Derived.KernelRfl
namespace Go.Proofs.Ytdhmngmclbaieaa
/- THE CELL 'sum', in the pinned program and in every row, IS THE sha256 OF THE DUMP (.gsa) THAT YtdhmngmclbaieaaProg.lean LOADS. Nothing in Lean hashes anything: it is a label: what it is worth is what the hold of that sum in a sandbox is worth. -/
noncomputable def Try.pinned : Pinned := { name := "ytdhmngmclbaieaa", sum := "087eafb5018061ee6a57f6c9cc4e277a5c5daf193bf58a66ce870ef0651b4040", checked := Try.checked }
namespace Rows
def none {H : Type} : Left H := { results := [], args := [] }

/-- 'laws.FnExactIsTraffic': WHATEVER THE INPUT: true; the input reads as it did. -/
def fnExactIsTrafficSpec : ChangeSpec := { name := "fnExactIsTraffic", fn := fun _ => fun
  | [d] => { results := [.lit (.bool true)], args := [d] }
  | _ => none }
def fnExactIsTrafficRow : OpenClaim := { program := "ytdhmngmclbaieaa", sum := "087eafb5018061ee6a57f6c9cc4e277a5c5daf193bf58a66ce870ef0651b4040", func := "loop.example/g00916/laws.FnExactIsTraffic", spec := "fnExactIsTraffic", unfollowed := true, recurses := true, apart := false }
def FnExactIsTrafficSaid : Prop := fnExactIsTrafficRow.holds Try.pinned (OpenSpec.ofChange fnExactIsTrafficSpec)

/-- ITS FALSE NEIGHBOUR: 'it returns false'. Refute it at one input. -/
def fnExactIsTrafficWrong : ChangeSpec := { name := "fnExactIsTraffic", fn := fun _ => fun
  | [d] => { results := [.lit (.bool false)], args := [d] }
  | _ => none }
def FnExactIsTrafficWrongFalsely : Prop := fnExactIsTrafficRow.holds Try.pinned (OpenSpec.ofChange fnExactIsTrafficWrong)

/-- 'laws.FnExactAreFaults': WHATEVER THE INPUT: true; the input reads as it did. -/
def fnExactAreFaultsSpec : ChangeSpec := { name := "fnExactAreFaults", fn := fun _ => fun
  | [d1, d2] => { results := [.lit (.bool true)], args := [d1, d2] }
  | _ => none }
def fnExactAreFaultsRow : OpenClaim := { program := "ytdhmngmclbaieaa", sum := "087eafb5018061ee6a57f6c9cc4e277a5c5daf193bf58a66ce870ef0651b4040", func := "loop.example/g00916/laws.FnExactAreFaults", spec := "fnExactAreFaults", unfollowed := true, recurses := true, apart := false }
def FnExactAreFaultsSaid : Prop := fnExactAreFaultsRow.holds Try.pinned (OpenSpec.ofChange fnExactAreFaultsSpec)

/-- ITS FALSE NEIGHBOUR: 'it returns false'. Refute it at one input. -/
def fnExactAreFaultsWrong : ChangeSpec := { name := "fnExactAreFaults", fn := fun _ => fun
  | [d1, d2] => { results := [.lit (.bool false)], args := [d1, d2] }
  | _ => none }
def FnExactAreFaultsWrongFalsely : Prop := fnExactAreFaultsRow.holds Try.pinned (OpenSpec.ofChange fnExactAreFaultsWrong)

/-- 'laws.FnExactLiftTime': WHATEVER THE INPUT: true; the input reads as it did. -/
def fnExactLiftTimeSpec : ChangeSpec := { name := "fnExactLiftTime", fn := fun _ => fun
  | [d] => { results := [.lit (.bool true)], args := [d] }
  | _ => none }
def fnExactLiftTimeRow : OpenClaim := { program := "ytdhmngmclbaieaa", sum := "087eafb5018061ee6a57f6c9cc4e277a5c5daf193bf58a66ce870ef0651b4040", func := "loop.example/g00916/laws.FnExactLiftTime", spec := "fnExactLiftTime", apart := false }
def FnExactLiftTimeSaid : Prop := fnExactLiftTimeRow.holds Try.pinned (OpenSpec.ofChange fnExactLiftTimeSpec)

/-- ITS FALSE NEIGHBOUR: 'it returns false'. Refute it at one input. -/
def fnExactLiftTimeWrong : ChangeSpec := { name := "fnExactLiftTime", fn := fun _ => fun
  | [d] => { results := [.lit (.bool false)], args := [d] }
  | _ => none }
def FnExactLiftTimeWrongFalsely : Prop := fnExactLiftTimeRow.holds Try.pinned (OpenSpec.ofChange fnExactLiftTimeWrong)

/-- 'laws.FnExactLaunchForce': WHATEVER THE INPUT: true; the input reads as it did. -/
def fnExactLaunchForceSpec : ChangeSpec := { name := "fnExactLaunchForce", fn := fun _ => fun
  | [d1, d2, d3] => { results := [.lit (.bool true)], args := [d1, d2, d3] }
  | _ => none }
def fnExactLaunchForceRow : OpenClaim := { program := "ytdhmngmclbaieaa", sum := "087eafb5018061ee6a57f6c9cc4e277a5c5daf193bf58a66ce870ef0651b4040", func := "loop.example/g00916/laws.FnExactLaunchForce", spec := "fnExactLaunchForce", apart := false }
def FnExactLaunchForceSaid : Prop := fnExactLaunchForceRow.holds Try.pinned (OpenSpec.ofChange fnExactLaunchForceSpec)

/-- ITS FALSE NEIGHBOUR: 'it returns false'. Refute it at one input. -/
def fnExactLaunchForceWrong : ChangeSpec := { name := "fnExactLaunchForce", fn := fun _ => fun
  | [d1, d2, d3] => { results := [.lit (.bool false)], args := [d1, d2, d3] }
  | _ => none }
def FnExactLaunchForceWrongFalsely : Prop := fnExactLaunchForceRow.holds Try.pinned (OpenSpec.ofChange fnExactLaunchForceWrong)

/-- 'laws.FnExactTurnDistance': WHATEVER THE INPUT: true; the input reads as it did. -/
def fnExactTurnDistanceSpec : ChangeSpec := { name := "fnExactTurnDistance", fn := fun _ => fun
  | [d1, d2] => { results := [.lit (.bool true)], args := [d1, d2] }
  | _ => none }
def fnExactTurnDistanceRow : OpenClaim := { program := "ytdhmngmclbaieaa", sum := "087eafb5018061ee6a57f6c9cc4e277a5c5daf193bf58a66ce870ef0651b4040", func := "loop.example/g00916/laws.FnExactTurnDistance", spec := "fnExactTurnDistance", apart := false }
def FnExactTurnDistanceSaid : Prop := fnExactTurnDistanceRow.holds Try.pinned (OpenSpec.ofChange fnExactTurnDistanceSpec)

/-- ITS FALSE NEIGHBOUR: 'it returns false'. Refute it at one input. -/
def fnExactTurnDistanceWrong : ChangeSpec := { name := "fnExactTurnDistance", fn := fun _ => fun
  | [d1, d2] => { results := [.lit (.bool false)], args := [d1, d2] }
  | _ => none }
def FnExactTurnDistanceWrongFalsely : Prop := fnExactTurnDistanceRow.holds Try.pinned (OpenSpec.ofChange fnExactTurnDistanceWrong)

/-- 'laws.FnLaunches': WHATEVER THE INPUT: true; the input reads as it did. -/
def fnLaunchesSpec : ChangeSpec := { name := "fnLaunches", fn := fun _ => fun
  | [d] => { results := [.lit (.bool true)], args := [d] }
  | _ => none }
def fnLaunchesRow : OpenClaim := { program := "ytdhmngmclbaieaa", sum := "087eafb5018061ee6a57f6c9cc4e277a5c5daf193bf58a66ce870ef0651b4040", func := "loop.example/g00916/laws.FnLaunches", spec := "fnLaunches", apart := false }
def FnLaunchesSaid : Prop := fnLaunchesRow.holds Try.pinned (OpenSpec.ofChange fnLaunchesSpec)

/-- ITS FALSE NEIGHBOUR: 'it returns false'. Refute it at one input. -/
def fnLaunchesWrong : ChangeSpec := { name := "fnLaunches", fn := fun _ => fun
  | [d] => { results := [.lit (.bool false)], args := [d] }
  | _ => none }
def FnLaunchesWrongFalsely : Prop := fnLaunchesRow.holds Try.pinned (OpenSpec.ofChange fnLaunchesWrong)

/-- 'laws.FnTurns': WHATEVER THE INPUT: true; the input reads as it did. -/
def fnTurnsSpec : ChangeSpec := { name := "fnTurns", fn := fun _ => fun
  | [d] => { results := [.lit (.bool true)], args := [d] }
  | _ => none }
def fnTurnsRow : OpenClaim := { program := "ytdhmngmclbaieaa", sum := "087eafb5018061ee6a57f6c9cc4e277a5c5daf193bf58a66ce870ef0651b4040", func := "loop.example/g00916/laws.FnTurns", spec := "fnTurns", apart := false }
def FnTurnsSaid : Prop := fnTurnsRow.holds Try.pinned (OpenSpec.ofChange fnTurnsSpec)

/-- ITS FALSE NEIGHBOUR: 'it returns false'. Refute it at one input. -/
def fnTurnsWrong : ChangeSpec := { name := "fnTurns", fn := fun _ => fun
  | [d] => { results := [.lit (.bool false)], args := [d] }
  | _ => none }
def FnTurnsWrongFalsely : Prop := fnTurnsRow.holds Try.pinned (OpenSpec.ofChange fnTurnsWrong)

/-- 'laws.FnExactAreDevices': WHATEVER THE INPUT: true; the input reads as it did. -/
def fnExactAreDevicesSpec : ChangeSpec := { name := "fnExactAreDevices", fn := fun _ => fun
  | [d1, d2] => { results := [.lit (.bool true)], args := [d1, d2] }
  | _ => none }
def fnExactAreDevicesRow : OpenClaim := { program := "ytdhmngmclbaieaa", sum := "087eafb5018061ee6a57f6c9cc4e277a5c5daf193bf58a66ce870ef0651b4040", func := "loop.example/g00916/laws.FnExactAreDevices", spec := "fnExactAreDevices", unfollowed := true, recurses := true, apart := false }
def FnExactAreDevicesSaid : Prop := fnExactAreDevicesRow.holds Try.pinned (OpenSpec.ofChange fnExactAreDevicesSpec)

/-- ITS FALSE NEIGHBOUR: 'it returns false'. Refute it at one input. -/
def fnExactAreDevicesWrong : ChangeSpec := { name := "fnExactAreDevices", fn := fun _ => fun
  | [d1, d2] => { results := [.lit (.bool false)], args := [d1, d2] }
  | _ => none }
def FnExactAreDevicesWrongFalsely : Prop := fnExactAreDevicesRow.holds Try.pinned (OpenSpec.ofChange fnExactAreDevicesWrong)

/-- 'laws.FnExactAreTolerated': WHATEVER THE INPUT: true; the input reads as it did. -/
def fnExactAreToleratedSpec : ChangeSpec := { name := "fnExactAreTolerated", fn := fun _ => fun
  | [d1, d2] => { results := [.lit (.bool true)], args := [d1, d2] }
  | _ => none }
def fnExactAreToleratedRow : OpenClaim := { program := "ytdhmngmclbaieaa", sum := "087eafb5018061ee6a57f6c9cc4e277a5c5daf193bf58a66ce870ef0651b4040", func := "loop.example/g00916/laws.FnExactAreTolerated", spec := "fnExactAreTolerated", unfollowed := true, recurses := true, apart := false }
def FnExactAreToleratedSaid : Prop := fnExactAreToleratedRow.holds Try.pinned (OpenSpec.ofChange fnExactAreToleratedSpec)

/-- ITS FALSE NEIGHBOUR: 'it returns false'. Refute it at one input. -/
def fnExactAreToleratedWrong : ChangeSpec := { name := "fnExactAreTolerated", fn := fun _ => fun
  | [d1, d2] => { results := [.lit (.bool false)], args := [d1, d2] }
  | _ => none }
def FnExactAreToleratedWrongFalsely : Prop := fnExactAreToleratedRow.holds Try.pinned (OpenSpec.ofChange fnExactAreToleratedWrong)

/-- 'laws.FnExactDiscrepancies': WHATEVER THE INPUT: true; the input reads as it did. -/
def fnExactDiscrepanciesSpec : ChangeSpec := { name := "fnExactDiscrepancies", fn := fun _ => fun
  | [d1, d2] => { results := [.lit (.bool true)], args := [d1, d2] }
  | _ => none }
def fnExactDiscrepanciesRow : OpenClaim := { program := "ytdhmngmclbaieaa", sum := "087eafb5018061ee6a57f6c9cc4e277a5c5daf193bf58a66ce870ef0651b4040", func := "loop.example/g00916/laws.FnExactDiscrepancies", spec := "fnExactDiscrepancies", unfollowed := true, recurses := true, apart := false }
def FnExactDiscrepanciesSaid : Prop := fnExactDiscrepanciesRow.holds Try.pinned (OpenSpec.ofChange fnExactDiscrepanciesSpec)

/-- ITS FALSE NEIGHBOUR: 'it returns false'. Refute it at one input. -/
def fnExactDiscrepanciesWrong : ChangeSpec := { name := "fnExactDiscrepancies", fn := fun _ => fun
  | [d1, d2] => { results := [.lit (.bool false)], args := [d1, d2] }
  | _ => none }
def FnExactDiscrepanciesWrongFalsely : Prop := fnExactDiscrepanciesRow.holds Try.pinned (OpenSpec.ofChange fnExactDiscrepanciesWrong)

/-- 'laws.FnExactClearBlocks': WHATEVER THE INPUT: true; the input reads as it did. -/
def fnExactClearBlocksSpec : ChangeSpec := { name := "fnExactClearBlocks", fn := fun _ => fun
  | [d1, d2] => { results := [.lit (.bool true)], args := [d1, d2] }
  | _ => none }
def fnExactClearBlocksRow : OpenClaim := { program := "ytdhmngmclbaieaa", sum := "087eafb5018061ee6a57f6c9cc4e277a5c5daf193bf58a66ce870ef0651b4040", func := "loop.example/g00916/laws.FnExactClearBlocks", spec := "fnExactClearBlocks", unfollowed := true, recurses := true, apart := false }
def FnExactClearBlocksSaid : Prop := fnExactClearBlocksRow.holds Try.pinned (OpenSpec.ofChange fnExactClearBlocksSpec)

/-- ITS FALSE NEIGHBOUR: 'it returns false'. Refute it at one input. -/
def fnExactClearBlocksWrong : ChangeSpec := { name := "fnExactClearBlocks", fn := fun _ => fun
  | [d1, d2] => { results := [.lit (.bool false)], args := [d1, d2] }
  | _ => none }
def FnExactClearBlocksWrongFalsely : Prop := fnExactClearBlocksRow.holds Try.pinned (OpenSpec.ofChange fnExactClearBlocksWrong)

/-- 'laws.FnExactPermittedMoves': WHATEVER THE INPUT: true; the input reads as it did. -/
def fnExactPermittedMovesSpec : ChangeSpec := { name := "fnExactPermittedMoves", fn := fun _ => fun
  | [d1, d2] => { results := [.lit (.bool true)], args := [d1, d2] }
  | _ => none }
def fnExactPermittedMovesRow : OpenClaim := { program := "ytdhmngmclbaieaa", sum := "087eafb5018061ee6a57f6c9cc4e277a5c5daf193bf58a66ce870ef0651b4040", func := "loop.example/g00916/laws.FnExactPermittedMoves", spec := "fnExactPermittedMoves", unfollowed := true, recurses := true, apart := false }
def FnExactPermittedMovesSaid : Prop := fnExactPermittedMovesRow.holds Try.pinned (OpenSpec.ofChange fnExactPermittedMovesSpec)

/-- ITS FALSE NEIGHBOUR: 'it returns false'. Refute it at one input. -/
def fnExactPermittedMovesWrong : ChangeSpec := { name := "fnExactPermittedMoves", fn := fun _ => fun
  | [d1, d2] => { results := [.lit (.bool false)], args := [d1, d2] }
  | _ => none }
def FnExactPermittedMovesWrongFalsely : Prop := fnExactPermittedMovesRow.holds Try.pinned (OpenSpec.ofChange fnExactPermittedMovesWrong)

/- THE SECOND FORM. 'bulk': how many values and letters a reading holds, each counted each time it is reached (what is shared counts as often as it is met; a slice's spare places count too). A statement '..UptoSaid' is the law's where the arguments, and the package variables that the reading takes, are together of bulk at most 1048576: NARROWER than '..Said'. Prove '..Said' where nothing that the law and all that it calls make is longer than what came in: it says more and counts as full. Else prove '..UptoSaid'. A law counts once. -/
mutual
def uptoBulk {H : Type} : DataW H → Nat
  | .lit (.string bytes) => bytes.length + 1
  | .lit _ => 1
  | .nil => 1
  | .ptr d => uptoBulk d + 1
  | .slice elems spare => uptoBulkAll elems + uptoBulkAll spare + 1
  | .agg parts => uptoBulkAll parts + 1
  | .iface _ d => uptoBulk d + 1
  | .map entries => uptoBulkEntries entries + 1
  | .held _ => 1
def uptoBulkAll {H : Type} : List (DataW H) → Nat
  | [] => 0
  | d :: r => uptoBulk d + uptoBulkAll r
def uptoBulkEntries {H : Type} : List (Lit × DataW H) → Nat
  | [] => 0
  | x :: r => uptoBulkEntry x + uptoBulkEntries r
def uptoBulkEntry {H : Type} : Lit × DataW H → Nat
  | (.string bytes, d) => bytes.length + uptoBulk d + 1
  | (_, d) => uptoBulk d + 1
 end
def uptoSmall : (H : Type) → List (DataW H) → Bool := fun _ ds => decide (uptoBulkAll ds ≤ 1048576)
def OpenSpec.upto (s : _root_.Go.ChangeSpec) : _root_.Go.OpenSpec := { _root_.Go.OpenSpec.ofChange s with cond := some uptoSmall }

/-- 'laws.FnExactIsTraffic', WHERE WHAT IT READS IS OF BULK AT MOST 1048576: true; the input reads as it did. -/
def fnExactIsTrafficUptoRow : OpenClaim := { program := "ytdhmngmclbaieaa", sum := "087eafb5018061ee6a57f6c9cc4e277a5c5daf193bf58a66ce870ef0651b4040", func := "loop.example/g00916/laws.FnExactIsTraffic", spec := "fnExactIsTraffic", unfollowed := true, recurses := true, apart := false, narrowed := true }
def FnExactIsTrafficUptoSaid : Prop := fnExactIsTrafficUptoRow.holds Try.pinned (OpenSpec.upto fnExactIsTrafficSpec)

/-- 'laws.FnExactAreFaults', WHERE WHAT IT READS IS OF BULK AT MOST 1048576: true; the input reads as it did. -/
def fnExactAreFaultsUptoRow : OpenClaim := { program := "ytdhmngmclbaieaa", sum := "087eafb5018061ee6a57f6c9cc4e277a5c5daf193bf58a66ce870ef0651b4040", func := "loop.example/g00916/laws.FnExactAreFaults", spec := "fnExactAreFaults", unfollowed := true, recurses := true, apart := false, narrowed := true }
def FnExactAreFaultsUptoSaid : Prop := fnExactAreFaultsUptoRow.holds Try.pinned (OpenSpec.upto fnExactAreFaultsSpec)

/-- 'laws.FnExactLiftTime', WHERE WHAT IT READS IS OF BULK AT MOST 1048576: true; the input reads as it did. -/
def fnExactLiftTimeUptoRow : OpenClaim := { program := "ytdhmngmclbaieaa", sum := "087eafb5018061ee6a57f6c9cc4e277a5c5daf193bf58a66ce870ef0651b4040", func := "loop.example/g00916/laws.FnExactLiftTime", spec := "fnExactLiftTime", apart := false, narrowed := true }
def FnExactLiftTimeUptoSaid : Prop := fnExactLiftTimeUptoRow.holds Try.pinned (OpenSpec.upto fnExactLiftTimeSpec)

/-- 'laws.FnExactLaunchForce', WHERE WHAT IT READS IS OF BULK AT MOST 1048576: true; the input reads as it did. -/
def fnExactLaunchForceUptoRow : OpenClaim := { program := "ytdhmngmclbaieaa", sum := "087eafb5018061ee6a57f6c9cc4e277a5c5daf193bf58a66ce870ef0651b4040", func := "loop.example/g00916/laws.FnExactLaunchForce", spec := "fnExactLaunchForce", apart := false, narrowed := true }
def FnExactLaunchForceUptoSaid : Prop := fnExactLaunchForceUptoRow.holds Try.pinned (OpenSpec.upto fnExactLaunchForceSpec)

/-- 'laws.FnExactTurnDistance', WHERE WHAT IT READS IS OF BULK AT MOST 1048576: true; the input reads as it did. -/
def fnExactTurnDistanceUptoRow : OpenClaim := { program := "ytdhmngmclbaieaa", sum := "087eafb5018061ee6a57f6c9cc4e277a5c5daf193bf58a66ce870ef0651b4040", func := "loop.example/g00916/laws.FnExactTurnDistance", spec := "fnExactTurnDistance", apart := false, narrowed := true }
def FnExactTurnDistanceUptoSaid : Prop := fnExactTurnDistanceUptoRow.holds Try.pinned (OpenSpec.upto fnExactTurnDistanceSpec)

/-- 'laws.FnLaunches', WHERE WHAT IT READS IS OF BULK AT MOST 1048576: true; the input reads as it did. -/
def fnLaunchesUptoRow : OpenClaim := { program := "ytdhmngmclbaieaa", sum := "087eafb5018061ee6a57f6c9cc4e277a5c5daf193bf58a66ce870ef0651b4040", func := "loop.example/g00916/laws.FnLaunches", spec := "fnLaunches", apart := false, narrowed := true }
def FnLaunchesUptoSaid : Prop := fnLaunchesUptoRow.holds Try.pinned (OpenSpec.upto fnLaunchesSpec)

/-- 'laws.FnTurns', WHERE WHAT IT READS IS OF BULK AT MOST 1048576: true; the input reads as it did. -/
def fnTurnsUptoRow : OpenClaim := { program := "ytdhmngmclbaieaa", sum := "087eafb5018061ee6a57f6c9cc4e277a5c5daf193bf58a66ce870ef0651b4040", func := "loop.example/g00916/laws.FnTurns", spec := "fnTurns", apart := false, narrowed := true }
def FnTurnsUptoSaid : Prop := fnTurnsUptoRow.holds Try.pinned (OpenSpec.upto fnTurnsSpec)

/-- 'laws.FnExactAreDevices', WHERE WHAT IT READS IS OF BULK AT MOST 1048576: true; the input reads as it did. -/
def fnExactAreDevicesUptoRow : OpenClaim := { program := "ytdhmngmclbaieaa", sum := "087eafb5018061ee6a57f6c9cc4e277a5c5daf193bf58a66ce870ef0651b4040", func := "loop.example/g00916/laws.FnExactAreDevices", spec := "fnExactAreDevices", unfollowed := true, recurses := true, apart := false, narrowed := true }
def FnExactAreDevicesUptoSaid : Prop := fnExactAreDevicesUptoRow.holds Try.pinned (OpenSpec.upto fnExactAreDevicesSpec)

/-- 'laws.FnExactAreTolerated', WHERE WHAT IT READS IS OF BULK AT MOST 1048576: true; the input reads as it did. -/
def fnExactAreToleratedUptoRow : OpenClaim := { program := "ytdhmngmclbaieaa", sum := "087eafb5018061ee6a57f6c9cc4e277a5c5daf193bf58a66ce870ef0651b4040", func := "loop.example/g00916/laws.FnExactAreTolerated", spec := "fnExactAreTolerated", unfollowed := true, recurses := true, apart := false, narrowed := true }
def FnExactAreToleratedUptoSaid : Prop := fnExactAreToleratedUptoRow.holds Try.pinned (OpenSpec.upto fnExactAreToleratedSpec)

/-- 'laws.FnExactDiscrepancies', WHERE WHAT IT READS IS OF BULK AT MOST 1048576: true; the input reads as it did. -/
def fnExactDiscrepanciesUptoRow : OpenClaim := { program := "ytdhmngmclbaieaa", sum := "087eafb5018061ee6a57f6c9cc4e277a5c5daf193bf58a66ce870ef0651b4040", func := "loop.example/g00916/laws.FnExactDiscrepancies", spec := "fnExactDiscrepancies", unfollowed := true, recurses := true, apart := false, narrowed := true }
def FnExactDiscrepanciesUptoSaid : Prop := fnExactDiscrepanciesUptoRow.holds Try.pinned (OpenSpec.upto fnExactDiscrepanciesSpec)

/-- 'laws.FnExactClearBlocks', WHERE WHAT IT READS IS OF BULK AT MOST 1048576: true; the input reads as it did. -/
def fnExactClearBlocksUptoRow : OpenClaim := { program := "ytdhmngmclbaieaa", sum := "087eafb5018061ee6a57f6c9cc4e277a5c5daf193bf58a66ce870ef0651b4040", func := "loop.example/g00916/laws.FnExactClearBlocks", spec := "fnExactClearBlocks", unfollowed := true, recurses := true, apart := false, narrowed := true }
def FnExactClearBlocksUptoSaid : Prop := fnExactClearBlocksUptoRow.holds Try.pinned (OpenSpec.upto fnExactClearBlocksSpec)

/-- 'laws.FnExactPermittedMoves', WHERE WHAT IT READS IS OF BULK AT MOST 1048576: true; the input reads as it did. -/
def fnExactPermittedMovesUptoRow : OpenClaim := { program := "ytdhmngmclbaieaa", sum := "087eafb5018061ee6a57f6c9cc4e277a5c5daf193bf58a66ce870ef0651b4040", func := "loop.example/g00916/laws.FnExactPermittedMoves", spec := "fnExactPermittedMoves", unfollowed := true, recurses := true, apart := false, narrowed := true }
def FnExactPermittedMovesUptoSaid : Prop := fnExactPermittedMovesUptoRow.holds Try.pinned (OpenSpec.upto fnExactPermittedMovesSpec)

end Rows
end Go.Proofs.Ytdhmngmclbaieaa
