/-
  No cell of these rows narrows 'for every input' (looked for: loops, veiled, ifaces, maps, wideKeys, modest, calm, conditions, laid).
  DERIVED. THE GIVEN ROWS OF THIS SEAT. 4 by the template 'for every input the law returns true; each argument reads behind the call as it read before'; 0 by the template 'total and deterministic' (their statements: YtihhnafmanpjjaaTotals.lean).
  GIVEN WITH THE SEED: the statements are not yours to turn. If you find one false, say at which input.
  Laid BY PROGRAM, IN A SANDBOX (cutbox-rows.mjs): the forced cells as the released guide's own fill.sh prints them over the translation 0f1cc11b9d188c5e… (all of the seat's roots in one cut). By AI agents, Wed Nov 11 2026. No macro, syntax, notation, axiom, sorry.
-/
import Derived.Test.YtihhnafmanpjjaaChecked
import GoSem.Claim
import GoSem.ClaimJoined
import GoSem.ClaimMapViews
import Derived.JoinedTies
import Derived.KernelRfl
namespace Go.Proofs.Ytihhnafmanpjjaa
/- THE CELL 'sum', in the pinned program and in every row, IS THE sha256 OF THE DUMP (.gsa) THAT YtihhnafmanpjjaaProg.lean LOADS. Nothing in Lean hashes anything: it is a label: what it is worth is what the hold of that sum in a sandbox is worth. -/
noncomputable def Try.pinned : Pinned := { name := "ytihhnafmanpjjaa", sum := "0f1cc11b9d188c5ed55c21b4450546f257f48d2c6c7583847284d4df2ebc537d", checked := Try.checked }
namespace Rows
def none {H : Type} : Left H := { results := [], args := [] }

/-- 'laws.FnExactArgumentsOf': WHATEVER THE INPUT: true; the input reads as it did. -/
def fnExactArgumentsOfSpec : ChangeSpec := { name := "fnExactArgumentsOf", fn := fun _ => fun
  | [d] => { results := [.lit (.bool true)], args := [d] }
  | _ => none }
def fnExactArgumentsOfRow : OpenClaim := { program := "ytihhnafmanpjjaa", sum := "0f1cc11b9d188c5ed55c21b4450546f257f48d2c6c7583847284d4df2ebc537d", func := "loop.example/g00916/laws.FnExactArgumentsOf", spec := "fnExactArgumentsOf", apart := false }
def FnExactArgumentsOfSaid : Prop := fnExactArgumentsOfRow.holds Try.pinned (OpenSpec.ofChange fnExactArgumentsOfSpec)

/-- ITS FALSE NEIGHBOUR: 'it returns false'. Refute it at one input. -/
def fnExactArgumentsOfWrong : ChangeSpec := { name := "fnExactArgumentsOf", fn := fun _ => fun
  | [d] => { results := [.lit (.bool false)], args := [d] }
  | _ => none }
def FnExactArgumentsOfWrongFalsely : Prop := fnExactArgumentsOfRow.holds Try.pinned (OpenSpec.ofChange fnExactArgumentsOfWrong)

/-- 'laws.FnExactIsTraffic': WHATEVER THE INPUT: true; the input reads as it did. -/
def fnExactIsTrafficSpec : ChangeSpec := { name := "fnExactIsTraffic", fn := fun _ => fun
  | [d] => { results := [.lit (.bool true)], args := [d] }
  | _ => none }
def fnExactIsTrafficRow : OpenClaim := { program := "ytihhnafmanpjjaa", sum := "0f1cc11b9d188c5ed55c21b4450546f257f48d2c6c7583847284d4df2ebc537d", func := "loop.example/g00916/laws.FnExactIsTraffic", spec := "fnExactIsTraffic", unfollowed := true, recurses := true, apart := false }
def FnExactIsTrafficSaid : Prop := fnExactIsTrafficRow.holds Try.pinned (OpenSpec.ofChange fnExactIsTrafficSpec)

/-- ITS FALSE NEIGHBOUR: 'it returns false'. Refute it at one input. -/
def fnExactIsTrafficWrong : ChangeSpec := { name := "fnExactIsTraffic", fn := fun _ => fun
  | [d] => { results := [.lit (.bool false)], args := [d] }
  | _ => none }
def FnExactIsTrafficWrongFalsely : Prop := fnExactIsTrafficRow.holds Try.pinned (OpenSpec.ofChange fnExactIsTrafficWrong)

/-- 'laws.FnExactAreFaults': WHATEVER THE INPUT: true; the input reads as it did. -/
def fnExactAreFaultsSpec : ChangeSpec := { name := "fnExactAreFaults", fn := fun _ => fun
  | [d1, d2] => { results := [.lit (.bool true)], args := [d1, d2] }
  | _ => none }
def fnExactAreFaultsRow : OpenClaim := { program := "ytihhnafmanpjjaa", sum := "0f1cc11b9d188c5ed55c21b4450546f257f48d2c6c7583847284d4df2ebc537d", func := "loop.example/g00916/laws.FnExactAreFaults", spec := "fnExactAreFaults", unfollowed := true, recurses := true, apart := false }
def FnExactAreFaultsSaid : Prop := fnExactAreFaultsRow.holds Try.pinned (OpenSpec.ofChange fnExactAreFaultsSpec)

/-- ITS FALSE NEIGHBOUR: 'it returns false'. Refute it at one input. -/
def fnExactAreFaultsWrong : ChangeSpec := { name := "fnExactAreFaults", fn := fun _ => fun
  | [d1, d2] => { results := [.lit (.bool false)], args := [d1, d2] }
  | _ => none }
def FnExactAreFaultsWrongFalsely : Prop := fnExactAreFaultsRow.holds Try.pinned (OpenSpec.ofChange fnExactAreFaultsWrong)

/-- 'laws.FnExactLiftTime': WHATEVER THE INPUT: true; the input reads as it did. -/
def fnExactLiftTimeSpec : ChangeSpec := { name := "fnExactLiftTime", fn := fun _ => fun
  | [d] => { results := [.lit (.bool true)], args := [d] }
  | _ => none }
def fnExactLiftTimeRow : OpenClaim := { program := "ytihhnafmanpjjaa", sum := "0f1cc11b9d188c5ed55c21b4450546f257f48d2c6c7583847284d4df2ebc537d", func := "loop.example/g00916/laws.FnExactLiftTime", spec := "fnExactLiftTime", apart := false }
def FnExactLiftTimeSaid : Prop := fnExactLiftTimeRow.holds Try.pinned (OpenSpec.ofChange fnExactLiftTimeSpec)

/-- ITS FALSE NEIGHBOUR: 'it returns false'. Refute it at one input. -/
def fnExactLiftTimeWrong : ChangeSpec := { name := "fnExactLiftTime", fn := fun _ => fun
  | [d] => { results := [.lit (.bool false)], args := [d] }
  | _ => none }
def FnExactLiftTimeWrongFalsely : Prop := fnExactLiftTimeRow.holds Try.pinned (OpenSpec.ofChange fnExactLiftTimeWrong)

/- THE SECOND FORM. 'bulk': how many values and letters a reading holds, each counted each time it is reached (what is shared counts as often as it is met; a slice's spare places count too). A statement '..UptoSaid' is the law's where the arguments, and the package variables that the reading takes, are together of bulk at most 1048576: NARROWER than '..Said'. Prove '..Said' where nothing that the law and all that it calls make is longer than what came in: it says more and counts as full. Else prove '..UptoSaid'. A law counts once. -/
mutual
def uptoBulk {H : Type} : DataW H → Nat
  | .lit (.string bytes) => bytes.length + 1
  | .lit _ => 1
  | .nil => 1
  | .ptr d => uptoBulk d + 1
  | .slice elems spare => uptoBulkAll elems + uptoBulkAll spare + 1
  | .agg parts => uptoBulkAll parts + 1
  | .iface _ d => uptoBulk d + 1
  | .map entries => uptoBulkEntries entries + 1
  | .held _ => 1
def uptoBulkAll {H : Type} : List (DataW H) → Nat
  | [] => 0
  | d :: r => uptoBulk d + uptoBulkAll r
def uptoBulkEntries {H : Type} : List (Lit × DataW H) → Nat
  | [] => 0
  | x :: r => uptoBulkEntry x + uptoBulkEntries r
def uptoBulkEntry {H : Type} : Lit × DataW H → Nat
  | (.string bytes, d) => bytes.length + uptoBulk d + 1
  | (_, d) => uptoBulk d + 1
 end
def uptoSmall : (H : Type) → List (DataW H) → Bool := fun _ ds => decide (uptoBulkAll ds ≤ 1048576)
def OpenSpec.upto (s : _root_.Go.ChangeSpec) : _root_.Go.OpenSpec := { _root_.Go.OpenSpec.ofChange s with cond := some uptoSmall }

/-- 'laws.FnExactArgumentsOf', WHERE WHAT IT READS IS OF BULK AT MOST 1048576: true; the input reads as it did. -/
def fnExactArgumentsOfUptoRow : OpenClaim := { program := "ytihhnafmanpjjaa", sum := "0f1cc11b9d188c5ed55c21b4450546f257f48d2c6c7583847284d4df2ebc537d", func := "loop.example/g00916/laws.FnExactArgumentsOf", spec := "fnExactArgumentsOf", apart := false, narrowed := true }
def FnExactArgumentsOfUptoSaid : Prop := fnExactArgumentsOfUptoRow.holds Try.pinned (OpenSpec.upto fnExactArgumentsOfSpec)

/-- 'laws.FnExactIsTraffic', WHERE WHAT IT READS IS OF BULK AT MOST 1048576: true; the input reads as it did. -/
def fnExactIsTrafficUptoRow : OpenClaim := { program := "ytihhnafmanpjjaa", sum := "0f1cc11b9d188c5ed55c21b4450546f257f48d2c6c7583847284d4df2ebc537d", func := "loop.example/g00916/laws.FnExactIsTraffic", spec := "fnExactIsTraffic", unfollowed := true, recurses := true, apart := false, narrowed := true }
def FnExactIsTrafficUptoSaid : Prop := fnExactIsTrafficUptoRow.holds Try.pinned (OpenSpec.upto fnExactIsTrafficSpec)

/-- 'laws.FnExactAreFaults', WHERE WHAT IT READS IS OF BULK AT MOST 1048576: true; the input reads as it did. -/
def fnExactAreFaultsUptoRow : OpenClaim := { program := "ytihhnafmanpjjaa", sum := "0f1cc11b9d188c5ed55c21b4450546f257f48d2c6c7583847284d4df2ebc537d", func := "loop.example/g00916/laws.FnExactAreFaults", spec := "fnExactAreFaults", unfollowed := true, recurses := true, apart := false, narrowed := true }
def FnExactAreFaultsUptoSaid : Prop := fnExactAreFaultsUptoRow.holds Try.pinned (OpenSpec.upto fnExactAreFaultsSpec)

/-- 'laws.FnExactLiftTime', WHERE WHAT IT READS IS OF BULK AT MOST 1048576: true; the input reads as it did. -/
def fnExactLiftTimeUptoRow : OpenClaim := { program := "ytihhnafmanpjjaa", sum := "0f1cc11b9d188c5ed55c21b4450546f257f48d2c6c7583847284d4df2ebc537d", func := "loop.example/g00916/laws.FnExactLiftTime", spec := "fnExactLiftTime", apart := false, narrowed := true }
def FnExactLiftTimeUptoSaid : Prop := fnExactLiftTimeUptoRow.holds Try.pinned (OpenSpec.upto fnExactLiftTimeSpec)

end Rows
end Go.Proofs.Ytihhnafmanpjjaa
