/-
  NARROWER THAN 'FOR EVERY INPUT', by the rows' own cells (each row's printed sentence says how): FnExactIsKeyword: laid · FnExactIsBlock: laid · FnExactIsPossible: laid · FnExactIsFaulty: laid · FnExactIsExpression: laid · FnExactHeightOf: laid · FnExactIsCode: laid · FnExactCountSteps: laid · FnExactStackHeights: laid · FnExactIsMachine: laid · FnExactLeftOf: laid · FnExactImproveCode: laid.
  DERIVED. THE GIVEN ROWS OF THIS SEAT. 12 by the template 'for every input the law returns true; each argument reads behind the call as it read before'; 0 by the template 'total and deterministic' (their statements: YtlplkkfdkpdbfaaDoorTotals.lean).
  GIVEN WITH THE SEED: the statements are not yours to turn. If you find one false, say at which input.
  Laid BY PROGRAM, IN A SANDBOX (cutbox-rows.mjs): the forced cells as the released guide's own fill.sh prints them over the translation 6eff63dd37d1e824… (all of the seat's roots in one cut). By AI agents, Wed Nov 11 2026. No macro, syntax, notation, axiom, sorry.
-/
import Derived.Test.YtlplkkfdkpdbfaaDoorChecked
import GoSem.Claim
import GoSem.ClaimJoined
import GoSem.ClaimMapViews
import Derived.JoinedTies
import Derived.KernelRfl
namespace Go.Proofs.YtlplkkfdkpdbfaaDoor
/- THE CELL 'sum', in the pinned program and in every row, IS THE sha256 OF THE DUMP (.gsa) THAT YtlplkkfdkpdbfaaDoorProg.lean LOADS. Nothing in Lean hashes anything: it is a label: what it is worth is what the hold of that sum in a sandbox is worth. -/
noncomputable def Tryd.pinned : Pinned := { name := "ytlplkkfdkpdbfaadoor", sum := "6eff63dd37d1e824046a36e497eadcf923fb6987ba3ab906f1d5d1101004b457", checked := Tryd.checked }
namespace Rows
def none {H : Type} : Left H := { results := [], args := [] }

/- WHAT THE LISTED PACKAGE-LEVEL VARIABLES READ AS WHEN THE CALL BEGINS. Each datum BY PROGRAM (the guide's laid-datum.mjs) off the statement by which the dump's own 'gosem.cut.vars' lays the variable. In a bare row this is a premise. The card (YtlplkkfdkpdbfaaDoorCards.lean) ties it to the program's text. -/
def laid_loop_example_g00916_impl_keywords {H : Type} : DataW H := .agg [.lit (.string [112, 114, 111, 103, 114, 97, 109]), .lit (.string [105, 110]), .lit (.string [118, 97, 114]), .lit (.string [111, 117, 116]), .lit (.string [103, 117, 97, 114, 100]), .lit (.string [101, 110, 100]), .lit (.string [97, 110, 100]), .lit (.string [111, 114]), .lit (.string [110, 111, 116]), .lit (.string [116, 114, 117, 101]), .lit (.string [102, 97, 108, 115, 101]), .lit (.string [111, 110]), .lit (.string [111, 102, 102]), .lit (.string [114, 105, 115, 101]), .lit (.string [108, 97, 116, 99, 104]), .lit (.string [99, 111, 117, 110, 116]), .lit (.string [112, 97, 105, 114])]

/-- 'laws.FnExactIsKeyword': WHATEVER THE INPUT: true; the input reads as it did. -/
def fnExactIsKeywordSpec : ChangeSpec := { name := "fnExactIsKeyword", vars := ["loop.example/g00916/impl.keywords"], fn := fun _ => fun
  | [d, g1] => { results := [.lit (.bool true)], args := [d], vars := [g1] }
  | _ => none }
def fnExactIsKeywordRow : OpenClaim := { program := "ytlplkkfdkpdbfaadoor", sum := "6eff63dd37d1e824046a36e497eadcf923fb6987ba3ab906f1d5d1101004b457", func := "loop.example/g00916/laws.FnExactIsKeyword", spec := "fnExactIsKeyword", named := ["loop.example/g00916/impl.keywords"], apart := false, laid := [("loop.example/g00916/impl.keywords", laid_loop_example_g00916_impl_keywords)] }
def FnExactIsKeywordSaid : Prop := fnExactIsKeywordRow.holds Tryd.pinned (OpenSpec.ofChange fnExactIsKeywordSpec)

/-- ITS FALSE NEIGHBOUR: 'it returns false'. Refute it at one input. -/
def fnExactIsKeywordWrong : ChangeSpec := { name := "fnExactIsKeyword", vars := ["loop.example/g00916/impl.keywords"], fn := fun _ => fun
  | [d, g1] => { results := [.lit (.bool false)], args := [d], vars := [g1] }
  | _ => none }
def FnExactIsKeywordWrongFalsely : Prop := fnExactIsKeywordRow.holds Tryd.pinned (OpenSpec.ofChange fnExactIsKeywordWrong)

/-- 'laws.FnExactIsBlock': WHATEVER THE INPUT: true; the input reads as it did. -/
def fnExactIsBlockSpec : ChangeSpec := { name := "fnExactIsBlock", vars := ["loop.example/g00916/impl.keywords"], fn := fun _ => fun
  | [d, g1] => { results := [.lit (.bool true)], args := [d], vars := [g1] }
  | _ => none }
def fnExactIsBlockRow : OpenClaim := { program := "ytlplkkfdkpdbfaadoor", sum := "6eff63dd37d1e824046a36e497eadcf923fb6987ba3ab906f1d5d1101004b457", func := "loop.example/g00916/laws.FnExactIsBlock", spec := "fnExactIsBlock", inPlace := ["internal/bytealg.IndexByteString"], named := ["loop.example/g00916/impl.keywords"], apart := false, laid := [("loop.example/g00916/impl.keywords", laid_loop_example_g00916_impl_keywords)] }
def FnExactIsBlockSaid : Prop := fnExactIsBlockRow.holds Tryd.pinned (OpenSpec.ofChange fnExactIsBlockSpec)

/-- ITS FALSE NEIGHBOUR: 'it returns false'. Refute it at one input. -/
def fnExactIsBlockWrong : ChangeSpec := { name := "fnExactIsBlock", vars := ["loop.example/g00916/impl.keywords"], fn := fun _ => fun
  | [d, g1] => { results := [.lit (.bool false)], args := [d], vars := [g1] }
  | _ => none }
def FnExactIsBlockWrongFalsely : Prop := fnExactIsBlockRow.holds Tryd.pinned (OpenSpec.ofChange fnExactIsBlockWrong)

/-- 'laws.FnExactIsPossible': WHATEVER THE INPUT: true; the input reads as it did. -/
def fnExactIsPossibleSpec : ChangeSpec := { name := "fnExactIsPossible", vars := ["loop.example/g00916/impl.keywords"], fn := fun _ => fun
  | [d1, d2, g1] => { results := [.lit (.bool true)], args := [d1, d2], vars := [g1] }
  | _ => none }
def fnExactIsPossibleRow : OpenClaim := { program := "ytlplkkfdkpdbfaadoor", sum := "6eff63dd37d1e824046a36e497eadcf923fb6987ba3ab906f1d5d1101004b457", func := "loop.example/g00916/laws.FnExactIsPossible", spec := "fnExactIsPossible", inPlace := ["internal/bytealg.IndexByteString"], named := ["loop.example/g00916/impl.keywords"], apart := false, laid := [("loop.example/g00916/impl.keywords", laid_loop_example_g00916_impl_keywords)] }
def FnExactIsPossibleSaid : Prop := fnExactIsPossibleRow.holds Tryd.pinned (OpenSpec.ofChange fnExactIsPossibleSpec)

/-- ITS FALSE NEIGHBOUR: 'it returns false'. Refute it at one input. -/
def fnExactIsPossibleWrong : ChangeSpec := { name := "fnExactIsPossible", vars := ["loop.example/g00916/impl.keywords"], fn := fun _ => fun
  | [d1, d2, g1] => { results := [.lit (.bool false)], args := [d1, d2], vars := [g1] }
  | _ => none }
def FnExactIsPossibleWrongFalsely : Prop := fnExactIsPossibleRow.holds Tryd.pinned (OpenSpec.ofChange fnExactIsPossibleWrong)

/-- 'laws.FnExactIsFaulty': WHATEVER THE INPUT: true; the input reads as it did. -/
def fnExactIsFaultySpec : ChangeSpec := { name := "fnExactIsFaulty", vars := ["loop.example/g00916/impl.keywords"], fn := fun _ => fun
  | [d1, d2, g1] => { results := [.lit (.bool true)], args := [d1, d2], vars := [g1] }
  | _ => none }
def fnExactIsFaultyRow : OpenClaim := { program := "ytlplkkfdkpdbfaadoor", sum := "6eff63dd37d1e824046a36e497eadcf923fb6987ba3ab906f1d5d1101004b457", func := "loop.example/g00916/laws.FnExactIsFaulty", spec := "fnExactIsFaulty", inPlace := ["internal/bytealg.IndexByteString"], unfollowed := true, recurses := true, named := ["loop.example/g00916/impl.keywords"], apart := false, laid := [("loop.example/g00916/impl.keywords", laid_loop_example_g00916_impl_keywords)] }
def FnExactIsFaultySaid : Prop := fnExactIsFaultyRow.holds Tryd.pinned (OpenSpec.ofChange fnExactIsFaultySpec)

/-- ITS FALSE NEIGHBOUR: 'it returns false'. Refute it at one input. -/
def fnExactIsFaultyWrong : ChangeSpec := { name := "fnExactIsFaulty", vars := ["loop.example/g00916/impl.keywords"], fn := fun _ => fun
  | [d1, d2, g1] => { results := [.lit (.bool false)], args := [d1, d2], vars := [g1] }
  | _ => none }
def FnExactIsFaultyWrongFalsely : Prop := fnExactIsFaultyRow.holds Tryd.pinned (OpenSpec.ofChange fnExactIsFaultyWrong)

/-- 'laws.FnExactIsExpression': WHATEVER THE INPUT: true; the input reads as it did. -/
def fnExactIsExpressionSpec : ChangeSpec := { name := "fnExactIsExpression", vars := ["loop.example/g00916/impl.keywords"], fn := fun _ => fun
  | [d, g1] => { results := [.lit (.bool true)], args := [d], vars := [g1] }
  | _ => none }
def fnExactIsExpressionRow : OpenClaim := { program := "ytlplkkfdkpdbfaadoor", sum := "6eff63dd37d1e824046a36e497eadcf923fb6987ba3ab906f1d5d1101004b457", func := "loop.example/g00916/laws.FnExactIsExpression", spec := "fnExactIsExpression", inPlace := ["internal/bytealg.IndexByteString"], named := ["loop.example/g00916/impl.keywords"], apart := false, laid := [("loop.example/g00916/impl.keywords", laid_loop_example_g00916_impl_keywords)] }
def FnExactIsExpressionSaid : Prop := fnExactIsExpressionRow.holds Tryd.pinned (OpenSpec.ofChange fnExactIsExpressionSpec)

/-- ITS FALSE NEIGHBOUR: 'it returns false'. Refute it at one input. -/
def fnExactIsExpressionWrong : ChangeSpec := { name := "fnExactIsExpression", vars := ["loop.example/g00916/impl.keywords"], fn := fun _ => fun
  | [d, g1] => { results := [.lit (.bool false)], args := [d], vars := [g1] }
  | _ => none }
def FnExactIsExpressionWrongFalsely : Prop := fnExactIsExpressionRow.holds Tryd.pinned (OpenSpec.ofChange fnExactIsExpressionWrong)

/-- 'laws.FnExactHeightOf': WHATEVER THE INPUT: true; the input reads as it did. -/
def fnExactHeightOfSpec : ChangeSpec := { name := "fnExactHeightOf", vars := ["loop.example/g00916/impl.keywords"], fn := fun _ => fun
  | [d, g1] => { results := [.lit (.bool true)], args := [d], vars := [g1] }
  | _ => none }
def fnExactHeightOfRow : OpenClaim := { program := "ytlplkkfdkpdbfaadoor", sum := "6eff63dd37d1e824046a36e497eadcf923fb6987ba3ab906f1d5d1101004b457", func := "loop.example/g00916/laws.FnExactHeightOf", spec := "fnExactHeightOf", inPlace := ["internal/bytealg.IndexByteString"], named := ["loop.example/g00916/impl.keywords"], apart := false, laid := [("loop.example/g00916/impl.keywords", laid_loop_example_g00916_impl_keywords)] }
def FnExactHeightOfSaid : Prop := fnExactHeightOfRow.holds Tryd.pinned (OpenSpec.ofChange fnExactHeightOfSpec)

/-- ITS FALSE NEIGHBOUR: 'it returns false'. Refute it at one input. -/
def fnExactHeightOfWrong : ChangeSpec := { name := "fnExactHeightOf", vars := ["loop.example/g00916/impl.keywords"], fn := fun _ => fun
  | [d, g1] => { results := [.lit (.bool false)], args := [d], vars := [g1] }
  | _ => none }
def FnExactHeightOfWrongFalsely : Prop := fnExactHeightOfRow.holds Tryd.pinned (OpenSpec.ofChange fnExactHeightOfWrong)

/-- 'laws.FnExactIsCode': WHATEVER THE INPUT: true; the input reads as it did. -/
def fnExactIsCodeSpec : ChangeSpec := { name := "fnExactIsCode", vars := ["loop.example/g00916/impl.keywords"], fn := fun _ => fun
  | [d, g1] => { results := [.lit (.bool true)], args := [d], vars := [g1] }
  | _ => none }
def fnExactIsCodeRow : OpenClaim := { program := "ytlplkkfdkpdbfaadoor", sum := "6eff63dd37d1e824046a36e497eadcf923fb6987ba3ab906f1d5d1101004b457", func := "loop.example/g00916/laws.FnExactIsCode", spec := "fnExactIsCode", inPlace := ["internal/bytealg.IndexByteString"], unfollowed := true, recurses := true, named := ["loop.example/g00916/impl.keywords"], apart := false, laid := [("loop.example/g00916/impl.keywords", laid_loop_example_g00916_impl_keywords)] }
def FnExactIsCodeSaid : Prop := fnExactIsCodeRow.holds Tryd.pinned (OpenSpec.ofChange fnExactIsCodeSpec)

/-- ITS FALSE NEIGHBOUR: 'it returns false'. Refute it at one input. -/
def fnExactIsCodeWrong : ChangeSpec := { name := "fnExactIsCode", vars := ["loop.example/g00916/impl.keywords"], fn := fun _ => fun
  | [d, g1] => { results := [.lit (.bool false)], args := [d], vars := [g1] }
  | _ => none }
def FnExactIsCodeWrongFalsely : Prop := fnExactIsCodeRow.holds Tryd.pinned (OpenSpec.ofChange fnExactIsCodeWrong)

/-- 'laws.FnExactCountSteps': WHATEVER THE INPUT: true; the input reads as it did. -/
def fnExactCountStepsSpec : ChangeSpec := { name := "fnExactCountSteps", vars := ["loop.example/g00916/impl.keywords"], fn := fun _ => fun
  | [d1, d2, g1] => { results := [.lit (.bool true)], args := [d1, d2], vars := [g1] }
  | _ => none }
def fnExactCountStepsRow : OpenClaim := { program := "ytlplkkfdkpdbfaadoor", sum := "6eff63dd37d1e824046a36e497eadcf923fb6987ba3ab906f1d5d1101004b457", func := "loop.example/g00916/laws.FnExactCountSteps", spec := "fnExactCountSteps", inPlace := ["internal/bytealg.IndexByteString"], unfollowed := true, recurses := true, named := ["loop.example/g00916/impl.keywords"], apart := false, laid := [("loop.example/g00916/impl.keywords", laid_loop_example_g00916_impl_keywords)] }
def FnExactCountStepsSaid : Prop := fnExactCountStepsRow.holds Tryd.pinned (OpenSpec.ofChange fnExactCountStepsSpec)

/-- ITS FALSE NEIGHBOUR: 'it returns false'. Refute it at one input. -/
def fnExactCountStepsWrong : ChangeSpec := { name := "fnExactCountSteps", vars := ["loop.example/g00916/impl.keywords"], fn := fun _ => fun
  | [d1, d2, g1] => { results := [.lit (.bool false)], args := [d1, d2], vars := [g1] }
  | _ => none }
def FnExactCountStepsWrongFalsely : Prop := fnExactCountStepsRow.holds Tryd.pinned (OpenSpec.ofChange fnExactCountStepsWrong)

/-- 'laws.FnExactStackHeights': WHATEVER THE INPUT: true; the input reads as it did. -/
def fnExactStackHeightsSpec : ChangeSpec := { name := "fnExactStackHeights", vars := ["loop.example/g00916/impl.keywords"], fn := fun _ => fun
  | [d, g1] => { results := [.lit (.bool true)], args := [d], vars := [g1] }
  | _ => none }
def fnExactStackHeightsRow : OpenClaim := { program := "ytlplkkfdkpdbfaadoor", sum := "6eff63dd37d1e824046a36e497eadcf923fb6987ba3ab906f1d5d1101004b457", func := "loop.example/g00916/laws.FnExactStackHeights", spec := "fnExactStackHeights", inPlace := ["internal/bytealg.IndexByteString"], unfollowed := true, recurses := true, named := ["loop.example/g00916/impl.keywords"], apart := false, laid := [("loop.example/g00916/impl.keywords", laid_loop_example_g00916_impl_keywords)] }
def FnExactStackHeightsSaid : Prop := fnExactStackHeightsRow.holds Tryd.pinned (OpenSpec.ofChange fnExactStackHeightsSpec)

/-- ITS FALSE NEIGHBOUR: 'it returns false'. Refute it at one input. -/
def fnExactStackHeightsWrong : ChangeSpec := { name := "fnExactStackHeights", vars := ["loop.example/g00916/impl.keywords"], fn := fun _ => fun
  | [d, g1] => { results := [.lit (.bool false)], args := [d], vars := [g1] }
  | _ => none }
def FnExactStackHeightsWrongFalsely : Prop := fnExactStackHeightsRow.holds Tryd.pinned (OpenSpec.ofChange fnExactStackHeightsWrong)

/-- 'laws.FnExactIsMachine': WHATEVER THE INPUT: true; the input reads as it did. -/
def fnExactIsMachineSpec : ChangeSpec := { name := "fnExactIsMachine", vars := ["loop.example/g00916/impl.keywords"], fn := fun _ => fun
  | [d1, d2, g1] => { results := [.lit (.bool true)], args := [d1, d2], vars := [g1] }
  | _ => none }
def fnExactIsMachineRow : OpenClaim := { program := "ytlplkkfdkpdbfaadoor", sum := "6eff63dd37d1e824046a36e497eadcf923fb6987ba3ab906f1d5d1101004b457", func := "loop.example/g00916/laws.FnExactIsMachine", spec := "fnExactIsMachine", inPlace := ["internal/bytealg.IndexByteString"], unfollowed := true, recurses := true, named := ["loop.example/g00916/impl.keywords"], apart := false, laid := [("loop.example/g00916/impl.keywords", laid_loop_example_g00916_impl_keywords)] }
def FnExactIsMachineSaid : Prop := fnExactIsMachineRow.holds Tryd.pinned (OpenSpec.ofChange fnExactIsMachineSpec)

/-- ITS FALSE NEIGHBOUR: 'it returns false'. Refute it at one input. -/
def fnExactIsMachineWrong : ChangeSpec := { name := "fnExactIsMachine", vars := ["loop.example/g00916/impl.keywords"], fn := fun _ => fun
  | [d1, d2, g1] => { results := [.lit (.bool false)], args := [d1, d2], vars := [g1] }
  | _ => none }
def FnExactIsMachineWrongFalsely : Prop := fnExactIsMachineRow.holds Tryd.pinned (OpenSpec.ofChange fnExactIsMachineWrong)

/-- 'laws.FnExactLeftOf': WHATEVER THE INPUT: true; the input reads as it did. -/
def fnExactLeftOfSpec : ChangeSpec := { name := "fnExactLeftOf", vars := ["loop.example/g00916/impl.keywords"], fn := fun _ => fun
  | [d1, d2, g1] => { results := [.lit (.bool true)], args := [d1, d2], vars := [g1] }
  | _ => none }
def fnExactLeftOfRow : OpenClaim := { program := "ytlplkkfdkpdbfaadoor", sum := "6eff63dd37d1e824046a36e497eadcf923fb6987ba3ab906f1d5d1101004b457", func := "loop.example/g00916/laws.FnExactLeftOf", spec := "fnExactLeftOf", inPlace := ["internal/bytealg.IndexByteString"], unfollowed := true, recurses := true, named := ["loop.example/g00916/impl.keywords"], apart := false, laid := [("loop.example/g00916/impl.keywords", laid_loop_example_g00916_impl_keywords)] }
def FnExactLeftOfSaid : Prop := fnExactLeftOfRow.holds Tryd.pinned (OpenSpec.ofChange fnExactLeftOfSpec)

/-- ITS FALSE NEIGHBOUR: 'it returns false'. Refute it at one input. -/
def fnExactLeftOfWrong : ChangeSpec := { name := "fnExactLeftOf", vars := ["loop.example/g00916/impl.keywords"], fn := fun _ => fun
  | [d1, d2, g1] => { results := [.lit (.bool false)], args := [d1, d2], vars := [g1] }
  | _ => none }
def FnExactLeftOfWrongFalsely : Prop := fnExactLeftOfRow.holds Tryd.pinned (OpenSpec.ofChange fnExactLeftOfWrong)

/-- 'laws.FnExactImproveCode': WHATEVER THE INPUT: true; the input reads as it did. -/
def fnExactImproveCodeSpec : ChangeSpec := { name := "fnExactImproveCode", vars := ["loop.example/g00916/impl.keywords"], fn := fun _ => fun
  | [d, g1] => { results := [.lit (.bool true)], args := [d], vars := [g1] }
  | _ => none }
def fnExactImproveCodeRow : OpenClaim := { program := "ytlplkkfdkpdbfaadoor", sum := "6eff63dd37d1e824046a36e497eadcf923fb6987ba3ab906f1d5d1101004b457", func := "loop.example/g00916/laws.FnExactImproveCode", spec := "fnExactImproveCode", inPlace := ["internal/bytealg.IndexByteString", "slices.overlaps[loop.example/g00916/impl.Instruction]"], unfollowed := true, recurses := true, named := ["loop.example/g00916/impl.keywords"], apart := false, laid := [("loop.example/g00916/impl.keywords", laid_loop_example_g00916_impl_keywords)] }
def FnExactImproveCodeSaid : Prop := fnExactImproveCodeRow.holds Tryd.pinned (OpenSpec.ofChange fnExactImproveCodeSpec)

/-- ITS FALSE NEIGHBOUR: 'it returns false'. Refute it at one input. -/
def fnExactImproveCodeWrong : ChangeSpec := { name := "fnExactImproveCode", vars := ["loop.example/g00916/impl.keywords"], fn := fun _ => fun
  | [d, g1] => { results := [.lit (.bool false)], args := [d], vars := [g1] }
  | _ => none }
def FnExactImproveCodeWrongFalsely : Prop := fnExactImproveCodeRow.holds Tryd.pinned (OpenSpec.ofChange fnExactImproveCodeWrong)

/- THE SECOND FORM. 'bulk': how many values and letters a reading holds, each counted each time it is reached (what is shared counts as often as it is met; a slice's spare places count too). A statement '..UptoSaid' is the law's where the arguments, and the package variables that the reading takes, are together of bulk at most 1048576: NARROWER than '..Said'. Prove '..Said' where nothing that the law and all that it calls make is longer than what came in: it says more and counts as full. Else prove '..UptoSaid'. A law counts once. -/
mutual
def uptoBulk {H : Type} : DataW H → Nat
  | .lit (.string bytes) => bytes.length + 1
  | .lit _ => 1
  | .nil => 1
  | .ptr d => uptoBulk d + 1
  | .slice elems spare => uptoBulkAll elems + uptoBulkAll spare + 1
  | .agg parts => uptoBulkAll parts + 1
  | .iface _ d => uptoBulk d + 1
  | .map entries => uptoBulkEntries entries + 1
  | .held _ => 1
def uptoBulkAll {H : Type} : List (DataW H) → Nat
  | [] => 0
  | d :: r => uptoBulk d + uptoBulkAll r
def uptoBulkEntries {H : Type} : List (Lit × DataW H) → Nat
  | [] => 0
  | x :: r => uptoBulkEntry x + uptoBulkEntries r
def uptoBulkEntry {H : Type} : Lit × DataW H → Nat
  | (.string bytes, d) => bytes.length + uptoBulk d + 1
  | (_, d) => uptoBulk d + 1
 end
def uptoSmall : (H : Type) → List (DataW H) → Bool := fun _ ds => decide (uptoBulkAll ds ≤ 1048576)
def OpenSpec.upto (s : _root_.Go.ChangeSpec) : _root_.Go.OpenSpec := { _root_.Go.OpenSpec.ofChange s with cond := some uptoSmall }

/-- 'laws.FnExactIsKeyword', WHERE WHAT IT READS IS OF BULK AT MOST 1048576: true; the input reads as it did. -/
def fnExactIsKeywordUptoRow : OpenClaim := { program := "ytlplkkfdkpdbfaadoor", sum := "6eff63dd37d1e824046a36e497eadcf923fb6987ba3ab906f1d5d1101004b457", func := "loop.example/g00916/laws.FnExactIsKeyword", spec := "fnExactIsKeyword", named := ["loop.example/g00916/impl.keywords"], apart := false, laid := [("loop.example/g00916/impl.keywords", laid_loop_example_g00916_impl_keywords)], narrowed := true }
def FnExactIsKeywordUptoSaid : Prop := fnExactIsKeywordUptoRow.holds Tryd.pinned (OpenSpec.upto fnExactIsKeywordSpec)

/-- 'laws.FnExactIsBlock', WHERE WHAT IT READS IS OF BULK AT MOST 1048576: true; the input reads as it did. -/
def fnExactIsBlockUptoRow : OpenClaim := { program := "ytlplkkfdkpdbfaadoor", sum := "6eff63dd37d1e824046a36e497eadcf923fb6987ba3ab906f1d5d1101004b457", func := "loop.example/g00916/laws.FnExactIsBlock", spec := "fnExactIsBlock", inPlace := ["internal/bytealg.IndexByteString"], named := ["loop.example/g00916/impl.keywords"], apart := false, laid := [("loop.example/g00916/impl.keywords", laid_loop_example_g00916_impl_keywords)], narrowed := true }
def FnExactIsBlockUptoSaid : Prop := fnExactIsBlockUptoRow.holds Tryd.pinned (OpenSpec.upto fnExactIsBlockSpec)

/-- 'laws.FnExactIsPossible', WHERE WHAT IT READS IS OF BULK AT MOST 1048576: true; the input reads as it did. -/
def fnExactIsPossibleUptoRow : OpenClaim := { program := "ytlplkkfdkpdbfaadoor", sum := "6eff63dd37d1e824046a36e497eadcf923fb6987ba3ab906f1d5d1101004b457", func := "loop.example/g00916/laws.FnExactIsPossible", spec := "fnExactIsPossible", inPlace := ["internal/bytealg.IndexByteString"], named := ["loop.example/g00916/impl.keywords"], apart := false, laid := [("loop.example/g00916/impl.keywords", laid_loop_example_g00916_impl_keywords)], narrowed := true }
def FnExactIsPossibleUptoSaid : Prop := fnExactIsPossibleUptoRow.holds Tryd.pinned (OpenSpec.upto fnExactIsPossibleSpec)

/-- 'laws.FnExactIsFaulty', WHERE WHAT IT READS IS OF BULK AT MOST 1048576: true; the input reads as it did. -/
def fnExactIsFaultyUptoRow : OpenClaim := { program := "ytlplkkfdkpdbfaadoor", sum := "6eff63dd37d1e824046a36e497eadcf923fb6987ba3ab906f1d5d1101004b457", func := "loop.example/g00916/laws.FnExactIsFaulty", spec := "fnExactIsFaulty", inPlace := ["internal/bytealg.IndexByteString"], unfollowed := true, recurses := true, named := ["loop.example/g00916/impl.keywords"], apart := false, laid := [("loop.example/g00916/impl.keywords", laid_loop_example_g00916_impl_keywords)], narrowed := true }
def FnExactIsFaultyUptoSaid : Prop := fnExactIsFaultyUptoRow.holds Tryd.pinned (OpenSpec.upto fnExactIsFaultySpec)

/-- 'laws.FnExactIsExpression', WHERE WHAT IT READS IS OF BULK AT MOST 1048576: true; the input reads as it did. -/
def fnExactIsExpressionUptoRow : OpenClaim := { program := "ytlplkkfdkpdbfaadoor", sum := "6eff63dd37d1e824046a36e497eadcf923fb6987ba3ab906f1d5d1101004b457", func := "loop.example/g00916/laws.FnExactIsExpression", spec := "fnExactIsExpression", inPlace := ["internal/bytealg.IndexByteString"], named := ["loop.example/g00916/impl.keywords"], apart := false, laid := [("loop.example/g00916/impl.keywords", laid_loop_example_g00916_impl_keywords)], narrowed := true }
def FnExactIsExpressionUptoSaid : Prop := fnExactIsExpressionUptoRow.holds Tryd.pinned (OpenSpec.upto fnExactIsExpressionSpec)

/-- 'laws.FnExactHeightOf', WHERE WHAT IT READS IS OF BULK AT MOST 1048576: true; the input reads as it did. -/
def fnExactHeightOfUptoRow : OpenClaim := { program := "ytlplkkfdkpdbfaadoor", sum := "6eff63dd37d1e824046a36e497eadcf923fb6987ba3ab906f1d5d1101004b457", func := "loop.example/g00916/laws.FnExactHeightOf", spec := "fnExactHeightOf", inPlace := ["internal/bytealg.IndexByteString"], named := ["loop.example/g00916/impl.keywords"], apart := false, laid := [("loop.example/g00916/impl.keywords", laid_loop_example_g00916_impl_keywords)], narrowed := true }
def FnExactHeightOfUptoSaid : Prop := fnExactHeightOfUptoRow.holds Tryd.pinned (OpenSpec.upto fnExactHeightOfSpec)

/-- 'laws.FnExactIsCode', WHERE WHAT IT READS IS OF BULK AT MOST 1048576: true; the input reads as it did. -/
def fnExactIsCodeUptoRow : OpenClaim := { program := "ytlplkkfdkpdbfaadoor", sum := "6eff63dd37d1e824046a36e497eadcf923fb6987ba3ab906f1d5d1101004b457", func := "loop.example/g00916/laws.FnExactIsCode", spec := "fnExactIsCode", inPlace := ["internal/bytealg.IndexByteString"], unfollowed := true, recurses := true, named := ["loop.example/g00916/impl.keywords"], apart := false, laid := [("loop.example/g00916/impl.keywords", laid_loop_example_g00916_impl_keywords)], narrowed := true }
def FnExactIsCodeUptoSaid : Prop := fnExactIsCodeUptoRow.holds Tryd.pinned (OpenSpec.upto fnExactIsCodeSpec)

/-- 'laws.FnExactCountSteps', WHERE WHAT IT READS IS OF BULK AT MOST 1048576: true; the input reads as it did. -/
def fnExactCountStepsUptoRow : OpenClaim := { program := "ytlplkkfdkpdbfaadoor", sum := "6eff63dd37d1e824046a36e497eadcf923fb6987ba3ab906f1d5d1101004b457", func := "loop.example/g00916/laws.FnExactCountSteps", spec := "fnExactCountSteps", inPlace := ["internal/bytealg.IndexByteString"], unfollowed := true, recurses := true, named := ["loop.example/g00916/impl.keywords"], apart := false, laid := [("loop.example/g00916/impl.keywords", laid_loop_example_g00916_impl_keywords)], narrowed := true }
def FnExactCountStepsUptoSaid : Prop := fnExactCountStepsUptoRow.holds Tryd.pinned (OpenSpec.upto fnExactCountStepsSpec)

/-- 'laws.FnExactStackHeights', WHERE WHAT IT READS IS OF BULK AT MOST 1048576: true; the input reads as it did. -/
def fnExactStackHeightsUptoRow : OpenClaim := { program := "ytlplkkfdkpdbfaadoor", sum := "6eff63dd37d1e824046a36e497eadcf923fb6987ba3ab906f1d5d1101004b457", func := "loop.example/g00916/laws.FnExactStackHeights", spec := "fnExactStackHeights", inPlace := ["internal/bytealg.IndexByteString"], unfollowed := true, recurses := true, named := ["loop.example/g00916/impl.keywords"], apart := false, laid := [("loop.example/g00916/impl.keywords", laid_loop_example_g00916_impl_keywords)], narrowed := true }
def FnExactStackHeightsUptoSaid : Prop := fnExactStackHeightsUptoRow.holds Tryd.pinned (OpenSpec.upto fnExactStackHeightsSpec)

/-- 'laws.FnExactIsMachine', WHERE WHAT IT READS IS OF BULK AT MOST 1048576: true; the input reads as it did. -/
def fnExactIsMachineUptoRow : OpenClaim := { program := "ytlplkkfdkpdbfaadoor", sum := "6eff63dd37d1e824046a36e497eadcf923fb6987ba3ab906f1d5d1101004b457", func := "loop.example/g00916/laws.FnExactIsMachine", spec := "fnExactIsMachine", inPlace := ["internal/bytealg.IndexByteString"], unfollowed := true, recurses := true, named := ["loop.example/g00916/impl.keywords"], apart := false, laid := [("loop.example/g00916/impl.keywords", laid_loop_example_g00916_impl_keywords)], narrowed := true }
def FnExactIsMachineUptoSaid : Prop := fnExactIsMachineUptoRow.holds Tryd.pinned (OpenSpec.upto fnExactIsMachineSpec)

/-- 'laws.FnExactLeftOf', WHERE WHAT IT READS IS OF BULK AT MOST 1048576: true; the input reads as it did. -/
def fnExactLeftOfUptoRow : OpenClaim := { program := "ytlplkkfdkpdbfaadoor", sum := "6eff63dd37d1e824046a36e497eadcf923fb6987ba3ab906f1d5d1101004b457", func := "loop.example/g00916/laws.FnExactLeftOf", spec := "fnExactLeftOf", inPlace := ["internal/bytealg.IndexByteString"], unfollowed := true, recurses := true, named := ["loop.example/g00916/impl.keywords"], apart := false, laid := [("loop.example/g00916/impl.keywords", laid_loop_example_g00916_impl_keywords)], narrowed := true }
def FnExactLeftOfUptoSaid : Prop := fnExactLeftOfUptoRow.holds Tryd.pinned (OpenSpec.upto fnExactLeftOfSpec)

/-- 'laws.FnExactImproveCode', WHERE WHAT IT READS IS OF BULK AT MOST 1048576: true; the input reads as it did. -/
def fnExactImproveCodeUptoRow : OpenClaim := { program := "ytlplkkfdkpdbfaadoor", sum := "6eff63dd37d1e824046a36e497eadcf923fb6987ba3ab906f1d5d1101004b457", func := "loop.example/g00916/laws.FnExactImproveCode", spec := "fnExactImproveCode", inPlace := ["internal/bytealg.IndexByteString", "slices.overlaps[loop.example/g00916/impl.Instruction]"], unfollowed := true, recurses := true, named := ["loop.example/g00916/impl.keywords"], apart := false, laid := [("loop.example/g00916/impl.keywords", laid_loop_example_g00916_impl_keywords)], narrowed := true }
def FnExactImproveCodeUptoSaid : Prop := fnExactImproveCodeUptoRow.holds Tryd.pinned (OpenSpec.upto fnExactImproveCodeSpec)

end Rows
end Go.Proofs.YtlplkkfdkpdbfaaDoor
