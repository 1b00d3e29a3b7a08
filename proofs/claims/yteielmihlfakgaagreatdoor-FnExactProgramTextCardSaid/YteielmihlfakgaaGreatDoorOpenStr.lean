/- The laws' arguments: strings, opened. -/
import Derived.Test.YteielmihlfakgaaGreatDoorProg
import Derived.Test.YteielmihlfakgaaGreatDoorVA
namespace Go.Proofs.YteielmihlfakgaaGreatDoor
open Go Go.Proofs Go.RowKit Go.ChangeShapes Go.WideShapes Go.ChangeAt
set_option linter.unusedVariables false
set_option linter.unusedSimpArgs false
set_option maxRecDepth 100000
theorem sh_Str : Sh.of Tryz.prog 2 9 = some .str := by kernel_rfl
theorem openStr {H : Type} {enc : TypeId × Value → H} {W : World} {r : Reach} {base : Nat} {v : Value} {d : DataW H} {p : List MemPlace} (h : DataW.Trod enc Tryz.prog W 0 (fun _ => true) true 9 v d p) (o : Value.okWide Tryz.prog W r base 9 v) : ∃ s : ByteArray, v = .string s ∧ s.size ≤ 9223372036854775807 := by
  obtain ⟨s, rfl⟩ := okWide_string Tryz.underlying9 o
  obtain ⟨s', e, hs⟩ := Sh.is_of_trod sh_Str h
  have : s = s' := by have := congrArg (fun l => l.head?) e; simpa [Value.cells] using this
  subst this
  exact ⟨s, rfl, hs⟩
end Go.Proofs.YteielmihlfakgaaGreatDoor
