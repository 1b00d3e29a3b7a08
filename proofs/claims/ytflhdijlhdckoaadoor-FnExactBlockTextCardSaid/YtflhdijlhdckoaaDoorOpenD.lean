/- The laws' arguments of struct types, opened. -/
import Derived.Test.YtflhdijlhdckoaaDoorProg
import Derived.Test.YtflhdijlhdckoaaDoorShape
namespace Go.Proofs.YtflhdijlhdckoaaDoor
open Go Go.Proofs Go.RowKit Go.ChangeShapes Go.WideShapes Go.ChangeAt
set_option linter.unusedVariables false
set_option linter.unusedSimpArgs false
set_option maxRecDepth 100000
theorem sh_Term : Sh.of Tryd.prog 5 37 = some (.pair .int (.pair .str (.pair .int .nil))) := by kernel_rfl
theorem openTerm {H : Type} {enc : TypeId × Value → H} {W : World} {r : Reach} {base : Nat} {v : Value} {d : DataW H} {p : List MemPlace} (h : DataW.Trod enc Tryd.prog W 0 (fun _ => true) true 37 v d p) (o : Value.okWide Tryd.prog W r base 37 v) :
    ∃ (k : Int) (s : ByteArray) (n : Int), v = .agg #[.int .i64 k, .string s, .int .i64 n] ∧ s.size ≤ 9223372036854775807 := by
  have hv := agg_of_okWide Tryd.underlying37 o
  obtain ⟨_, _, e, ⟨k, rfl, _⟩, _, _, rfl, ⟨s, rfl, hs⟩, _, _, rfl, ⟨n, rfl, _⟩, rfl⟩ := Sh.is_of_trod sh_Term h
  refine ⟨k, s, n, ?_, hs⟩
  rw [hv, ← Array.toArray_toList (xs := v.cells), e]
  rfl
theorem sh_BlockState : Sh.of Tryd.prog 5 39 = some (.pair .int (.pair .int (.pair .int .nil))) := by kernel_rfl
theorem openBlockState {H : Type} {enc : TypeId × Value → H} {W : World} {r : Reach} {base : Nat} {v : Value} {d : DataW H} {p : List MemPlace} (h : DataW.Trod enc Tryd.prog W 0 (fun _ => true) true 39 v d p) (o : Value.okWide Tryd.prog W r base 39 v) :
    ∃ (a b c : Int), v = .agg #[.int .i64 a, .int .i64 b, .int .i64 c] := by
  have hv := agg_of_okWide Tryd.underlying39 o
  obtain ⟨_, _, e, ⟨k, rfl, _⟩, _, _, rfl, ⟨s, rfl, hs⟩, _, _, rfl, ⟨n, rfl, _⟩, rfl⟩ := Sh.is_of_trod sh_BlockState h
  refine ⟨k, s, n, ?_⟩
  rw [hv, ← Array.toArray_toList (xs := v.cells), e]
  rfl
end Go.Proofs.YtflhdijlhdckoaaDoor
