/- The laws' arguments: layouts, opened. -/
import Derived.Test.YtinkhjjeflhagaaProg
import Derived.Test.YtinkhjjeflhagaaShape
import Derived.Test.YtinkhjjeflhagaaDevices
namespace Go.Proofs.Ytinkhjjeflhagaa
open Go Go.Proofs Go.RowKit Go.ChangeShapes Go.WideShapes Go.ChangeAt
set_option linter.unusedVariables false
set_option linter.unusedSimpArgs false
set_option maxRecDepth 100000
theorem sh_Layout : Sh.of Try.prog 6 24 = some (.pair (.slice (.pair .int (.pair .int (.pair .int (.pair (.pair .int (.pair .int .nil)) (.pair (.pair .int (.pair .int .nil)) .nil)))))) .nil) := by kernel_rfl
theorem dec_Segment {w : World} (cs : List Value) (h : Sh.Is w (.pair .int (.pair .int (.pair .int (.pair (.pair .int (.pair .int .nil)) (.pair (.pair .int (.pair .int .nil)) .nil))))) cs) : ∃ x : ESegment, cs = encSegment x := by
  obtain ⟨_, _, rfl, ⟨k, rfl, _⟩, _, _, rfl, ⟨l, rfl, _⟩, _, _, rfl, ⟨r, rfl, _⟩, _, _, rfl, ⟨_, _, rfl, ⟨a, rfl, _⟩, _, _, rfl, ⟨b, rfl, _⟩, rfl⟩, _, _, rfl, ⟨_, _, rfl, ⟨c, rfl, _⟩, _, _, rfl, ⟨d, rfl, _⟩, rfl⟩, rfl⟩ := h
  exact ⟨⟨k, l, r, a, b, c, d⟩, rfl⟩
theorem openLayout {H : Type} {enc : TypeId × Value → H} {W : World} {r : Reach} {base : Nat} {v : Value} {d : DataW H} {p : List MemPlace} (h : DataW.Trod enc Try.prog W 0 (fun _ => true) true 24 v d p) (o : Value.okWide Try.prog W r base 24 v) :
    ∃ (s : Value) (xs : List ESegment), v = .agg #[s] ∧ RdG W s xs := by
  have hv := agg_of_okWide Try.underlying24 o
  obtain ⟨_, _, e, h1, rfl⟩ := Sh.is_of_trod sh_Layout h
  obtain ⟨s, rfl⟩ := one_of_slice h1
  obtain ⟨xs, hx⟩ := rd_of_slice encSegment dec_Segment encSegment_len h1
  refine ⟨s, xs, ?_, hx⟩
  rw [hv, ← Array.toArray_toList (xs := v.cells), e]
  rfl
end Go.Proofs.Ytinkhjjeflhagaa
