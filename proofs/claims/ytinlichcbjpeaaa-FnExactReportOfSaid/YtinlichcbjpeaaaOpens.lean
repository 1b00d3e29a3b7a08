/- The laws' arguments of struct types, opened. -/
import Derived.Test.YtinlichcbjpeaaaProg
import Derived.Test.YtinlichcbjpeaaaShape
namespace Go.Proofs.Ytinlichcbjpeaaa
open Go Go.Proofs Go.RowKit Go.ChangeShapes Go.WideShapes Go.ChangeAt
set_option linter.unusedVariables false
set_option linter.unusedSimpArgs false
set_option maxRecDepth 100000
theorem sh_Traffic : Sh.of Try.prog 5 38 = some (.pair .int (.pair (.slice .int) .nil)) := by kernel_rfl
theorem openTraffic {H : Type} {enc : TypeId × Value → H} {W : World} {r : Reach} {base : Nat} {v : Value} {d : DataW H} {p : List MemPlace} (h : DataW.Trod enc Try.prog W 0 (fun _ => true) true 38 v d p) (o : Value.okWide Try.prog W r base 38 v) :
    ∃ (b : Int) (s : Value) (ps : List Int), v = .agg #[.int .i64 b, s] ∧ RdI W s ps := by
  have hv := agg_of_okWide Try.underlying38 o
  obtain ⟨_, _, e, ⟨b, rfl, _⟩, _, _, rfl, hs, rfl⟩ := Sh.is_of_trod sh_Traffic h
  obtain ⟨s, rfl⟩ := one_of_slice hs
  obtain ⟨ps, hps⟩ := rdI_of_sh hs
  refine ⟨b, s, ps, ?_, hps⟩
  rw [hv, ← Array.toArray_toList (xs := v.cells), e]
  rfl
end Go.Proofs.Ytinlichcbjpeaaa
