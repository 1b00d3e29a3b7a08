/- The laws' arguments of struct types, opened. -/
import Derived.Test.YtndpgdkgjnfalaaDoorProg
import Derived.Test.YtndpgdkgjnfalaaDoorShape
namespace Go.Proofs.YtndpgdkgjnfalaaDoor
open Go Go.Proofs Go.RowKit Go.ChangeShapes Go.WideShapes Go.ChangeAt
set_option linter.unusedVariables false
set_option linter.unusedSimpArgs false
set_option maxRecDepth 100000
theorem sh_Traffic : Sh.of Tryd.prog 5 33 = some (.pair .int (.pair (.slice .int) .nil)) := by kernel_rfl
theorem openTraffic {H : Type} {enc : TypeId × Value → H} {W : World} {r : Reach} {base : Nat} {v : Value} {d : DataW H} {p : List MemPlace} (h : DataW.Trod enc Tryd.prog W 0 (fun _ => true) true 33 v d p) (o : Value.okWide Tryd.prog W r base 33 v) :
    ∃ (b : Int) (s : Value) (ps : List Int), v = .agg #[.int .i64 b, s] ∧ RdI W s ps := by
  have hv := agg_of_okWide Tryd.underlying33 o
  obtain ⟨_, _, e, ⟨b, rfl, _⟩, _, _, rfl, hs, rfl⟩ := Sh.is_of_trod sh_Traffic h
  obtain ⟨s, rfl⟩ := one_of_slice hs
  obtain ⟨ps, hps⟩ := rdI_of_sh hs
  refine ⟨b, s, ps, ?_, hps⟩
  rw [hv, ← Array.toArray_toList (xs := v.cells), e]
  rfl
end Go.Proofs.YtndpgdkgjnfalaaDoor
