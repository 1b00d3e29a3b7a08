/- The laws' arguments of struct types, opened. -/
import Derived.Test.YtdhmngmclbaieaaProg
import Derived.Test.YtdhmngmclbaieaaShape
namespace Go.Proofs.Ytdhmngmclbaieaa
open Go Go.Proofs Go.RowKit Go.ChangeShapes Go.WideShapes Go.ChangeAt
set_option linter.unusedVariables false
set_option linter.unusedSimpArgs false
set_option maxRecDepth 100000
theorem sh_Traffic : Sh.of Try.prog 5 24 = some (.pair .int (.pair (.slice .int) .nil)) := by kernel_rfl
theorem openTraffic {H : Type} {enc : TypeId × Value → H} {W : World} {r : Reach} {base : Nat} {v : Value} {d : DataW H} {p : List MemPlace} (h : DataW.Trod enc Try.prog W 0 (fun _ => true) true 24 v d p) (o : Value.okWide Try.prog W r base 24 v) :
    ∃ (b : Int) (s : Value) (ps : List Int), v = .agg #[.int .i64 b, s] ∧ RdI W s ps := by
  have hv := agg_of_okWide Try.underlying24 o
  obtain ⟨_, _, e, ⟨b, rfl, _⟩, _, _, rfl, hs, rfl⟩ := Sh.is_of_trod sh_Traffic h
  obtain ⟨s, rfl⟩ := one_of_slice hs
  obtain ⟨ps, hps⟩ := rdI_of_sh hs
  refine ⟨b, s, ps, ?_, hps⟩
  rw [hv, ← Array.toArray_toList (xs := v.cells), e]
  rfl
theorem sh_Report : Sh.of Try.prog 5 78 = some (.pair (.slice .int) (.pair (.slice .int) .nil)) := by kernel_rfl
theorem openReport {H : Type} {enc : TypeId × Value → H} {W : World} {r : Reach} {base : Nat} {v : Value} {d : DataW H} {p : List MemPlace} (h : DataW.Trod enc Try.prog W 0 (fun _ => true) true 78 v d p) (o : Value.okWide Try.prog W r base 78 v) :
    ∃ (u s : Value) (fs ss : List Int), v = .agg #[u, s] ∧ RdI W u fs ∧ RdI W s ss := by
  have hv := agg_of_okWide Try.underlying78 o
  obtain ⟨_, _, e, h1, _, _, rfl, h2, rfl⟩ := Sh.is_of_trod sh_Report h
  obtain ⟨u, rfl⟩ := one_of_slice h1
  obtain ⟨s, rfl⟩ := one_of_slice h2
  obtain ⟨fs, hfs⟩ := rdI_of_sh h1
  obtain ⟨ss, hss⟩ := rdI_of_sh h2
  refine ⟨u, s, fs, ss, ?_, hfs, hss⟩
  rw [hv, ← Array.toArray_toList (xs := v.cells), e]
  rfl
end Go.Proofs.Ytdhmngmclbaieaa
