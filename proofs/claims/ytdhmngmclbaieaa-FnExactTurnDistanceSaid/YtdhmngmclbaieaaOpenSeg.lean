/- How segments and intervals among a law's arguments are opened. -/
import Derived.Test.YtdhmngmclbaieaaShape
import Derived.Test.YtdhmngmclbaieaaFacts
namespace Go.Proofs.Ytdhmngmclbaieaa
open Go Go.Proofs Go.RowKit Go.ChangeShapes Go.WideShapes Go.ChangeAt
set_option linter.unusedVariables false
set_option linter.unusedSimpArgs false
set_option maxRecDepth 100000
theorem sh_Segment : Sh.of Try.prog 5 41 = some (.pair .int (.pair .int (.pair .int (.pair (.pair .int (.pair .int .nil)) (.pair (.pair .int (.pair .int .nil)) .nil))))) := by kernel_rfl
theorem openSeg {H : Type} {enc : TypeId × Value → H} {W : World} {r : Reach} {base : Nat} {v : Value} {d : DataW H} {p : List MemPlace} (h : DataW.Trod enc Try.prog W 0 (fun _ => true) true 41 v d p) (o : Value.okWide Try.prog W r base 41 v) :
    ∃ k len rise rl rh fl fh : Int, v = .agg #[.int .i64 k, .int .i64 len, .int .i64 rise, .int .i64 rl, .int .i64 rh, .int .i64 fl, .int .i64 fh] := by
  have hv := agg_of_okWide Try.underlying41 o
  obtain ⟨_, _, e, ⟨k, rfl, _⟩, _, _, rfl, ⟨len, rfl, _⟩, _, _, rfl, ⟨rise, rfl, _⟩, _, _, rfl, ⟨_, _, rfl, ⟨rl, rfl, _⟩, _, _, rfl, ⟨rh, rfl, _⟩, rfl⟩, _, _, rfl, ⟨_, _, rfl, ⟨fl, rfl, _⟩, _, _, rfl, ⟨fh, rfl, _⟩, rfl⟩, rfl⟩ := Sh.is_of_trod sh_Segment h
  refine ⟨k, len, rise, rl, rh, fl, fh, ?_⟩
  rw [hv, ← Array.toArray_toList (xs := v.cells), e]
  rfl
theorem sh_Interval : Sh.of Try.prog 5 39 = some (.pair .int (.pair .int .nil)) := by kernel_rfl
theorem openIv {H : Type} {enc : TypeId × Value → H} {W : World} {r : Reach} {base : Nat} {v : Value} {d : DataW H} {p : List MemPlace} (h : DataW.Trod enc Try.prog W 0 (fun _ => true) true 39 v d p) (o : Value.okWide Try.prog W r base 39 v) :
    ∃ lo hi : Int, v = .agg #[.int .i64 lo, .int .i64 hi] := by
  have hv := agg_of_okWide Try.underlying39 o
  obtain ⟨_, _, e, ⟨lo, rfl, _⟩, _, _, rfl, ⟨hi, rfl, _⟩, rfl⟩ := Sh.is_of_trod sh_Interval h
  refine ⟨lo, hi, ?_⟩
  rw [hv, ← Array.toArray_toList (xs := v.cells), e]
  rfl
end Go.Proofs.Ytdhmngmclbaieaa
