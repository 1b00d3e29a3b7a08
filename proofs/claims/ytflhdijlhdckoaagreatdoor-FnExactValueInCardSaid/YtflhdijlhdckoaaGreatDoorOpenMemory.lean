/- The laws' arguments: memories, opened. -/
import Derived.Test.YtflhdijlhdckoaaGreatDoorProg
import Derived.Test.YtflhdijlhdckoaaGreatDoorOpenProgram
import Derived.Test.YtflhdijlhdckoaaGreatDoorMemF
namespace Go.Proofs.YtflhdijlhdckoaaGreatDoor
open Go Go.Proofs Go.RowKit Go.ChangeShapes Go.WideShapes Go.ChangeAt
set_option linter.unusedVariables false
set_option linter.unusedSimpArgs false
set_option maxRecDepth 100000
theorem sh_BlockStateS : Sh.of Tryz.prog 5 27 = some (.slice (.pair .int (.pair .int (.pair .int .nil)))) := by kernel_rfl
theorem dec_BlockState {w : World} (cs : List Value) (h : Sh.Is w (.pair .int (.pair .int (.pair .int .nil))) cs) : ∃ x : EBlockState, cs = encBlockState x := by
  obtain ⟨_, _, rfl, ⟨sa, rfl, _⟩, ⟨_, _, rfl, ⟨sb, rfl, _⟩, ⟨_, _, rfl, ⟨sc, rfl, _⟩, rfl⟩⟩⟩ := h
  exact ⟨⟨sa, sb, sc⟩, rfl⟩
theorem openBlockStateS {H : Type} {enc : TypeId × Value → H} {W : World} {r : Reach} {base : Nat} {v : Value} {d : DataW H} {p : List MemPlace} (h : DataW.Trod enc Tryz.prog W 0 (fun _ => true) true 27 v d p) (o : Value.okWide Tryz.prog W r base 27 v) :
    ∃ xs : List EBlockState, Rd W v xs.length (xs.flatMap encBlockState) := by
  obtain ⟨a, n, cap, rfl⟩ := okWide_slice Tryz.underlying27 o
  exact rd_of_slice encBlockState dec_BlockState encBlockState_len (Sh.is_of_trod sh_BlockStateS h)
theorem sh_Memory : Sh.of Tryz.prog 6 29 = some (.pair (.slice .int) (.pair (.slice (.pair .int (.pair .int (.pair .int .nil)))) .nil)) := by kernel_rfl
theorem openMemory {H : Type} {enc : TypeId × Value → H} {W : World} {r : Reach} {base : Nat} {v : Value} {d : DataW H} {p : List MemPlace} (h : DataW.Trod enc Tryz.prog W 0 (fun _ => true) true 29 v d p) (o : Value.okWide Tryz.prog W r base 29 v) :
    ∃ (m : MemD) (va bl : Value), v = .agg #[va, bl] ∧ RdMm W m va bl := by
  have hv := agg_of_okWide Tryz.underlying29 o
  obtain ⟨_, _, e, h2, _, _, rfl, h4, rfl⟩ := Sh.is_of_trod sh_Memory h
  obtain ⟨va, rfl⟩ := one_of_slice h2
  obtain ⟨bl, rfl⟩ := one_of_slice h4
  obtain ⟨x2, e2⟩ := rdI_of_sh h2
  obtain ⟨x4, e4⟩ := rd_of_slice encBlockState dec_BlockState encBlockState_len h4
  refine ⟨⟨x2, x4⟩, va, bl, ?_, ⟨e2, e4⟩⟩
  rw [hv, ← Array.toArray_toList (xs := v.cells), e]
  rfl
end Go.Proofs.YtflhdijlhdckoaaGreatDoor
