/- The laws' arguments: machines, opened. -/
import Derived.Test.YtlplkkfdkpdbfaaDoorProg
import Derived.Test.YtlplkkfdkpdbfaaDoorShape
import Derived.Test.YtlplkkfdkpdbfaaDoorOpenCode
import Derived.Test.YtlplkkfdkpdbfaaDoorMachines2
namespace Go.Proofs.YtlplkkfdkpdbfaaDoor
open Go Go.Proofs Go.RowKit Go.ChangeShapes Go.WideShapes Go.ChangeAt
set_option linter.unusedVariables false
set_option linter.unusedSimpArgs false
set_option maxRecDepth 100000
theorem sh_BlockStateS : Sh.of Tryd.prog 5 66 = some (.slice (.pair .int (.pair .int (.pair .int .nil)))) := by kernel_rfl
theorem dec_BlockState {w : World} (cs : List Value) (h : Sh.Is w (.pair .int (.pair .int (.pair .int .nil))) cs) : ∃ x : EBlockState, cs = encBlockState x := by
  obtain ⟨_, _, rfl, ⟨sa, rfl, _⟩, ⟨_, _, rfl, ⟨sb, rfl, _⟩, ⟨_, _, rfl, ⟨sc, rfl, _⟩, rfl⟩⟩⟩ := h
  exact ⟨⟨sa, sb, sc⟩, rfl⟩
theorem openBlockStateS {H : Type} {enc : TypeId × Value → H} {W : World} {r : Reach} {base : Nat} {v : Value} {d : DataW H} {p : List MemPlace} (h : DataW.Trod enc Tryd.prog W 0 (fun _ => true) true 66 v d p) (o : Value.okWide Tryd.prog W r base 66 v) :
    ∃ xs : List EBlockState, Rd W v xs.length (xs.flatMap encBlockState) := by
  obtain ⟨a, n, cap, rfl⟩ := okWide_slice Tryd.underlying66 o
  exact rd_of_slice encBlockState dec_BlockState encBlockState_len (Sh.is_of_trod sh_BlockStateS h)
theorem sh_Machine : Sh.of Tryd.prog 6 68 = some (.pair .int (.pair (.slice .int) (.pair (.slice .int) (.pair (.slice .int) (.pair (.slice (.pair .int (.pair .int (.pair .int .nil)))) .nil))))) := by kernel_rfl
theorem openMachine {H : Type} {enc : TypeId × Value → H} {W : World} {r : Reach} {base : Nat} {v : Value} {d : DataW H} {p : List MemPlace} (h : DataW.Trod enc Tryd.prog W 0 (fun _ => true) true 68 v d p) (o : Value.okWide Tryd.prog W r base 68 v) :
    ∃ (m : MachineD) (st va ou bl : Value), v = valM m st va ou bl ∧ RdM W m st va ou bl := by
  have hv := agg_of_okWide Tryd.underlying68 o
  obtain ⟨_, _, e, ⟨i, rfl, _⟩, _, _, rfl, h1, _, _, rfl, h2, _, _, rfl, h3, _, _, rfl, h4, rfl⟩ := Sh.is_of_trod sh_Machine h
  obtain ⟨st, rfl⟩ := one_of_slice h1
  obtain ⟨va, rfl⟩ := one_of_slice h2
  obtain ⟨ou, rfl⟩ := one_of_slice h3
  obtain ⟨bl, rfl⟩ := one_of_slice h4
  obtain ⟨x1, e1⟩ := rdI_of_sh h1
  obtain ⟨x2, e2⟩ := rdI_of_sh h2
  obtain ⟨x3, e3⟩ := rdI_of_sh h3
  obtain ⟨x4, e4⟩ := rd_of_slice encBlockState dec_BlockState encBlockState_len h4
  refine ⟨⟨i, x1, x2, x3, x4⟩, st, va, ou, bl, ?_, ⟨e1, e2, e3, e4⟩⟩
  rw [hv, ← Array.toArray_toList (xs := v.cells), e]
  rfl
end Go.Proofs.YtlplkkfdkpdbfaaDoor
