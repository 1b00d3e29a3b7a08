/- The laws' arguments: codes, opened. -/
import Derived.Test.YtekpbmoagabmeaaDoorProg
import Derived.Test.YtekpbmoagabmeaaDoorShape
import Derived.Test.YtekpbmoagabmeaaDoorOpenTermS
import Derived.Test.YtekpbmoagabmeaaDoorCodeS
namespace Go.Proofs.YtekpbmoagabmeaaDoor
open Go Go.Proofs Go.RowKit Go.ChangeShapes Go.WideShapes Go.ChangeAt
set_option linter.unusedVariables false
set_option linter.unusedSimpArgs false
set_option maxRecDepth 100000
theorem sh_InstructionS : Sh.of Tryd.prog 5 23 = some (.slice (.pair .int (.pair .int .nil))) := by kernel_rfl
theorem dec_Instruction {w : World} (cs : List Value) (h : Sh.Is w (.pair .int (.pair .int .nil)) cs) : ∃ x : EInstruction, cs = encInstruction x := by
  obtain ⟨_, _, rfl, ⟨op, rfl, _⟩, ⟨_, _, rfl, ⟨arg, rfl, _⟩, rfl⟩⟩ := h
  exact ⟨⟨op, arg⟩, rfl⟩
theorem openInstructionS {H : Type} {enc : TypeId × Value → H} {W : World} {r : Reach} {base : Nat} {v : Value} {d : DataW H} {p : List MemPlace} (h : DataW.Trod enc Tryd.prog W 0 (fun _ => true) true 23 v d p) (o : Value.okWide Tryd.prog W r base 23 v) :
    ∃ xs : List EInstruction, Rd W v xs.length (xs.flatMap encInstruction) := by
  obtain ⟨a, n, cap, rfl⟩ := okWide_slice Tryd.underlying23 o
  exact rd_of_slice encInstruction dec_Instruction encInstruction_len (Sh.is_of_trod sh_InstructionS h)
theorem sh_Code : Sh.of Tryd.prog 6 25 = some (.pair .int (.pair .int (.pair .int (.pair (.slice (.pair .int (.pair .str (.pair .int .nil)))) (.pair (.slice (.pair .int (.pair .int .nil))) .nil))))) := by kernel_rfl
theorem openCode {H : Type} {enc : TypeId × Value → H} {W : World} {r : Reach} {base : Nat} {v : Value} {d : DataW H} {p : List MemPlace} (h : DataW.Trod enc Tryd.prog W 0 (fun _ => true) true 25 v d p) (o : Value.okWide Tryd.prog W r base 25 v) :
    ∃ (c : CodeD) (bv sv : Value), v = valC c bv sv ∧ RdT W bv c.blocks ∧ RdN W sv c.steps ∧ ∀ x ∈ c.blocks, okTerm x := by
  have hv := agg_of_okWide Tryd.underlying25 o
  obtain ⟨_, _, e, ⟨i, rfl, _⟩, _, _, rfl, ⟨va, rfl, _⟩, _, _, rfl, ⟨ou, rfl, _⟩, _, _, rfl, hb, _, _, rfl, hs, rfl⟩ := Sh.is_of_trod sh_Code h
  obtain ⟨bv, rfl⟩ := one_of_slice hb
  obtain ⟨sv, rfl⟩ := one_of_slice hs
  obtain ⟨bs, hbs, hok⟩ := rdTerm_of_sh hb
  obtain ⟨ss, hss⟩ := rd_of_slice encInstruction dec_Instruction encInstruction_len hs
  refine ⟨⟨i, va, ou, bs, ss⟩, bv, sv, ?_, hbs, hss, hok⟩
  rw [hv, ← Array.toArray_toList (xs := v.cells), e]
  rfl
end Go.Proofs.YtekpbmoagabmeaaDoor
