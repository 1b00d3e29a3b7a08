/- Contracts: slices.Clone at instructions and at terms. -/
import Derived.WalkSpells
import Derived.Test.YteielmihlfakgaaGreatDoorProg
import Derived.Test.YteielmihlfakgaaGreatDoorVB
import Derived.Test.YteielmihlfakgaaGreatDoorUC
import Derived.Test.YteielmihlfakgaaGreatDoorVA
namespace Go.Proofs.YteielmihlfakgaaGreatDoor
open Go Go.Proofs Go.RowKit
set_option linter.unusedVariables false
set_option linter.unusedSimpArgs false
set_option maxRecDepth 100000
theorem encI_one (xs : List EInstruction) : ∀ u ∈ xs.flatMap encInstruction, u.oneCell' = true := by
  intro u hu
  obtain ⟨x, _, hx⟩ := List.mem_flatMap.1 hu
  simp [encInstruction] at hx
  rcases hx with rfl | rfl <;> rfl
theorem encT_one (xs : List ETerm) : ∀ u ∈ xs.flatMap encTerm, u.oneCell' = true := by
  intro u hu
  obtain ⟨x, _, hx⟩ := List.mem_flatMap.1 hu
  simp [encTerm] at hx
  rcases hx with rfl | rfl | rfl <;> rfl
end Go.Proofs.YteielmihlfakgaaGreatDoor
