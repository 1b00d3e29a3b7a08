/- Pointers to known cells; numbers laid. No program in sight. -/
import Derived.Test.YtekpbmoagabmeaaGreatDoorBase
import Derived.Test.YtekpbmoagabmeaaGreatDoorCells
namespace Go.Proofs.YtekpbmoagabmeaaGreatDoor
open Go Go.RowKit
set_option linter.unusedVariables false
set_option linter.unusedSimpArgs false
/-- A pointer to a cell that holds u. -/
def PtrTo (w : World) (X : Value) (u : Value) : Prop := ∃ b o, X = .pointer (some ⟨b, o, none⟩) ∧ b < w.heap.size ∧ w.cell? ⟨b, o, none⟩ = some u
theorem PtrTo.new {w w' : World} {X u : Value} (h : PtrTo w X u) (hn : New w w') : PtrTo w' X u := by
  obtain ⟨b, o, rfl, hb, hc⟩ := h
  exact ⟨b, o, rfl, Nat.lt_of_lt_of_le hb hn.size, (hn.cell hb).trans hc⟩
theorem rdI_lay3 (w : World) (a b c : Int) (T : TypeId) : RdI (w.alloc (.cells #[.int .i64 a, .int .i64 b, .int .i64 c] T)) (.slice (some ⟨w.heap.size, 0, none⟩) 3 3) [a, b, c] := by
  refine ⟨_, 3, rfl, by simp, ⟨(fun h => by cases h), by simp⟩, fun j u hu => ⟨w.heap.size, 0, rfl, by simp, ?_⟩⟩
  rw [Nat.zero_add, cell_alloc_new _ _ _ _ _ rfl, ← Array.getElem?_toList]
  exact hu
end Go.Proofs.YtekpbmoagabmeaaGreatDoor
