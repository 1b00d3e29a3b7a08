/- Contracts: devices of a layout. -/
import Derived.Test.YtinkhjjeflhagaaProg
import Derived.Test.YtinkhjjeflhagaaDevices
namespace Go.Proofs.Ytinkhjjeflhagaa
open Go Go.Proofs Go.RowKit
set_option linter.unusedVariables false
set_option linter.unusedSimpArgs false
set_option maxRecDepth 100000
def risesAt (on : List Int) (n : Int) (k : Nat) : Bool := decide (0 ≤ on.getD k 0) && decide (on.getD k 0 < n) && (decide (k = 0) || decide (on.getD (k - 1) 0 < on.getD k 0))
def risesB (on : List Int) (n : Int) : Bool := allUp (risesAt on n) on.length
theorem risesB_in {on : List Int} {n : Int} (h : risesB on n = true) : ∀ x ∈ on, 0 ≤ x ∧ x < n := by
  intro x hx
  obtain ⟨k, hk, rfl⟩ := List.mem_iff_getElem.1 hx
  rw [risesB, allUp] at h
  have := List.all_eq_true.1 h k (List.mem_range.2 hk)
  rw [risesAt] at this
  simp [List.getD, hk] at this
  exact this.1
theorem getD_at {xs : List Int} {k : Nat} (h : k < xs.length) : xs.getD k 0 = xs[k] := by simp [List.getD, h]
end Go.Proofs.Ytinkhjjeflhagaa
