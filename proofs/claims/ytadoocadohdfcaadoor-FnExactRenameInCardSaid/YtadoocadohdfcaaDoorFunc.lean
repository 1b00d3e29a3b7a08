/- Contracts: the library's functions on slices that take a function, at lists of numbers. -/
import Derived.Test.YtadoocadohdfcaaDoorProg
import Derived.Test.YtadoocadohdfcaaDoorBase
namespace Go.Proofs.YtadoocadohdfcaaDoor
open Go Go.Proofs Go.RowKit
set_option linter.unusedVariables false
set_option linter.unusedSimpArgs false
set_option maxRecDepth 100000
def RetVal (w : World) (v : Value) (e : Ending) (w' : World) : Prop := e = .returned v ∧ New w w'
def idx {α : Type} (p : α → Bool) (xs : List α) : Int := match xs.findIdx? p with | some i => (i : Int) | none => -1
theorem idx_none {α : Type} {p : α → Bool} {xs : List α} (h : xs.findIdx? p = none) : idx p xs = -1 := by simp [idx, h]
theorem idx_some {α : Type} {p : α → Bool} {xs : List α} {i : Nat} (h : xs.findIdx? p = some i) : idx p xs = i := by simp [idx, h]
theorem idx_any {α : Type} (p : α → Bool) (xs : List α) : decide (0 ≤ idx p xs) = xs.any p := by
  cases h : xs.findIdx? p with
  | none =>
    rw [idx_none h]
    have := List.findIdx?_eq_none_iff.1 h
    have h2 : xs.any p = false := by simpa using this
    rw [h2]; rfl
  | some i =>
    rw [idx_some h]
    obtain ⟨hi, hp, _⟩ := List.findIdx?_eq_some_iff_getElem.1 h
    have h2 : xs.any p = true := List.any_eq_true.2 ⟨xs[i], List.getElem_mem hi, hp⟩
    rw [h2]; simp
theorem take_find {α : Type} {p : α → Bool} {xs : List α} {k : Nat} (hk : k < xs.length) (h : (xs.take k).findIdx? p = none) : (p xs[k] = true → xs.findIdx? p = some k) ∧ (p xs[k] = false → (xs.take (k + 1)).findIdx? p = none) := by
  have h1 := List.findIdx?_eq_none_iff.1 h
  have hlt : ∀ (j : Nat) (hj : j < k), p (xs[j]'(by omega)) = false := fun j hj => by
    have := h1 (xs[j]'(by omega)) (List.mem_iff_getElem.2 ⟨j, by simp; omega, by simp⟩)
    simpa using this
  refine ⟨fun hp => List.findIdx?_eq_some_iff_getElem.2 ⟨hk, hp, fun j hj => by simpa using hlt j hj⟩, fun hp => ?_⟩
  rw [List.findIdx?_eq_none_iff]
  intro x hx
  rw [List.take_succ_eq_append_getElem hk, List.mem_append] at hx
  rcases hx with hx | hx
  · simpa using h1 x hx
  · have : x = xs[k] := by simpa using hx
    rw [this]; simpa using hp
end Go.Proofs.YtadoocadohdfcaaDoor
