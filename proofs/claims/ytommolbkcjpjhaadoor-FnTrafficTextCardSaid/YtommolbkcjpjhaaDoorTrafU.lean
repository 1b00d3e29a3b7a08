/- Contracts: the blocks that trains use: the reference. -/
import Derived.Test.YtommolbkcjpjhaaDoorProg
import Derived.Test.YtommolbkcjpjhaaDoorTraffic
import Derived.Test.YtommolbkcjpjhaaDoorRets
import Derived.Test.YtommolbkcjpjhaaDoorCells
namespace Go.Proofs.YtommolbkcjpjhaaDoor
open Go Go.Proofs Go.RowKit
set_option linter.unusedVariables false
set_option linter.unusedSimpArgs false
set_option maxRecDepth 100000
def usesQ (n p b : Int) : Bool := (p / 3 == b) || ((p % 3 == 2) && ((p / 3 + 1) % n == b))
def countQ (n : Int) (ps : List Int) (b : Int) : Nat := (ps.filter fun p => usesQ n p b).length
def loadsTo (n : Int) (ps : List Int) (k : Nat) : List Int := (List.range k).map fun (b : Nat) => (countQ n ps b : Int)
def loadsQ (n : Int) (ps : List Int) : List Int := loadsTo n ps n.toNat
def usedTo (n p : Int) (k : Nat) : List Int := ((List.range k).filter fun (b : Nat) => usesQ n p b).map Int.ofNat
def usedQ (n p : Int) : List Int := usedTo n p n.toNat
def safeTo (n : Int) (ps : List Int) (k : Nat) : Bool := (List.range k).all fun (b : Nat) => decide (countQ n ps b ≤ 1)
def safeQ (n : Int) (ps : List Int) : Bool := safeTo n ps n.toNat
theorem countQ_next {n b : Int} {ps : List Int} {k : Nat} (h : k < ps.length) : countQ n (ps.take (k + 1)) b = countQ n (ps.take k) b + (if usesQ n ps[k] b = true then 1 else 0) := by
  rw [countQ, List.take_succ_eq_append_getElem h, List.filter_append, List.length_append, countQ]
  by_cases hu : usesQ n ps[k] b = true
  · simp [hu]
  · simp [hu]
theorem countQ_le (n b : Int) (ps : List Int) : countQ n ps b ≤ ps.length := List.length_filter_le _ _
theorem loadsTo_next (n : Int) (ps : List Int) (k : Nat) : loadsTo n ps (k + 1) = loadsTo n ps k ++ [(countQ n ps k : Int)] := by
  rw [loadsTo, List.range_succ, List.map_append]; rfl
theorem loadsTo_len (n : Int) (ps : List Int) (k : Nat) : (loadsTo n ps k).length = k := by simp [loadsTo]
theorem usedTo_yes {n p : Int} {k : Nat} (h : usesQ n p k = true) : usedTo n p (k + 1) = usedTo n p k ++ [(k : Int)] := by
  rw [usedTo, List.range_succ, List.filter_append, List.map_append]; simp [usedTo, h]
theorem usedTo_no {n p : Int} {k : Nat} (h : usesQ n p k = false) : usedTo n p (k + 1) = usedTo n p k := by
  rw [usedTo, List.range_succ, List.filter_append, List.map_append]; simp [usedTo, h]
theorem usedTo_len (n p : Int) (k : Nat) : (usedTo n p k).length ≤ k := by
  rw [usedTo, List.length_map]; exact Nat.le_trans (List.length_filter_le _ _) (by simp)
def PlacesOk (n : Int) (ps : List Int) : Prop := ∀ p ∈ ps, 0 ≤ p ∧ p ≤ 3 * n - 1
theorem isTraf_ok {n : Int} {ps : List Int} (h : isTraf n ps = true) : (2 ≤ n ∧ n ≤ 8) ∧ (1 ≤ ps.length ∧ ps.length ≤ 4) ∧ PlacesOk n ps := by
  simp only [isTraf, Bool.and_eq_true, inB, decide_eq_true_eq, Bool.not_eq_true', List.any_eq_false] at h
  refine ⟨⟨h.1.1.1, h.1.1.2⟩, ⟨by omega, by omega⟩, fun p hp => ?_⟩
  have := h.2 p hp
  simpa [Bool.and_eq_true] using this
end Go.Proofs.YtommolbkcjpjhaaDoor
