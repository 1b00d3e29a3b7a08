/- Contracts: reports. -/
import Derived.Test.YtommolbkcjpjhaaDoorProg
import Derived.Test.YtommolbkcjpjhaaDoorReport
import Derived.Test.YtommolbkcjpjhaaDoorTraffic
import Derived.Test.YtommolbkcjpjhaaDoorCells
import Derived.Test.YtommolbkcjpjhaaDoorRets
namespace Go.Proofs.YtommolbkcjpjhaaDoor
open Go Go.Proofs Go.RowKit
set_option linter.unusedVariables false
set_option linter.unusedSimpArgs false
set_option maxRecDepth 100000
def badR (n : Int) : Bool := !inB n 0 1
def isRep (nb : Int) (f s : List Int) : Bool := !((f.length : Int) != nb) && !(f.any badR) && !((s.length : Int) != nb) && !(s.any badR)
theorem isRep_len {nb : Int} {f s : List Int} (h : isRep nb f s = true) : nb = f.length ∧ f.length = s.length ∧ f.any badR = false ∧ s.any badR = false := by
  simp [isRep] at h
  refine ⟨by omega, by omega, ?_, ?_⟩
  · rw [List.any_eq_false]; intro x hx; simpa using h.1.1.2 x hx
  · rw [List.any_eq_false]; intro x hx; simpa using h.2 x hx
def picked (p : Nat → Bool) (n : Nat) : List Int := ((List.range n).filter p).map fun i => ((i : Nat) : Int)
theorem picked_in {p : Nat → Bool} {n : Nat} (h : p n = true) : picked p (n + 1) = picked p n ++ [(n : Int)] := by simp [picked, List.range_succ, List.filter_append, h]
theorem picked_out {p : Nat → Bool} {n : Nat} (h : p n = false) : picked p (n + 1) = picked p n := by simp [picked, List.range_succ, List.filter_append, h]
theorem picked_le (p : Nat → Bool) (n : Nat) : (picked p n).length ≤ n := by
  rw [picked, List.length_map]; exact Nat.le_trans (List.length_filter_le _ _) (by simp)
theorem picked_congr {p q : Nat → Bool} {n : Nat} (h : ∀ k, k < n → p k = q k) : picked p n = picked q n := by
  rw [picked, picked, List.filter_congr (fun x hx => h x (List.mem_range.1 hx))]
def repOf (nb : Int) (f s : List Int) (p : Nat → Bool) : List Int × Int := if inB nb 2 8 then if isRep nb f s then (picked p f.length, 0) else ([], 2) else ([], 1)
end Go.Proofs.YtommolbkcjpjhaaDoor
