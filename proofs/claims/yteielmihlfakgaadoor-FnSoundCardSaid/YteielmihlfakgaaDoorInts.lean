/- Contracts: the laws' helpers on lists of numbers. -/
import Derived.Test.YteielmihlfakgaaDoorProg
import Derived.Test.YteielmihlfakgaaDoorBase
namespace Go.Proofs.YteielmihlfakgaaDoor
open Go Go.Proofs Go.RowKit
set_option linter.unusedVariables false
set_option linter.unusedSimpArgs false
set_option maxRecDepth 100000
theorem infoInt : (Tryd.prog.info? 2).map (fun i => (i.zero, i.size, i.bytes)) = some (some (.int .i64 0), 1, 8) := by kernel_rfl
def szL (n : Nat) (left : Int) : Int := if (n:Int) ≤ left then left - n else -1
theorem szL_bd {n : Nat} {left : Int} (h : 0 ≤ szL n left) : (n : Int) ≤ left ∧ szL n left = left - n := by
  unfold szL at *; split at h <;> simp_all
theorem szL_range {n : Nat} {left B : Int} (h0 : 0 ≤ left) (h : left ≤ B) : -1 ≤ szL n left ∧ szL n left ≤ B := by
  unfold szL; split <;> omega
def marks (k n : Nat) : List Int := (List.range n).map fun i => ((k + i : Nat) : Int)
theorem marks_length (k n : Nat) : (marks k n).length = n := by simp [marks]
theorem marks_get (k n i : Nat) (h : i < n) : (marks k n)[i]'(by rw [marks_length]; exact h) = ((k + i : Nat) : Int) := by simp [marks]
theorem marks_set (xs : List Int) (k i : Nat) (h : i < xs.length) : (marks k i ++ xs.drop i).set i ((k + i : Nat) : Int) = marks k (i + 1) ++ xs.drop (i + 1) := by
  rw [List.set_append, if_neg (by rw [marks_length]; omega), marks_length, Nat.sub_self, List.drop_eq_getElem_cons h, List.set_cons_zero]
  simp [marks, List.range_succ]
/-- A function that marks: it turns the one block of its slice. -/
def Marked (v : Value) (base n : Nat) (k : Nat) (e : TypeId) (w : World) (en : Ending) (w' : World) : Prop :=
  en = .returned (.int .i64 ((k + n : Nat) : Int)) ∧ Only v w w' ∧ w'.ownsRow base e 1 v n ((marks k n).map (Value.int .i64))
end Go.Proofs.YteielmihlfakgaaDoor
