/- Contracts: the laws' marks that are texts. -/
import Derived.Laws.BytesArg
import Derived.Test.YteielmihlfakgaaGreatDoorProg
import Derived.Test.YteielmihlfakgaaGreatDoorVA
namespace Go.Proofs.YteielmihlfakgaaGreatDoor
open Go Go.Proofs Go.RowKit
set_option linter.unusedVariables false
set_option linter.unusedSimpArgs false
set_option maxRecDepth 100000
def digB (j : Nat) : ByteArray := strOfNums [48 + (j : Int) % 10]
theorem digB_size (j : Nat) : (digB j).size = 1 := by rw [digB, strOfNums_size]; rfl
def markGo (j : Nat) (acc : ByteArray) : ByteArray := if h : j = 0 then acc else markGo (j / 10) (digB j ++ acc)
termination_by j
decreasing_by omega
theorem markGo_zero (acc : ByteArray) : markGo 0 acc = acc := by rw [markGo]; simp
theorem markGo_pos {j : Nat} (h : ¬ j = 0) (acc : ByteArray) : markGo j acc = markGo (j / 10) (digB j ++ acc) := by rw [markGo]; simp [h]
def markS (k : Nat) : ByteArray := if k = 0 then ⟨#[109, 48]⟩ else ⟨#[109]⟩ ++ markGo k ⟨#[]⟩
theorem pow_bd {j s k : Nat} (hj : 1 ≤ j) (h : j * 10 ^ s ≤ k) (hk : k ≤ 1000000000000) : s ≤ 12 := by
  rcases Nat.lt_or_ge 12 s with hs | hs
  · have h1 : 10 ^ 13 ≤ 10 ^ s := Nat.pow_le_pow_right (by omega) hs
    have h2 : 10 ^ s ≤ j * 10 ^ s := Nat.le_mul_of_pos_left _ hj
    have h3 : (10 : Nat) ^ 13 = 10000000000000 := by decide
    omega
  · exact hs
theorem pow_next {j s k : Nat} (h : j * 10 ^ s ≤ k) : j / 10 * 10 ^ (s + 1) ≤ k := by
  have h1 : j / 10 * 10 ≤ j := Nat.div_mul_le_self j 10
  have h2 : j / 10 * 10 ^ (s + 1) = (j / 10 * 10) * 10 ^ s := by rw [Nat.pow_succ, Nat.mul_assoc, Nat.mul_comm (10 ^ s) 10]
  rw [h2]
  exact Nat.le_trans (Nat.mul_le_mul_right _ h1) h
end Go.Proofs.YteielmihlfakgaaGreatDoor
