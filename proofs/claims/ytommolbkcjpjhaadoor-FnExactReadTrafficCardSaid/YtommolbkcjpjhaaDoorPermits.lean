/- Contracts: moves that are permitted. -/
import Derived.Test.YtommolbkcjpjhaaDoorProg
import Derived.Test.YtommolbkcjpjhaaDoorReport3
import Derived.Test.YtommolbkcjpjhaaDoorTraffic
namespace Go.Proofs.YtommolbkcjpjhaaDoor
open Go Go.Proofs Go.RowKit
set_option linter.unusedVariables false
set_option linter.unusedSimpArgs false
set_option maxRecDepth 100000
def nextB (b p : Int) : Nat := (((p.tdiv 3) + 1).tmod b).toNat
def permP (b : Int) (ps f s : List Int) (t : Nat) : Bool := ((ps.getD t 0).tmod 3 != 1) || ((f.getD (nextB b (ps.getD t 0)) 0) + (s.getD (nextB b (ps.getD t 0)) 0) == 0)
theorem next_lt {b p : Int} (hb : 2 ≤ b ∧ b ≤ 8) (hp : 0 ≤ p ∧ p ≤ 3 * b - 1) : (((p.tdiv 3) + 1).tmod b) = (nextB b p : Int) ∧ (nextB b p : Int) < b ∧ 0 ≤ p.tdiv 3 ∧ p.tdiv 3 ≤ 7 := by
  have h1 : p.tdiv 3 = p / 3 := floor_pos hp.1
  have h2 : 0 ≤ (p.tdiv 3 + 1).tmod b := Int.tmod_nonneg _ (by omega)
  have h3 : (p.tdiv 3 + 1).tmod b < b := Int.tmod_lt_of_pos _ (by omega)
  unfold nextB
  rw [Int.toNat_of_nonneg h2]
  exact ⟨rfl, h3, by omega, by omega⟩
theorem NewOf.new {w W : World} (n : NewOf W) (h : New w W) : New w n.val := h.trans n.property
end Go.Proofs.YtommolbkcjpjhaaDoor
