/- Contracts: the laws' helpers on reports. -/
import Derived.Test.YtommolbkcjpjhaaDoorProg
import Derived.Test.YtommolbkcjpjhaaDoorNum
import Derived.Test.YtommolbkcjpjhaaDoorInts
import Derived.Test.YtommolbkcjpjhaaDoorFunc
import Derived.Test.YtommolbkcjpjhaaDoorFaults
namespace Go.Proofs.YtommolbkcjpjhaaDoor
open Go Go.Proofs Go.RowKit
set_option linter.unusedVariables false
set_option linter.unusedSimpArgs false
set_option maxRecDepth 100000
def sz2 (n m : Nat) (left : Int) : Int := if szL n left < 0 then -1 else szL m (szL n left)
theorem sz2_bd {n m : Nat} {left : Int} (h : 0 ≤ sz2 n m left) : (n : Int) ≤ left ∧ (m : Int) ≤ left - n ∧ sz2 n m left = left - n - m := by
  unfold sz2 at *
  split at h
  · omega
  · rename_i h1
    have a := szL_bd (Int.not_lt.1 h1)
    have b := szL_bd h
    rw [a.2] at b
    rw [if_neg h1, a.2]
    exact ⟨a.1, b.1, b.2⟩
theorem sz2_range {n m : Nat} {left : Int} (h0 : 0 ≤ left) (h : left ≤ 1048576) : -1 ≤ sz2 n m left ∧ sz2 n m left ≤ 1048576 := by
  unfold sz2
  have a := szL_range (n := n) h0 h
  split
  · omega
  · exact szL_range (by omega) (by omega)
theorem Turned.above {B E : Nat} {w w' : World} (h : Turned B E w w') {b o : Nat} (hb : E ≤ b) (hl : b < w.heap.size) : w'.cell? ⟨b, o, none⟩ = w.cell? ⟨b, o, none⟩ := World.cell?_of_block (h.2 b hb hl)
end Go.Proofs.YtommolbkcjpjhaaDoor
