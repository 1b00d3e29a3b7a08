/- Contracts: the blocks of a report. -/
import Derived.Test.YtommolbkcjpjhaaDoorProg
import Derived.Test.YtommolbkcjpjhaaDoorReport2
namespace Go.Proofs.YtommolbkcjpjhaaDoor
open Go Go.Proofs Go.RowKit
set_option linter.unusedVariables false
set_option linter.unusedSimpArgs false
set_option maxRecDepth 100000
def sumP (f s : List Int) (sum : Int) (k : Nat) : Bool := (f.getD k 0 + s.getD k 0) == sum
theorem badR_at {f : List Int} (h : f.any badR = false) {k : Nat} (hk : k < f.length) : 0 ≤ f[k] ∧ f[k] ≤ 1 := by
  rw [List.any_eq_false] at h
  have := h f[k] (List.getElem_mem hk)
  simp [badR] at this
  exact inB_iff.1 this
theorem own_drewN {w : World} {base : Nat} {e : TypeId} {sz : Nat} {v : Value} {n : Nat} {cs : List Value} (h : w.ownsRow base e sz v n cs) (k : Nat) : (w.drewN k).ownsRow base e sz v n cs := own_new h (New.drewN (New.refl w) k)
theorem infoI64r : (Tryd.prog.info? 2).map (fun i => (i.zero, i.size, i.bytes)) = some (some (.int .i64 0), 1, 8) := by kernel_rfl
end Go.Proofs.YtommolbkcjpjhaaDoor
