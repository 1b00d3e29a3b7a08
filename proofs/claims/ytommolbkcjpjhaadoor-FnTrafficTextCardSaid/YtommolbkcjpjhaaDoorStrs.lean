/- Contracts: the library's functions on slices of strings. -/
import Derived.Test.YtommolbkcjpjhaaDoorProg
import Derived.Test.YtommolbkcjpjhaaDoorFunc
namespace Go.Proofs.YtommolbkcjpjhaaDoor
open Go Go.Proofs Go.RowKit
set_option linter.unusedVariables false
set_option linter.unusedSimpArgs false
set_option maxRecDepth 100000
abbrev RdS (w : World) (v : Value) (xs : List ByteArray) : Prop := Rd w v xs.length (xs.map Value.string)
theorem RdS.open {w : World} {v : Value} {xs : List ByteArray} (h : RdS w v xs) : ∃ (a : Option Addr) (cap : Nat), v = .slice a xs.length cap ∧ xs.length ≤ 9223372036854775807 ∧
    Hid (∀ (w' : World), New w w' → ∀ k (hk : k < xs.length), ∃ b off, a = some ⟨b, off, none⟩ ∧ b < w.heap.size ∧ w'.cell? ⟨b, off + k, none⟩ = some (.string xs[k])) := by
  obtain ⟨a, cap, rfl, hn, h0, hc⟩ := h
  refine ⟨a, cap, rfl, hn, Lib.hid fun w' hb k hk => ?_⟩
  obtain ⟨b, off, ha, hlt, hcell⟩ := hc k (.string xs[k]) (by simp [hk])
  exact ⟨b, off, ha, hlt, (hb.cell hlt).trans hcell⟩
end Go.Proofs.YtommolbkcjpjhaaDoor
