/- Closed facts of this seat's program. -/
import Derived.Test.YtekpbmoagabmeaaDoorProg
import Derived.Test.YtekpbmoagabmeaaDoorLawBase
namespace Go.Proofs.YtekpbmoagabmeaaDoor
open Go Go.Proofs
theorem laidOut : laidOutB Tryd.prog = true := by kernel_rfl
theorem reads_of {l : List TypeId} (h : (l.all fun t => Tryd.prog.readableRec t && decide (t < Tryd.prog.types.size)) = true) : ∀ t ∈ l, Tryd.prog.readableRec t = true ∧ t < Tryd.prog.types.size := fun t ht => by
  have := List.all_eq_true.1 h t ht
  rw [Bool.and_eq_true, decide_eq_true_eq] at this
  exact this
end Go.Proofs.YtekpbmoagabmeaaDoor
