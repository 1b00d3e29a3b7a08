/- Closed facts of this seat's program. -/
import Derived.Test.YtflhdijlhdckoaaGreatDoorProg
import Derived.Test.YtflhdijlhdckoaaGreatDoorLawBase
namespace Go.Proofs.YtflhdijlhdckoaaGreatDoor
open Go Go.Proofs
theorem laidOut : laidOutB Tryz.prog = true := by kernel_rfl
theorem reads_of {l : List TypeId} (h : (l.all fun t => Tryz.prog.readableRec t && decide (t < Tryz.prog.types.size)) = true) : ∀ t ∈ l, Tryz.prog.readableRec t = true ∧ t < Tryz.prog.types.size := fun t ht => by
  have := List.all_eq_true.1 h t ht
  rw [Bool.and_eq_true, decide_eq_true_eq] at this
  exact this
end Go.Proofs.YtflhdijlhdckoaaGreatDoor
