/- Closed facts of this seat's program. -/
import Derived.Test.YtinkhjjeflhagaaProg
import Derived.Test.YtinkhjjeflhagaaLawBase
namespace Go.Proofs.Ytinkhjjeflhagaa
open Go Go.Proofs
theorem laidOut : laidOutB Try.prog = true := by kernel_rfl
theorem reads_of {l : List TypeId} (h : (l.all fun t => Try.prog.readableRec t && decide (t < Try.prog.types.size)) = true) : ∀ t ∈ l, Try.prog.readableRec t = true ∧ t < Try.prog.types.size := fun t ht => by
  have := List.all_eq_true.1 h t ht
  rw [Bool.and_eq_true, decide_eq_true_eq] at this
  exact this
end Go.Proofs.Ytinkhjjeflhagaa
