/- Contracts: numbers and intervals. -/
import Derived.Test.YteielmihlfakgaaDoorProg
import Derived.Test.YteielmihlfakgaaDoorBase
namespace Go.Proofs.YteielmihlfakgaaDoor
open Go Go.Proofs Go.RowKit
set_option linter.unusedVariables false
set_option linter.unusedSimpArgs false
set_option maxRecDepth 100000
theorem within_any (x a b : Int) (w : World) :
    Calls Tryd.prog 94 #[.int .i64 x, .int .i64 a, .int .i64 b] w fun e w' => e = .returned (.bool (inB x a b)) ∧ w = w' := by
  go_enter Tryd.func94, Tryd.ntmps94
  go_wp2_with fail
  all_goals (go_ret; refine ⟨?_, rfl⟩; unfold inB; first | (simp_all; done) | (simp; omega))
theorem l01In_any (x a b : Int) (w : World) :
    Calls Tryd.prog 92 #[.int .i64 x, .int .i64 a, .int .i64 b] w fun e w' => e = .returned (.bool (inB x a b)) ∧ w = w' := by
  go_enter Tryd.func92, Tryd.ntmps92
  go_wp2_with fail
  all_goals (go_ret; refine ⟨?_, rfl⟩; unfold inB; first | (simp_all; done) | (simp; omega))
def isVal (x : Int) : Bool := inB x (-1000000000000) 1000000000000
def isIv (lo hi : Int) : Bool := isVal lo && isVal hi && decide (lo ≤ hi)
def ivIn (lo hi a b : Int) : Bool := isIv lo hi && decide (a ≤ lo) && decide (hi ≤ b)
end Go.Proofs.YteielmihlfakgaaDoor
