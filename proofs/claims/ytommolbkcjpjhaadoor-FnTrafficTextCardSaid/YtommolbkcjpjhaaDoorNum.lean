/- Contracts: numbers and intervals. -/
import Derived.Test.YtommolbkcjpjhaaDoorProg
import Derived.Test.YtommolbkcjpjhaaDoorBase
namespace Go.Proofs.YtommolbkcjpjhaaDoor
open Go Go.Proofs Go.RowKit
set_option linter.unusedVariables false
set_option linter.unusedSimpArgs false
set_option maxRecDepth 100000
theorem within_any (x a b : Int) (w : World) :
    Calls Tryd.prog 22 #[.int .i64 x, .int .i64 a, .int .i64 b] w fun e w' => e = .returned (.bool (inB x a b)) ∧ w = w' := by
  go_enter Tryd.func22, Tryd.ntmps22
  go_wp2_with fail
  all_goals (go_ret; refine ⟨?_, rfl⟩; unfold inB; first | (simp_all; done) | (simp; omega))
theorem l01In_any (x a b : Int) (w : World) :
    Calls Tryd.prog 44 #[.int .i64 x, .int .i64 a, .int .i64 b] w fun e w' => e = .returned (.bool (inB x a b)) ∧ w = w' := by
  go_enter Tryd.func44, Tryd.ntmps44
  go_wp2_with fail
  all_goals (go_ret; refine ⟨?_, rfl⟩; unfold inB; first | (simp_all; done) | (simp; omega))
def isVal (x : Int) : Bool := inB x (-1000000000000) 1000000000000
def isIv (lo hi : Int) : Bool := isVal lo && isVal hi && decide (lo ≤ hi)
theorem isBlockCount_any (x : Int) (w : World) : Calls Tryd.prog 36 #[.int .i64 x] w fun e w' => e = .returned (.bool (inB x 2 8)) ∧ w = w' := by
  go_enter Tryd.func36, Tryd.ntmps36
  go_wp2_with ((go_at_call 22; refine (within_any _ _ _ _).mono ?_; rintro e w' ⟨rfl, rfl⟩))
  go_ret
  exact ⟨rfl, rfl⟩
def ivIn (lo hi a b : Int) : Bool := isIv lo hi && decide (a ≤ lo) && decide (hi ≤ b)
end Go.Proofs.YtommolbkcjpjhaaDoor
