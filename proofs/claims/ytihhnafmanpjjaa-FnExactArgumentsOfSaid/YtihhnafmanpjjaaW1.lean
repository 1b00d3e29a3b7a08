/- Contracts. -/
import Derived.Test.YtihhnafmanpjjaaProg
import Derived.WalkKit
namespace Go.Proofs.Ytihhnafmanpjjaa
open Go Go.Proofs Go.RowKit

def takes (k : Int) : Int := if k = 1 ∨ k = 2 ∨ k = 3 then 0 else if k = 4 ∨ k = 7 ∨ k = 8 ∨ k = 9 then 1 else 2
def inB (x a b : Int) : Bool := decide (a ≤ x) && decide (x ≤ b)

set_option maxHeartbeats 400000 in
theorem arguments_any (k : Int) (w : World) :
    Calls Try.prog 26 #[.int .i64 k] w fun e w' => e = .returned (.int .i64 (takes k)) ∧ w = w' := by
  go_enter Try.func26, Try.ntmps26
  go_wp2_with fail
  all_goals (go_ret; refine ⟨?_, rfl⟩; simp_all [takes])
set_option maxHeartbeats 400000 in
theorem within_any (x a b : Int) (w : World) :
    Calls Try.prog 25 #[.int .i64 x, .int .i64 a, .int .i64 b] w fun e w' => e = .returned (.bool (inB x a b)) ∧ w = w' := by
  go_enter Try.func25, Try.ntmps25
  go_wp2_with fail
  all_goals (go_ret; refine ⟨?_, rfl⟩; unfold inB; first | (simp_all; done) | (simp; omega))
  
theorem l13Takes_any (k : Int) (w : World) :
    Calls Try.prog 24 #[.int .i64 k] w fun e w' => e = .returned (.int .i64 (takes k)) ∧ w = w' := by
  go_enter Try.func24, Try.ntmps24
  go_wp2_with fail
  all_goals (go_ret; refine ⟨?_, rfl⟩; simp_all [takes])
theorem l01In_any (x a b : Int) (w : World) :
    Calls Try.prog 28 #[.int .i64 x, .int .i64 a, .int .i64 b] w fun e w' => e = .returned (.bool (inB x a b)) ∧ w = w' := by
  go_enter Try.func28, Try.ntmps28
  go_wp2_with fail
  all_goals (go_ret; refine ⟨?_, rfl⟩; unfold inB; first | (simp_all; done) | (simp; omega))
theorem l13Kind_any (k : Int) (w : World) :
    Calls Try.prog 23 #[.int .i64 k] w fun e w' => e = .returned (.bool (inB k 1 12)) ∧ w = w' := by
  go_enter Try.func23, Try.ntmps23
  go_wp2_with (go_at_call 28; refine (l01In_any _ _ _ _).mono ?_; rintro e w' ⟨rfl, rfl⟩)
  all_goals (go_ret; exact ⟨rfl, rfl⟩)
def argsOf (k : Int) : Int × Int := if inB k 1 12 then (takes k, 0) else (0, 2)
theorem specArgumentsOf_any (k : Int) (w : World) :
    Calls Try.prog 7 #[.int .i64 k] w fun e w' => e = .returned (.tuple #[.int .i64 (argsOf k).1, .int .i64 (argsOf k).2]) ∧ w = w' := by
  go_enter Try.func7, Try.ntmps7
  go_wp2_with (first | (go_at_call 23; refine (l13Kind_any _ _).mono ?_; rintro e w' ⟨rfl, rfl⟩) | (go_at_call 24; refine (l13Takes_any _ _).mono ?_; rintro e w' ⟨rfl, rfl⟩))
  all_goals (go_ret2; refine ⟨?_, rfl⟩; simp_all [argsOf])
theorem implArgumentsOf_any (k : Int) (w : World) :
    Calls Try.prog 8 #[.int .i64 k] w fun e w' => e = .returned (.tuple #[.int .i64 (argsOf k).1, .int .i64 (argsOf k).2]) ∧ w = w' := by
  go_enter Try.func8, Try.ntmps8
  go_wp2_with (first | (go_at_call 25; refine (within_any _ _ _ _).mono ?_; rintro e w' ⟨rfl, rfl⟩) | (go_at_call 26; refine (arguments_any _ _).mono ?_; rintro e w' ⟨rfl, rfl⟩))
  all_goals (go_ret2; refine ⟨?_, rfl⟩; simp_all [argsOf])
theorem law_any (k : Int) (w : World) :
    Calls Try.prog 3 #[.int .i64 k] w fun e w' => e = .returned (.bool true) ∧ w = w' := by
  go_enter Try.func3, Try.ntmps3
  go_wp2_with (first | (go_at_call 7; refine (specArgumentsOf_any _ _).mono ?_; rintro e w' ⟨rfl, rfl⟩) | (go_at_call 8; refine (implArgumentsOf_any _ _).mono ?_; rintro e w' ⟨rfl, rfl⟩))
  all_goals (go_ret; exact ⟨rfl, rfl⟩)
end Go.Proofs.Ytihhnafmanpjjaa
