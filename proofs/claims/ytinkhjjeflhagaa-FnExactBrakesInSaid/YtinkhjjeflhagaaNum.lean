/- Contracts: numbers and intervals. -/
import Derived.Test.YtinkhjjeflhagaaProg
import Derived.Test.YtinkhjjeflhagaaBase
namespace Go.Proofs.Ytinkhjjeflhagaa
open Go Go.Proofs Go.RowKit
set_option linter.unusedVariables false
set_option linter.unusedSimpArgs false
set_option maxRecDepth 100000
theorem within_any (x a b : Int) (w : World) :
    Calls Try.prog 29 #[.int .i64 x, .int .i64 a, .int .i64 b] w fun e w' => e = .returned (.bool (inB x a b)) ∧ w = w' := by
  go_enter Try.func29, Try.ntmps29
  go_wp2_with fail
  all_goals (go_ret; refine ⟨?_, rfl⟩; unfold inB; first | (simp_all; done) | (simp; omega))
theorem l01In_any (x a b : Int) (w : World) :
    Calls Try.prog 32 #[.int .i64 x, .int .i64 a, .int .i64 b] w fun e w' => e = .returned (.bool (inB x a b)) ∧ w = w' := by
  go_enter Try.func32, Try.ntmps32
  go_wp2_with fail
  all_goals (go_ret; refine ⟨?_, rfl⟩; unfold inB; first | (simp_all; done) | (simp; omega))
def isVal (x : Int) : Bool := inB x (-1000000000000) 1000000000000
def isIv (lo hi : Int) : Bool := isVal lo && isVal hi && decide (lo ≤ hi)
theorem l01Is_any (x : Int) (w : World) : Calls Try.prog 54 #[.int .i64 x] w fun e w' => e = .returned (.bool (isVal x)) ∧ w = w' := by
  go_enter Try.func54, Try.ntmps54
  go_wp2_with ((go_at_call 32; refine (l01In_any _ _ _ _).mono ?_; rintro e w' ⟨rfl, rfl⟩))
  go_ret
  exact ⟨rfl, rfl⟩
theorem isValue_any (x : Int) (w : World) : Calls Try.prog 55 #[.int .i64 x] w fun e w' => e = .returned (.bool (isVal x)) ∧ w = w' := by
  go_enter Try.func55, Try.ntmps55
  go_wp2_with ((go_at_call 29; refine (within_any _ _ _ _).mono ?_; rintro e w' ⟨rfl, rfl⟩))
  go_ret
  exact ⟨rfl, rfl⟩
theorem field_iv0 (a b : Int) (w : World) : (Instr.field 46 (.agg #[.int .i64 a, .int .i64 b]) 0).run Try.prog w = .ok (.int .i64 a) w := by kernel_rfl
theorem field_iv1 (a b : Int) (w : World) : (Instr.field 46 (.agg #[.int .i64 a, .int .i64 b]) 1).run Try.prog w = .ok (.int .i64 b) w := by kernel_rfl
theorem sIsInterval_any (lo hi : Int) (w : World) : Calls Try.prog 40 #[.agg #[.int .i64 lo, .int .i64 hi]] w fun e w' => e = .returned (.bool (isIv lo hi)) ∧ New w w' := by
  go_enter Try.func40, Try.ntmps40
  go_wp2_with ((go_at_call 54; refine (l01Is_any _ _).mono ?_; rintro e w' ⟨rfl, rfl⟩))
  all_goals (go_ret; exact ⟨ret_bool (by simp_all [isIv]), (by repeat (first | with_reducible exact New.refl _ | with_reducible assumption | with_reducible refine New.drew ?_ | with_reducible refine New.drewN ?_ _ | with_reducible refine New.alloc ?_ _ | with_reducible refine New.setCell ?_ (by first | (simp; done) | (simp; omega) | omega) _ | with_reducible refine New.trans ?_ (by with_reducible assumption)))⟩)
theorem iIsInterval_any (lo hi : Int) (w : World) : Calls Try.prog 41 #[.agg #[.int .i64 lo, .int .i64 hi]] w fun e w' => e = .returned (.bool (isIv lo hi)) ∧ New w w' := by
  go_enter Try.func41, Try.ntmps41
  go_wp2_with ((go_at_call 55; refine (isValue_any _ _).mono ?_; rintro e w' ⟨rfl, rfl⟩))
  all_goals (go_ret; exact ⟨ret_bool (by simp_all [isIv]), (by repeat (first | with_reducible exact New.refl _ | with_reducible assumption | with_reducible refine New.drew ?_ | with_reducible refine New.drewN ?_ _ | with_reducible refine New.alloc ?_ _ | with_reducible refine New.setCell ?_ (by first | (simp; done) | (simp; omega) | omega) _ | with_reducible refine New.trans ?_ (by with_reducible assumption)))⟩)
def ivIn (lo hi a b : Int) : Bool := isIv lo hi && decide (a ≤ lo) && decide (hi ≤ b)
theorem l03Within_any (lo hi a b : Int) (w : World) : Calls Try.prog 34 #[.agg #[.int .i64 lo, .int .i64 hi], .int .i64 a, .int .i64 b] w fun e w' => e = .returned (.bool (ivIn lo hi a b)) ∧ New w w' := by
  go_enter Try.func34, Try.ntmps34
  go_wp2_with fail
  refine (sIsInterval_any _ _ _).mono ?_; rintro e w1 ⟨rfl, hb⟩
  obtain ⟨hc, hf⟩ := hb.rules
  go_wp2_with fail
  all_goals (go_ret; exact ⟨ret_bool (by first | (simp_all [ivIn]; done) | (simp [*, ivIn]; omega)), (by repeat (first | with_reducible exact New.refl _ | with_reducible assumption | with_reducible refine New.drew ?_ | with_reducible refine New.drewN ?_ _ | with_reducible refine New.alloc ?_ _ | with_reducible refine New.setCell ?_ (by first | (simp; done) | (simp; omega) | omega) _ | with_reducible refine New.trans ?_ (by with_reducible assumption)))⟩)
theorem isWithin_any (lo hi a b : Int) (w : World) : Calls Try.prog 42 #[.agg #[.int .i64 lo, .int .i64 hi], .agg #[.int .i64 a, .int .i64 b]] w fun e w' => e = .returned (.bool (decide (a ≤ lo) && decide (hi ≤ b))) ∧ New w w' := by
  go_enter Try.func42, Try.ntmps42
  go_wp2_with fail
  all_goals (go_ret; exact ⟨ret_bool (by first | (simp_all; done) | (simp [*]; omega)), (by repeat (first | with_reducible exact New.refl _ | with_reducible assumption | with_reducible refine New.drew ?_ | with_reducible refine New.drewN ?_ _ | with_reducible refine New.alloc ?_ _ | with_reducible refine New.setCell ?_ (by first | (simp; done) | (simp; omega) | omega) _ | with_reducible refine New.trans ?_ (by with_reducible assumption)))⟩)
def ivWithin (lo hi a b : Int) : Bool := isIv lo hi && isIv a b && (decide (a ≤ lo) && decide (hi ≤ b))
theorem IsWithin_any (lo hi a b : Int) (w : World) : Calls Try.prog 36 #[.agg #[.int .i64 lo, .int .i64 hi], .agg #[.int .i64 a, .int .i64 b]] w fun e w' => e = .returned (.bool (ivWithin lo hi a b)) ∧ New w w' := by
  rcases Bool.eq_false_or_eq_true (isIv lo hi) with h1 | h1; rotate_left
  · go_enter Try.func36, Try.ntmps36
    go_wp2_with fail
    refine (iIsInterval_any _ _ _).mono ?_; rintro e w1 ⟨rfl, hb⟩
    obtain ⟨hc, hf⟩ := hb.rules
    go_wp2_with fail
    try (refine (iIsInterval_any _ _ _).mono ?_; rintro e w2 ⟨rfl, hb2⟩; replace hb2 := hb.trans hb2; clear hc hf; obtain ⟨hc, hf⟩ := hb2.rules; go_wp2_with fail)
    try (refine (isWithin_any _ _ _ _ _).mono ?_; rintro e w3 ⟨rfl, hb3⟩; replace hb3 := hb2.trans hb3; go_wp2_with fail)
    go_ret
    exact ⟨ret_bool (by simp [ivWithin, *]), (by repeat (first | with_reducible exact New.refl _ | with_reducible assumption | with_reducible refine New.drew ?_ | with_reducible refine New.drewN ?_ _ | with_reducible refine New.alloc ?_ _ | with_reducible refine New.setCell ?_ (by first | (simp; done) | (simp; omega) | omega) _ | with_reducible refine New.trans ?_ (by with_reducible assumption)))⟩
  rcases Bool.eq_false_or_eq_true (isIv a b) with h2 | h2; rotate_left
  · go_enter Try.func36, Try.ntmps36
    go_wp2_with fail
    refine (iIsInterval_any _ _ _).mono ?_; rintro e w1 ⟨rfl, hb⟩
    obtain ⟨hc, hf⟩ := hb.rules
    go_wp2_with fail
    try (refine (iIsInterval_any _ _ _).mono ?_; rintro e w2 ⟨rfl, hb2⟩; replace hb2 := hb.trans hb2; clear hc hf; obtain ⟨hc, hf⟩ := hb2.rules; go_wp2_with fail)
    try (refine (isWithin_any _ _ _ _ _).mono ?_; rintro e w3 ⟨rfl, hb3⟩; replace hb3 := hb2.trans hb3; go_wp2_with fail)
    go_ret
    exact ⟨ret_bool (by simp [ivWithin, *]), (by repeat (first | with_reducible exact New.refl _ | with_reducible assumption | with_reducible refine New.drew ?_ | with_reducible refine New.drewN ?_ _ | with_reducible refine New.alloc ?_ _ | with_reducible refine New.setCell ?_ (by first | (simp; done) | (simp; omega) | omega) _ | with_reducible refine New.trans ?_ (by with_reducible assumption)))⟩
  go_enter Try.func36, Try.ntmps36
  go_wp2_with fail
  refine (iIsInterval_any _ _ _).mono ?_; rintro e w1 ⟨rfl, hb⟩
  obtain ⟨hc, hf⟩ := hb.rules
  go_wp2_with fail
  try (refine (iIsInterval_any _ _ _).mono ?_; rintro e w2 ⟨rfl, hb2⟩; replace hb2 := hb.trans hb2; clear hc hf; obtain ⟨hc, hf⟩ := hb2.rules; go_wp2_with fail)
  try (refine (isWithin_any _ _ _ _ _).mono ?_; rintro e w3 ⟨rfl, hb3⟩; replace hb3 := hb2.trans hb3; go_wp2_with fail)
  go_ret
  exact ⟨ret_bool (by simp [ivWithin, *]), (by repeat (first | with_reducible exact New.refl _ | with_reducible assumption | with_reducible refine New.drew ?_ | with_reducible refine New.drewN ?_ _ | with_reducible refine New.alloc ?_ _ | with_reducible refine New.setCell ?_ (by first | (simp; done) | (simp; omega) | omega) _ | with_reducible refine New.trans ?_ (by with_reducible assumption)))⟩
end Go.Proofs.Ytinkhjjeflhagaa
