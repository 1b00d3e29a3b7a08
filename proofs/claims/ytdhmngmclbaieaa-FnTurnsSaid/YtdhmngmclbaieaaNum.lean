/- Contracts: numbers and intervals. -/
import Derived.Test.YtdhmngmclbaieaaProg
import Derived.Test.YtdhmngmclbaieaaBase
namespace Go.Proofs.Ytdhmngmclbaieaa
open Go Go.Proofs Go.RowKit
set_option linter.unusedVariables false
set_option linter.unusedSimpArgs false
set_option maxRecDepth 100000
theorem within_any (x a b : Int) (w : World) :
    Calls Try.prog 65 #[.int .i64 x, .int .i64 a, .int .i64 b] w fun e w' => e = .returned (.bool (inB x a b)) ∧ w = w' := by
  go_enter Try.func65, Try.ntmps65
  go_wp2_with fail
  all_goals (go_ret; refine ⟨?_, rfl⟩; unfold inB; first | (simp_all; done) | (simp; omega))
theorem l01In_any (x a b : Int) (w : World) :
    Calls Try.prog 63 #[.int .i64 x, .int .i64 a, .int .i64 b] w fun e w' => e = .returned (.bool (inB x a b)) ∧ w = w' := by
  go_enter Try.func63, Try.ntmps63
  go_wp2_with fail
  all_goals (go_ret; refine ⟨?_, rfl⟩; unfold inB; first | (simp_all; done) | (simp; omega))
def isVal (x : Int) : Bool := inB x (-1000000000000) 1000000000000
def isIv (lo hi : Int) : Bool := isVal lo && isVal hi && decide (lo ≤ hi)
theorem l01Is_any (x : Int) (w : World) : Calls Try.prog 126 #[.int .i64 x] w fun e w' => e = .returned (.bool (isVal x)) ∧ w = w' := by
  go_enter Try.func126, Try.ntmps126
  go_wp2_with ((go_at_call 63; refine (l01In_any _ _ _ _).mono ?_; rintro e w' ⟨rfl, rfl⟩))
  go_ret
  exact ⟨rfl, rfl⟩
theorem isValue_any (x : Int) (w : World) : Calls Try.prog 127 #[.int .i64 x] w fun e w' => e = .returned (.bool (isVal x)) ∧ w = w' := by
  go_enter Try.func127, Try.ntmps127
  go_wp2_with ((go_at_call 65; refine (within_any _ _ _ _).mono ?_; rintro e w' ⟨rfl, rfl⟩))
  go_ret
  exact ⟨rfl, rfl⟩
theorem isBlockCount_any (x : Int) (w : World) : Calls Try.prog 64 #[.int .i64 x] w fun e w' => e = .returned (.bool (inB x 2 8)) ∧ w = w' := by
  go_enter Try.func64, Try.ntmps64
  go_wp2_with ((go_at_call 65; refine (within_any _ _ _ _).mono ?_; rintro e w' ⟨rfl, rfl⟩))
  go_ret
  exact ⟨rfl, rfl⟩
theorem field_iv0 (a b : Int) (w : World) : (Instr.field 42 (.agg #[.int .i64 a, .int .i64 b]) 0).run Try.prog w = .ok (.int .i64 a) w := by kernel_rfl
theorem field_iv1 (a b : Int) (w : World) : (Instr.field 42 (.agg #[.int .i64 a, .int .i64 b]) 1).run Try.prog w = .ok (.int .i64 b) w := by kernel_rfl
theorem sIsInterval_any (lo hi : Int) (w : World) : Calls Try.prog 122 #[.agg #[.int .i64 lo, .int .i64 hi]] w fun e w' => e = .returned (.bool (isIv lo hi)) ∧ New w w' := by
  go_enter Try.func122, Try.ntmps122
  go_wp2_with ((go_at_call 126; refine (l01Is_any _ _).mono ?_; rintro e w' ⟨rfl, rfl⟩))
  all_goals (go_ret; exact ⟨ret_bool (by simp_all [isIv]), (by repeat (first | with_reducible exact New.refl _ | with_reducible assumption | with_reducible refine New.drew ?_ | with_reducible refine New.drewN ?_ _ | with_reducible refine New.alloc ?_ _ | with_reducible refine New.setCell ?_ (by first | (simp; done) | (simp; omega) | omega) _ | with_reducible refine New.trans ?_ (by with_reducible assumption)))⟩)
theorem iIsInterval_any (lo hi : Int) (w : World) : Calls Try.prog 123 #[.agg #[.int .i64 lo, .int .i64 hi]] w fun e w' => e = .returned (.bool (isIv lo hi)) ∧ New w w' := by
  go_enter Try.func123, Try.ntmps123
  go_wp2_with ((go_at_call 127; refine (isValue_any _ _).mono ?_; rintro e w' ⟨rfl, rfl⟩))
  all_goals (go_ret; exact ⟨ret_bool (by simp_all [isIv]), (by repeat (first | with_reducible exact New.refl _ | with_reducible assumption | with_reducible refine New.drew ?_ | with_reducible refine New.drewN ?_ _ | with_reducible refine New.alloc ?_ _ | with_reducible refine New.setCell ?_ (by first | (simp; done) | (simp; omega) | omega) _ | with_reducible refine New.trans ?_ (by with_reducible assumption)))⟩)
def ivIn (lo hi a b : Int) : Bool := isIv lo hi && decide (a ≤ lo) && decide (hi ≤ b)
theorem l03Within_any (lo hi a b : Int) (w : World) : Calls Try.prog 111 #[.agg #[.int .i64 lo, .int .i64 hi], .int .i64 a, .int .i64 b] w fun e w' => e = .returned (.bool (ivIn lo hi a b)) ∧ New w w' := by
  go_enter Try.func111, Try.ntmps111
  go_wp2_with fail
  refine (sIsInterval_any _ _ _).mono ?_; rintro e w1 ⟨rfl, hb⟩
  obtain ⟨hc, hf⟩ := hb.rules
  go_wp2_with fail
  all_goals (go_ret; exact ⟨ret_bool (by first | (simp_all [ivIn]; done) | (simp [*, ivIn]; omega)), (by repeat (first | with_reducible exact New.refl _ | with_reducible assumption | with_reducible refine New.drew ?_ | with_reducible refine New.drewN ?_ _ | with_reducible refine New.alloc ?_ _ | with_reducible refine New.setCell ?_ (by first | (simp; done) | (simp; omega) | omega) _ | with_reducible refine New.trans ?_ (by with_reducible assumption)))⟩)
set_option maxHeartbeats 400000 in
theorem down_any (a b : Int) (w : World) (hb : 1 ≤ b) (hb' : b ≤ 1000000000000000000) (ha : -1000000000000000000 ≤ a) (ha' : a ≤ 1000000000000000000) :
    Calls Try.prog 77 #[.int .i64 a, .int .i64 b] w fun e w' => e = .returned (.int .i64 (a / b)) ∧ w = w' := by
  have hb0 : (b == 0) = false := by rw [beq_eq_false_iff_ne]; omega
  have hbn : decide (b < 0) = false := by simp; omega
  obtain ⟨t1, t2⟩ := tdiv_bd (b := b) _ ha ha'
  go_enter Try.func77, Try.ntmps77
  go_wp2_with fail
  all_goals (go_ret; refine ⟨ret_int ?_, rfl⟩)
  · exact floor_zero (by assumption)
  · obtain ⟨h1, h2⟩ : (a.tmod b != 0) = true ∧ a < 0 := by assumption
    exact floor_neg hb h2 (by assumption)
  · have h1 : (a.tmod b != 0) = false ∨ 0 ≤ a := by assumption
    have h2 : ¬ a.tmod b = 0 := by assumption
    exact floor_pos (by rcases h1 with h | h; exact absurd (by simpa using h) h2; exact h)
set_option maxHeartbeats 400000 in
theorem l01Floor_any (a b : Int) (w : World) (hb : 1 ≤ b) (hb' : b ≤ 1000000000000000000) (ha : -1000000000000000000 ≤ a) (ha' : a ≤ 1000000000000000000) :
    Calls Try.prog 74 #[.int .i64 a, .int .i64 b] w fun e w' => e = .returned (.int .i64 (a / b)) ∧ w = w' := by
  have hb0 : (b == 0) = false := by rw [beq_eq_false_iff_ne]; omega
  have hbn : decide (b < 0) = false := by simp; omega
  obtain ⟨t1, t2⟩ := tdiv_bd (b := b) _ ha ha'
  go_enter Try.func74, Try.ntmps74
  go_wp2_with fail
  all_goals (go_ret; refine ⟨ret_int ?_, rfl⟩)
  · exact floor_zero (by assumption)
  · obtain ⟨h1, h2⟩ : (a.tmod b != 0) = true ∧ a < 0 := by assumption
    exact floor_neg hb h2 (by assumption)
  · have h1 : (a.tmod b != 0) = false ∨ 0 ≤ a := by assumption
    have h2 : ¬ a.tmod b = 0 := by assumption
    exact floor_pos (by rcases h1 with h | h; exact absurd (by simpa using h) h2; exact h)
theorem up_any (a b : Int) (w : World) (hb : 1 ≤ b) (hb' : b ≤ 1000000000000000000) (ha : -1000000000000000000 ≤ a) (ha' : a ≤ 1000000000000000000) :
    Calls Try.prog 78 #[.int .i64 a, .int .i64 b] w fun e w' => e = .returned (.int .i64 (-(-a / b))) ∧ w = w' := by
  have t1 : -1000000000000000000 ≤ (-a) / b ∧ (-a) / b ≤ 1000000000000000000 := ediv_bd hb (by omega) (by omega)
  go_enter Try.func78, Try.ntmps78
  go_wp2_with fail
  refine (down_any _ _ _ hb hb' (by omega) (by omega)).mono ?_; rintro e w' ⟨rfl, rfl⟩
  go_wp2_with fail
  go_ret
  exact ⟨rfl, rfl⟩
theorem l01Ceil_any (a b : Int) (w : World) (hb : 1 ≤ b) (hb' : b ≤ 1000000000000000000) (ha : -1000000000000000000 ≤ a) (ha' : a ≤ 1000000000000000000) :
    Calls Try.prog 75 #[.int .i64 a, .int .i64 b] w fun e w' => e = .returned (.int .i64 (-(-a / b))) ∧ w = w' := by
  have t1 : -1000000000000000000 ≤ (-a) / b ∧ (-a) / b ≤ 1000000000000000000 := ediv_bd hb (by omega) (by omega)
  go_enter Try.func75, Try.ntmps75
  go_wp2_with fail
  refine (l01Floor_any _ _ _ hb hb' (by omega) (by omega)).mono ?_; rintro e w' ⟨rfl, rfl⟩
  go_wp2_with fail
  go_ret
  exact ⟨rfl, rfl⟩
theorem isWithin_any (lo hi a b : Int) (w : World) : Calls Try.prog 124 #[.agg #[.int .i64 lo, .int .i64 hi], .agg #[.int .i64 a, .int .i64 b]] w fun e w' => e = .returned (.bool (decide (a ≤ lo) && decide (hi ≤ b))) ∧ New w w' := by
  go_enter Try.func124, Try.ntmps124
  go_wp2_with fail
  all_goals (go_ret; exact ⟨ret_bool (by first | (simp_all; done) | (simp [*]; omega)), (by repeat (first | with_reducible exact New.refl _ | with_reducible assumption | with_reducible refine New.drew ?_ | with_reducible refine New.drewN ?_ _ | with_reducible refine New.alloc ?_ _ | with_reducible refine New.setCell ?_ (by first | (simp; done) | (simp; omega) | omega) _ | with_reducible refine New.trans ?_ (by with_reducible assumption)))⟩)
def ivWithin (lo hi a b : Int) : Bool := isIv lo hi && isIv a b && (decide (a ≤ lo) && decide (hi ≤ b))
theorem IsWithin_any (lo hi a b : Int) (w : World) : Calls Try.prog 112 #[.agg #[.int .i64 lo, .int .i64 hi], .agg #[.int .i64 a, .int .i64 b]] w fun e w' => e = .returned (.bool (ivWithin lo hi a b)) ∧ New w w' := by
  rcases Bool.eq_false_or_eq_true (isIv lo hi) with h1 | h1; rotate_left
  · go_enter Try.func112, Try.ntmps112
    go_wp2_with fail
    refine (iIsInterval_any _ _ _).mono ?_; rintro e w1 ⟨rfl, hb⟩
    obtain ⟨hc, hf⟩ := hb.rules
    go_wp2_with fail
    try (refine (iIsInterval_any _ _ _).mono ?_; rintro e w2 ⟨rfl, hb2⟩; replace hb2 := hb.trans hb2; clear hc hf; obtain ⟨hc, hf⟩ := hb2.rules; go_wp2_with fail)
    try (refine (isWithin_any _ _ _ _ _).mono ?_; rintro e w3 ⟨rfl, hb3⟩; replace hb3 := hb2.trans hb3; go_wp2_with fail)
    go_ret
    exact ⟨ret_bool (by simp [ivWithin, *]), (by repeat (first | with_reducible exact New.refl _ | with_reducible assumption | with_reducible refine New.drew ?_ | with_reducible refine New.drewN ?_ _ | with_reducible refine New.alloc ?_ _ | with_reducible refine New.setCell ?_ (by first | (simp; done) | (simp; omega) | omega) _ | with_reducible refine New.trans ?_ (by with_reducible assumption)))⟩
  rcases Bool.eq_false_or_eq_true (isIv a b) with h2 | h2; rotate_left
  · go_enter Try.func112, Try.ntmps112
    go_wp2_with fail
    refine (iIsInterval_any _ _ _).mono ?_; rintro e w1 ⟨rfl, hb⟩
    obtain ⟨hc, hf⟩ := hb.rules
    go_wp2_with fail
    try (refine (iIsInterval_any _ _ _).mono ?_; rintro e w2 ⟨rfl, hb2⟩; replace hb2 := hb.trans hb2; clear hc hf; obtain ⟨hc, hf⟩ := hb2.rules; go_wp2_with fail)
    try (refine (isWithin_any _ _ _ _ _).mono ?_; rintro e w3 ⟨rfl, hb3⟩; replace hb3 := hb2.trans hb3; go_wp2_with fail)
    go_ret
    exact ⟨ret_bool (by simp [ivWithin, *]), (by repeat (first | with_reducible exact New.refl _ | with_reducible assumption | with_reducible refine New.drew ?_ | with_reducible refine New.drewN ?_ _ | with_reducible refine New.alloc ?_ _ | with_reducible refine New.setCell ?_ (by first | (simp; done) | (simp; omega) | omega) _ | with_reducible refine New.trans ?_ (by with_reducible assumption)))⟩
  go_enter Try.func112, Try.ntmps112
  go_wp2_with fail
  refine (iIsInterval_any _ _ _).mono ?_; rintro e w1 ⟨rfl, hb⟩
  obtain ⟨hc, hf⟩ := hb.rules
  go_wp2_with fail
  try (refine (iIsInterval_any _ _ _).mono ?_; rintro e w2 ⟨rfl, hb2⟩; replace hb2 := hb.trans hb2; clear hc hf; obtain ⟨hc, hf⟩ := hb2.rules; go_wp2_with fail)
  try (refine (isWithin_any _ _ _ _ _).mono ?_; rintro e w3 ⟨rfl, hb3⟩; replace hb3 := hb2.trans hb3; go_wp2_with fail)
  go_ret
  exact ⟨ret_bool (by simp [ivWithin, *]), (by repeat (first | with_reducible exact New.refl _ | with_reducible assumption | with_reducible refine New.drew ?_ | with_reducible refine New.drewN ?_ _ | with_reducible refine New.alloc ?_ _ | with_reducible refine New.setCell ?_ (by first | (simp; done) | (simp; omega) | omega) _ | with_reducible refine New.trans ?_ (by with_reducible assumption)))⟩
end Go.Proofs.Ytdhmngmclbaieaa
