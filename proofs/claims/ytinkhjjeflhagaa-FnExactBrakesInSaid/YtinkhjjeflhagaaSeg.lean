/- Contracts: segments. -/
import Derived.Test.YtinkhjjeflhagaaProg
import Derived.Test.YtinkhjjeflhagaaNum
namespace Go.Proofs.Ytinkhjjeflhagaa
open Go Go.Proofs Go.RowKit
set_option linter.unusedVariables false
set_option linter.unusedSimpArgs false
set_option maxRecDepth 100000
theorem l01Abs_any (x : Int) (w : World) (h1 : -1000000000000000000 ≤ x) (h2 : x ≤ 1000000000000000000) : Calls Try.prog 33 #[.int .i64 x] w fun e w' => e = .returned (.int .i64 (max x (-x))) ∧ w = w' := by
  go_enter Try.func33, Try.ntmps33
  go_wp2_with fail
  all_goals (go_ret; exact ⟨ret_int (by omega), rfl⟩)
def isSeg (k len rise rl rh fl fh : Int) : Bool :=
  inB k 0 4 && inB len 1 200000 && inB rise (-100000) 100000 && !decide (len < max rise (-rise)) && ivIn rl rh 0 20000 && (if (k == 0) = true then decide (fl = 0) && decide (fh = 0) else ivIn fl fh 1 20000)
set_option maxHeartbeats 1000000 in
theorem sIsSegment_any (k len rise rl rh fl fh : Int) (w : World) :
    Calls Try.prog 24 #[.agg #[.int .i64 k, .int .i64 len, .int .i64 rise, .int .i64 rl, .int .i64 rh, .int .i64 fl, .int .i64 fh]] w fun e w' => e = .returned (.bool (isSeg k len rise rl rh fl fh)) ∧ New w w' := by
  rcases Bool.eq_false_or_eq_true (inB k 0 4) with h1 | h1; rotate_left
  · (try have h3' := inB_iff.1 h3)
    go_enter Try.func24, Try.ntmps24
    go_wp2_with fail
    go_quiet (first | (go_at_call 32; exact quiet_eq (l01In_any _ _ _ _)) | (go_at_call 33; exact quiet_eq (l01Abs_any _ _ (by omega) (by omega))))
    (try clear h3')
    go_wp2_with fail
    first | (go_ret; exact ⟨ret_bool (by simp [isSeg, *]), (by repeat (first | with_reducible exact New.refl _ | with_reducible assumption | with_reducible refine New.drew ?_ | with_reducible refine New.drewN ?_ _ | with_reducible refine New.alloc ?_ _ | with_reducible refine New.setCell ?_ (by first | (simp; done) | (simp; omega) | omega) _ | with_reducible refine New.trans ?_ (by with_reducible assumption)))⟩) | skip
  rcases Bool.eq_false_or_eq_true (inB len 1 200000) with h2 | h2; rotate_left
  · (try have h3' := inB_iff.1 h3)
    go_enter Try.func24, Try.ntmps24
    go_wp2_with fail
    go_quiet (first | (go_at_call 32; exact quiet_eq (l01In_any _ _ _ _)) | (go_at_call 33; exact quiet_eq (l01Abs_any _ _ (by omega) (by omega))))
    (try clear h3')
    go_wp2_with fail
    first | (go_ret; exact ⟨ret_bool (by simp [isSeg, *]), (by repeat (first | with_reducible exact New.refl _ | with_reducible assumption | with_reducible refine New.drew ?_ | with_reducible refine New.drewN ?_ _ | with_reducible refine New.alloc ?_ _ | with_reducible refine New.setCell ?_ (by first | (simp; done) | (simp; omega) | omega) _ | with_reducible refine New.trans ?_ (by with_reducible assumption)))⟩) | skip
  rcases Bool.eq_false_or_eq_true (inB rise (-100000) 100000) with h3 | h3; rotate_left
  · (try have h3' := inB_iff.1 h3)
    go_enter Try.func24, Try.ntmps24
    go_wp2_with fail
    go_quiet (first | (go_at_call 32; exact quiet_eq (l01In_any _ _ _ _)) | (go_at_call 33; exact quiet_eq (l01Abs_any _ _ (by omega) (by omega))))
    (try clear h3')
    go_wp2_with fail
    first | (go_ret; exact ⟨ret_bool (by simp [isSeg, *]), (by repeat (first | with_reducible exact New.refl _ | with_reducible assumption | with_reducible refine New.drew ?_ | with_reducible refine New.drewN ?_ _ | with_reducible refine New.alloc ?_ _ | with_reducible refine New.setCell ?_ (by first | (simp; done) | (simp; omega) | omega) _ | with_reducible refine New.trans ?_ (by with_reducible assumption)))⟩) | skip
  rcases Bool.eq_false_or_eq_true (decide (len < max rise (-rise))) with h4 | h4
  · (try have h3' := inB_iff.1 h3)
    go_enter Try.func24, Try.ntmps24
    go_wp2_with fail
    go_quiet (first | (go_at_call 32; exact quiet_eq (l01In_any _ _ _ _)) | (go_at_call 33; exact quiet_eq (l01Abs_any _ _ (by omega) (by omega))))
    (try clear h3')
    go_wp2_with fail
    first | (go_ret; exact ⟨ret_bool (by simp [isSeg, *]), (by repeat (first | with_reducible exact New.refl _ | with_reducible assumption | with_reducible refine New.drew ?_ | with_reducible refine New.drewN ?_ _ | with_reducible refine New.alloc ?_ _ | with_reducible refine New.setCell ?_ (by first | (simp; done) | (simp; omega) | omega) _ | with_reducible refine New.trans ?_ (by with_reducible assumption)))⟩) | skip
  (try have h3' := inB_iff.1 h3)
  go_enter Try.func24, Try.ntmps24
  go_wp2_with fail
  go_quiet (first | (go_at_call 32; exact quiet_eq (l01In_any _ _ _ _)) | (go_at_call 33; exact quiet_eq (l01Abs_any _ _ (by omega) (by omega))))
  (try clear h3')
  go_wp2_with fail
  first | (go_ret; exact ⟨ret_bool (by simp [isSeg, *]), (by repeat (first | with_reducible exact New.refl _ | with_reducible assumption | with_reducible refine New.drew ?_ | with_reducible refine New.drewN ?_ _ | with_reducible refine New.alloc ?_ _ | with_reducible refine New.setCell ?_ (by first | (simp; done) | (simp; omega) | omega) _ | with_reducible refine New.trans ?_ (by with_reducible assumption)))⟩) | skip
  all_goals
    rcases Bool.eq_false_or_eq_true (ivIn rl rh 0 20000) with h5 | h5
    all_goals
      refine (l03Within_any _ _ _ _ _).mono ?_; rintro e w1 ⟨rfl, hb⟩
      obtain ⟨hc, hf⟩ := hb.rules
      go_wp2_with fail
      try (refine (l03Within_any _ _ _ _ _).mono ?_; rintro e w2 ⟨rfl, hb2⟩; replace hb2 := hb.trans hb2; go_wp2_with fail)
      all_goals (go_ret; exact ⟨ret_bool (by simp [isSeg, *]), (by repeat (first | with_reducible exact New.refl _ | with_reducible assumption | with_reducible refine New.drew ?_ | with_reducible refine New.drewN ?_ _ | with_reducible refine New.alloc ?_ _ | with_reducible refine New.setCell ?_ (by first | (simp; done) | (simp; omega) | omega) _ | with_reducible refine New.trans ?_ (by with_reducible assumption)))⟩)
theorem ivWithin_eq (lo hi a b : Int) (h : isIv a b = true) : ivWithin lo hi a b = ivIn lo hi a b := by simp [ivWithin, ivIn, h, Bool.and_assoc]
theorem isSeg_eq (k len rise rl rh fl fh : Int) : isSeg k len rise rl rh fl fh =
    (inB k 0 4 && inB len 1 200000 && inB rise (-100000) 100000 && inB rise (-len) len && ivWithin rl rh 0 20000 && (if (k == 0) = true then decide (fl = 0) && decide (fh = 0) else ivWithin fl fh 1 20000)) := by
  have d1 : isIv 0 20000 = true := by simp [isIv, isVal, inB]
  have d2 : isIv 1 20000 = true := by simp [isIv, isVal, inB]
  rw [ivWithin_eq _ _ _ _ d1, ivWithin_eq _ _ _ _ d2]
  have e : (!decide (len < max rise (-rise))) = inB rise (-len) len := by
    rw [Bool.eq_iff_iff]; simp [inB]; omega
  simp [isSeg, e]
set_option maxHeartbeats 1000000 in
theorem iIsSegment_any (k len rise rl rh fl fh : Int) (w : World) :
    Calls Try.prog 28 #[.agg #[.int .i64 k, .int .i64 len, .int .i64 rise, .int .i64 rl, .int .i64 rh, .int .i64 fl, .int .i64 fh]] w fun e w' => e = .returned (.bool (isSeg k len rise rl rh fl fh)) ∧ New w w' := by
  rcases Bool.eq_false_or_eq_true (inB k 0 4) with h1 | h1; rotate_left
  · (try have h2' := inB_iff.1 h2)
    go_enter Try.func28, Try.ntmps28
    go_wp2_with (go_at_call 29; refine (within_any _ _ _ _).mono ?_; rintro e w' ⟨rfl, rfl⟩)
    first | (go_ret; exact ⟨ret_bool (by simp [isSeg_eq, *]), (by repeat (first | with_reducible exact New.refl _ | with_reducible assumption | with_reducible refine New.drew ?_ | with_reducible refine New.drewN ?_ _ | with_reducible refine New.alloc ?_ _ | with_reducible refine New.setCell ?_ (by first | (simp; done) | (simp; omega) | omega) _ | with_reducible refine New.trans ?_ (by with_reducible assumption)))⟩) | skip
  rcases Bool.eq_false_or_eq_true (inB len 1 200000) with h2 | h2; rotate_left
  · (try have h2' := inB_iff.1 h2)
    go_enter Try.func28, Try.ntmps28
    go_wp2_with (go_at_call 29; refine (within_any _ _ _ _).mono ?_; rintro e w' ⟨rfl, rfl⟩)
    first | (go_ret; exact ⟨ret_bool (by simp [isSeg_eq, *]), (by repeat (first | with_reducible exact New.refl _ | with_reducible assumption | with_reducible refine New.drew ?_ | with_reducible refine New.drewN ?_ _ | with_reducible refine New.alloc ?_ _ | with_reducible refine New.setCell ?_ (by first | (simp; done) | (simp; omega) | omega) _ | with_reducible refine New.trans ?_ (by with_reducible assumption)))⟩) | skip
  rcases Bool.eq_false_or_eq_true (inB rise (-100000) 100000) with h3 | h3; rotate_left
  · (try have h2' := inB_iff.1 h2)
    go_enter Try.func28, Try.ntmps28
    go_wp2_with (go_at_call 29; refine (within_any _ _ _ _).mono ?_; rintro e w' ⟨rfl, rfl⟩)
    first | (go_ret; exact ⟨ret_bool (by simp [isSeg_eq, *]), (by repeat (first | with_reducible exact New.refl _ | with_reducible assumption | with_reducible refine New.drew ?_ | with_reducible refine New.drewN ?_ _ | with_reducible refine New.alloc ?_ _ | with_reducible refine New.setCell ?_ (by first | (simp; done) | (simp; omega) | omega) _ | with_reducible refine New.trans ?_ (by with_reducible assumption)))⟩) | skip
  rcases Bool.eq_false_or_eq_true (inB rise (-len) len) with h4 | h4; rotate_left
  · (try have h2' := inB_iff.1 h2)
    go_enter Try.func28, Try.ntmps28
    go_wp2_with (go_at_call 29; refine (within_any _ _ _ _).mono ?_; rintro e w' ⟨rfl, rfl⟩)
    first | (go_ret; exact ⟨ret_bool (by simp [isSeg_eq, *]), (by repeat (first | with_reducible exact New.refl _ | with_reducible assumption | with_reducible refine New.drew ?_ | with_reducible refine New.drewN ?_ _ | with_reducible refine New.alloc ?_ _ | with_reducible refine New.setCell ?_ (by first | (simp; done) | (simp; omega) | omega) _ | with_reducible refine New.trans ?_ (by with_reducible assumption)))⟩) | skip
  (try have h2' := inB_iff.1 h2)
  go_enter Try.func28, Try.ntmps28
  go_wp2_with (go_at_call 29; refine (within_any _ _ _ _).mono ?_; rintro e w' ⟨rfl, rfl⟩)
  first | (go_ret; exact ⟨ret_bool (by simp [isSeg_eq, *]), (by repeat (first | with_reducible exact New.refl _ | with_reducible assumption | with_reducible refine New.drew ?_ | with_reducible refine New.drewN ?_ _ | with_reducible refine New.alloc ?_ _ | with_reducible refine New.setCell ?_ (by first | (simp; done) | (simp; omega) | omega) _ | with_reducible refine New.trans ?_ (by with_reducible assumption)))⟩) | skip
  rcases Bool.eq_false_or_eq_true (ivWithin rl rh 0 20000) with h5 | h5
  all_goals
    refine (IsWithin_any _ _ _ _ _).mono ?_; rintro e w1 ⟨rfl, hb⟩
    obtain ⟨hc, hf⟩ := hb.rules
    go_wp2_with fail
    all_goals (try (refine (IsWithin_any _ _ _ _ _).mono ?_; rintro e w2 ⟨rfl, hb2⟩; replace hb2 := hb.trans hb2; go_wp2_with fail))
    all_goals (go_ret; exact ⟨ret_bool (by simp [isSeg_eq, *]), (by repeat (first | with_reducible exact New.refl _ | with_reducible assumption | with_reducible refine New.drew ?_ | with_reducible refine New.drewN ?_ _ | with_reducible refine New.alloc ?_ _ | with_reducible refine New.setCell ?_ (by first | (simp; done) | (simp; omega) | omega) _ | with_reducible refine New.trans ?_ (by with_reducible assumption)))⟩)
end Go.Proofs.Ytinkhjjeflhagaa
