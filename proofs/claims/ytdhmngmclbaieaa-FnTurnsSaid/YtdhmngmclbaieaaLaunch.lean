/- Contracts: energies, lifts, launches, turning back. -/
import Derived.Test.YtdhmngmclbaieaaProg
import Derived.Test.YtdhmngmclbaieaaNum
import Derived.Test.YtdhmngmclbaieaaSeg
namespace Go.Proofs.Ytdhmngmclbaieaa
open Go Go.Proofs Go.RowKit
set_option linter.unusedVariables false
set_option linter.unusedSimpArgs false
set_option maxRecDepth 100000
theorem iIsEnergy_any (lo hi : Int) (w : World) : Calls Try.prog 81 #[.agg #[.int .i64 lo, .int .i64 hi]] w fun e w' => e = .returned (.bool (ivIn lo hi 0 10000000000)) ∧ New w w' := by
  have d1 : isIv 0 10000000000 = true := by simp [isIv, isVal, inB]
  go_enter Try.func81, Try.ntmps81
  go_wp2_with fail
  refine (IsWithin_any _ _ _ _ _).mono ?_; rintro e w1 ⟨rfl, hb⟩
  go_wp2_with fail
  go_ret
  exact ⟨ret_bool (ivWithin_eq _ _ _ _ d1), (by repeat (first | with_reducible exact New.refl _ | with_reducible assumption | with_reducible refine New.drew ?_ | with_reducible refine New.drewN ?_ _ | with_reducible refine New.alloc ?_ _ | with_reducible refine New.setCell ?_ (by first | (simp; done) | (simp; omega) | omega) _ | with_reducible refine New.trans ?_ (by with_reducible assumption)))⟩
theorem sIsEnergy_any (lo hi : Int) (w : World) : Calls Try.prog 79 #[.agg #[.int .i64 lo, .int .i64 hi]] w fun e w' => e = .returned (.bool (ivIn lo hi 0 10000000000)) ∧ New w w' := by
  go_enter Try.func79, Try.ntmps79
  go_wp2_with fail
  refine (l03Within_any _ _ _ _ _).mono ?_; rintro e w1 ⟨rfl, hb⟩
  go_wp2_with fail
  go_ret
  exact ⟨rfl, (by repeat (first | with_reducible exact New.refl _ | with_reducible assumption | with_reducible refine New.drew ?_ | with_reducible refine New.drewN ?_ _ | with_reducible refine New.alloc ?_ _ | with_reducible refine New.setCell ?_ (by first | (simp; done) | (simp; omega) | omega) _ | with_reducible refine New.trans ?_ (by with_reducible assumption)))⟩
def chLo (len rise rh : Int) : Int := -19612 * rise - 2 * rh * len
def chHi (len rise rl : Int) : Int := -19612 * rise - 2 * rl * len
structure Seg where (k len rise rl rh fl fh : Int)
/-- What a valid segment's fields keep. -/
theorem isSeg_bd {k len rise rl rh fl fh : Int} (h : isSeg k len rise rl rh fl fh = true) :
    0 ≤ k ∧ k ≤ 4 ∧ 1 ≤ len ∧ len ≤ 200000 ∧ -100000 ≤ rise ∧ rise ≤ 100000 ∧ 0 ≤ rl ∧ rl ≤ rh ∧ rh ≤ 20000 ∧ 0 ≤ fl ∧ fl ≤ fh ∧ fh ≤ 20000 ∧ (k ≠ 0 → 1 ≤ fl) := by
  simp only [isSeg, ivIn, isIv, Bool.and_eq_true, inB_iff, decide_eq_true_eq] at h
  obtain ⟨⟨⟨⟨⟨h1, h2⟩, h3⟩, h4⟩, h5⟩, h6⟩ := h
  by_cases hk : k = 0
  · simp [hk] at h6; omega
  · rw [if_neg (by simpa using hk)] at h6
    simp only [Bool.and_eq_true, decide_eq_true_eq] at h6
    omega
theorem mul_bd {a b A B : Int} (h1 : 0 ≤ a) (h2 : a ≤ A) (h3 : 0 ≤ b) (h4 : b ≤ B) : 0 ≤ a * b ∧ a * b ≤ A * B :=
  ⟨Int.mul_nonneg h1 h3, Int.mul_le_mul h2 h4 h3 (by omega)⟩
theorem l06Change_any (k len rise rl rh fl fh : Int) (w : World) (h : 1 ≤ len ∧ len ≤ 200000 ∧ -100000 ≤ rise ∧ rise ≤ 100000 ∧ 0 ≤ rl ∧ rl ≤ 20000 ∧ 0 ≤ rh ∧ rh ≤ 20000) :
    Calls Try.prog 80 #[.agg #[.int .i64 k, .int .i64 len, .int .i64 rise, .int .i64 rl, .int .i64 rh, .int .i64 fl, .int .i64 fh]] w fun e w' => e = .returned (.agg #[.int .i64 (chLo len rise rh), .int .i64 (chHi len rise rl)]) ∧ New w w' := by
  have b1 := mul_bd (a := 2 * rl) (b := len) (A := 40000) (B := 200000) (by omega) (by omega) (by omega) (by omega)
  have b2 := mul_bd (a := 2 * rh) (b := len) (A := 40000) (B := 200000) (by omega) (by omega) (by omega) (by omega)
  obtain ⟨h1, h2, h3, h4, h5, h6, h7, h8⟩ := h
  obtain ⟨c1, c2⟩ := b1
  obtain ⟨c3, c4⟩ := b2
  go_enter Try.func80, Try.ntmps80
  go_wp2_with fail
  refine bodyPost_ret (v := .agg #[.int .i64 (chLo len rise rh), .int .i64 (chHi len rise rl)]) (by simp [results, Try.results80, go_sem, chLo, chHi]) rfl ⟨rfl, (by repeat (first | with_reducible exact New.refl _ | with_reducible assumption | with_reducible refine New.drew ?_ | with_reducible refine New.drewN ?_ _ | with_reducible refine New.alloc ?_ _ | with_reducible refine New.setCell ?_ (by first | (simp; done) | (simp; omega) | omega) _ | with_reducible refine New.trans ?_ (by with_reducible assumption)))⟩
theorem change_any (k len rise rl rh fl fh : Int) (w : World) (h : 1 ≤ len ∧ len ≤ 200000 ∧ -100000 ≤ rise ∧ rise ≤ 100000 ∧ 0 ≤ rl ∧ rl ≤ 20000 ∧ 0 ≤ rh ∧ rh ≤ 20000) :
    Calls Try.prog 82 #[.agg #[.int .i64 k, .int .i64 len, .int .i64 rise, .int .i64 rl, .int .i64 rh, .int .i64 fl, .int .i64 fh]] w fun e w' => e = .returned (.agg #[.int .i64 (chLo len rise rh), .int .i64 (chHi len rise rl)]) ∧ New w w' := by
  have b1 := mul_bd (a := 2 * rl) (b := len) (A := 40000) (B := 200000) (by omega) (by omega) (by omega) (by omega)
  have b2 := mul_bd (a := 2 * rh) (b := len) (A := 40000) (B := 200000) (by omega) (by omega) (by omega) (by omega)
  obtain ⟨h1, h2, h3, h4, h5, h6, h7, h8⟩ := h
  obtain ⟨c1, c2⟩ := b1
  obtain ⟨c3, c4⟩ := b2
  go_enter Try.func82, Try.ntmps82
  go_wp2_with fail
  refine bodyPost_ret (v := .agg #[.int .i64 (chLo len rise rh), .int .i64 (chHi len rise rl)]) (by simp [results, Try.results82, go_sem, chLo, chHi]) rfl ⟨rfl, (by repeat (first | with_reducible exact New.refl _ | with_reducible assumption | with_reducible refine New.drew ?_ | with_reducible refine New.drewN ?_ _ | with_reducible refine New.alloc ?_ _ | with_reducible refine New.setCell ?_ (by first | (simp; done) | (simp; omega) | omega) _ | with_reducible refine New.trans ?_ (by with_reducible assumption)))⟩
theorem toInterval_any (lo hi : Int) (w : World) : Calls Try.prog 30 #[.agg #[.int .i64 lo, .int .i64 hi]] w fun e w' => e = .returned (.agg #[.int .i64 lo, .int .i64 hi]) ∧ New w w' := by
  go_enter Try.func30, Try.ntmps30
  go_wp2_with fail
  refine bodyPost_ret (v := .agg #[.int .i64 lo, .int .i64 hi]) (by simp [results, Try.results30, go_sem]) rfl ⟨rfl, (by repeat (first | with_reducible exact New.refl _ | with_reducible assumption | with_reducible refine New.drew ?_ | with_reducible refine New.drewN ?_ _ | with_reducible refine New.alloc ?_ _ | with_reducible refine New.setCell ?_ (by first | (simp; done) | (simp; omega) | omega) _ | with_reducible refine New.trans ?_ (by with_reducible assumption)))⟩
theorem eqInterval_any (lo hi a b : Int) (w : World) : Calls Try.prog 28 #[.agg #[.int .i64 lo, .int .i64 hi], .agg #[.int .i64 a, .int .i64 b]] w fun e w' => e = .returned (.bool (decide (lo = a ∧ hi = b))) ∧ New w w' := by
  go_enter Try.func28, Try.ntmps28
  go_wp2_with fail
  all_goals (go_ret; exact ⟨ret_bool (by simp_all), (by repeat (first | with_reducible exact New.refl _ | with_reducible assumption | with_reducible refine New.drew ?_ | with_reducible refine New.drewN ?_ _ | with_reducible refine New.alloc ?_ _ | with_reducible refine New.setCell ?_ (by first | (simp; done) | (simp; omega) | omega) _ | with_reducible refine New.trans ?_ (by with_reducible assumption)))⟩)
set_option maxHeartbeats 800000 in
theorem toSegment_any (k len rise rl rh fl fh : Int) (w : World) : Calls Try.prog 26 #[.agg #[.int .i64 k, .int .i64 len, .int .i64 rise, .int .i64 rl, .int .i64 rh, .int .i64 fl, .int .i64 fh]] w fun e w' => e = .returned (.agg #[.int .i64 k, .int .i64 len, .int .i64 rise, .int .i64 rl, .int .i64 rh, .int .i64 fl, .int .i64 fh]) ∧ New w w' := by
  go_enter Try.func26, Try.ntmps26
  go_wp2_with fail
  refine (toInterval_any _ _ _).mono ?_; rintro e w1 ⟨rfl, hb⟩
  obtain ⟨hc, hf⟩ := hb.rules
  have hz := hb.size
  simp only [World.size_alloc] at hz
  have hz0 : w.heap.size < w1.heap.size := by omega
  have hz1 : w.heap.size + 1 < w1.heap.size := by omega
  have hz2 : w.heap.size + 1 + 1 < w1.heap.size := by omega
  go_wp2_with fail
  refine (toInterval_any _ _ _).mono ?_; rintro e w2 ⟨rfl, hb2⟩
  obtain ⟨hc2, hf2⟩ := hb2.rules
  have hz' := hb2.size
  simp only [World.size_setCell] at hz'
  go_wp2_with fail
  refine bodyPost_ret (v := .agg #[.int .i64 k, .int .i64 len, .int .i64 rise, .int .i64 rl, .int .i64 rh, .int .i64 fl, .int .i64 fh]) (by simp [results, Try.results26, go_sem, hc2, hf2, hc, hf, hz0, hz1, hz2]) rfl ⟨rfl, (by repeat (first | with_reducible exact New.refl _ | with_reducible assumption | with_reducible refine New.drew ?_ | with_reducible refine New.drewN ?_ _ | with_reducible refine New.alloc ?_ _ | with_reducible refine New.setCell ?_ (by first | (simp; done) | (simp; omega) | omega) _ | with_reducible refine New.trans ?_ (by with_reducible assumption)))⟩
def liftT (k len rise rl rh fl fh : Int) : Int × Int × Int :=
  if isSeg k len rise rl rh fl fh then (if (k == 1) = true then (1000 * len / fh, -(-(1000 * len) / fl), 0) else (0, 0, 5)) else (0, 0, 1)
set_option maxHeartbeats 1000000 in
theorem sLiftTime_any (k len rise rl rh fl fh : Int) (w : World) :
    Calls Try.prog 25 #[.agg #[.int .i64 k, .int .i64 len, .int .i64 rise, .int .i64 rl, .int .i64 rh, .int .i64 fl, .int .i64 fh]] w fun e w' => e = .returned (.tuple #[.agg #[.int .i64 (liftT k len rise rl rh fl fh).1, .int .i64 (liftT k len rise rl rh fl fh).2.1], .int .i64 (liftT k len rise rl rh fl fh).2.2]) ∧ New w w' := by
  rcases Bool.eq_false_or_eq_true (isSeg k len rise rl rh fl fh) with h1 | h1; rotate_left
  · have hh : (k != 1) = !(k == 1) := rfl
    go_enter Try.func25, Try.ntmps25
    go_wp2_with fail
    refine (sIsSegment_any _ _ _ _ _ _ _ _).mono ?_; rintro e w1 ⟨rfl, hb⟩
    obtain ⟨hc, hf⟩ := hb.rules
    go_wp2_with fail
    refine bodyPost_ret (v := .tuple #[.agg #[.int .i64 (liftT k len rise rl rh fl fh).1, .int .i64 (liftT k len rise rl rh fl fh).2.1], .int .i64 (liftT k len rise rl rh fl fh).2.2]) ?_ rfl ⟨rfl, (by repeat (first | with_reducible exact New.refl _ | with_reducible assumption | with_reducible refine New.drew ?_ | with_reducible refine New.drewN ?_ _ | with_reducible refine New.alloc ?_ _ | with_reducible refine New.setCell ?_ (by first | (simp; done) | (simp; omega) | omega) _ | with_reducible refine New.trans ?_ (by with_reducible assumption)))⟩
    simp [results, Try.results25, go_sem, hc, liftT, h1]
  rcases Bool.eq_false_or_eq_true ((k == 1)) with h2 | h2; rotate_left
  · have hh : (k != 1) = !(k == 1) := rfl
    go_enter Try.func25, Try.ntmps25
    go_wp2_with fail
    refine (sIsSegment_any _ _ _ _ _ _ _ _).mono ?_; rintro e w1 ⟨rfl, hb⟩
    obtain ⟨hc, hf⟩ := hb.rules
    go_wp2_with fail
    refine bodyPost_ret (v := .tuple #[.agg #[.int .i64 (liftT k len rise rl rh fl fh).1, .int .i64 (liftT k len rise rl rh fl fh).2.1], .int .i64 (liftT k len rise rl rh fl fh).2.2]) ?_ rfl ⟨rfl, (by repeat (first | with_reducible exact New.refl _ | with_reducible assumption | with_reducible refine New.drew ?_ | with_reducible refine New.drewN ?_ _ | with_reducible refine New.alloc ?_ _ | with_reducible refine New.setCell ?_ (by first | (simp; done) | (simp; omega) | omega) _ | with_reducible refine New.trans ?_ (by with_reducible assumption)))⟩
    simp [results, Try.results25, go_sem, hc, liftT, h1, h2]
  have hh : (k != 1) = !(k == 1) := rfl
  have bd := isSeg_bd h1
  obtain rfl : k = 1 := by simpa using h2
  go_enter Try.func25, Try.ntmps25
  go_wp2_with fail
  refine (sIsSegment_any _ _ _ _ _ _ _ _).mono ?_; rintro e w1 ⟨rfl, hb⟩
  obtain ⟨hc, hf⟩ := hb.rules
  go_wp2_with fail
  have e1 : IntKind.i64.wrap (1000 * len) = 1000 * len := IntWalk.i64_in _ (by omega)
  refine wp_region_still_tail 15 (by kernel_rfl) (by kernel_rfl) ?_
  simp only [World.drew_eq, List.take_succ_cons, List.take_zero, List.drop_succ_cons, List.drop_zero]
  repeat (first | still_step | (still_call (still_eq (l01Floor_any _ _ _ (by omega) (by omega) (by omega) (by omega)))) | (still_call (still_eq (l01Ceil_any _ _ _ (by omega) (by omega) (by omega) (by omega)))))
  refine wpStill_nil ?_
  clear e1
  go_wp2_with fail
  refine bodyPost_ret (v := .tuple #[.agg #[.int .i64 (liftT 1 len rise rl rh fl fh).1, .int .i64 (liftT 1 len rise rl rh fl fh).2.1], .int .i64 (liftT 1 len rise rl rh fl fh).2.2]) ?_ rfl ⟨rfl, (by repeat (first | with_reducible exact New.refl _ | with_reducible assumption | with_reducible refine New.drew ?_ | with_reducible refine New.drewN ?_ _ | with_reducible refine New.alloc ?_ _ | with_reducible refine New.setCell ?_ (by first | (simp; done) | (simp; omega) | omega) _ | with_reducible refine New.trans ?_ (by with_reducible assumption)))⟩
  simp [results, Try.results25, go_sem, hc, liftT, h1]
set_option maxHeartbeats 1000000 in
theorem iLiftTime_any (k len rise rl rh fl fh : Int) (w : World) :
    Calls Try.prog 27 #[.agg #[.int .i64 k, .int .i64 len, .int .i64 rise, .int .i64 rl, .int .i64 rh, .int .i64 fl, .int .i64 fh]] w fun e w' => e = .returned (.tuple #[.agg #[.int .i64 (liftT k len rise rl rh fl fh).1, .int .i64 (liftT k len rise rl rh fl fh).2.1], .int .i64 (liftT k len rise rl rh fl fh).2.2]) ∧ New w w' := by
  rcases Bool.eq_false_or_eq_true (isSeg k len rise rl rh fl fh) with h1 | h1; rotate_left
  · have hh : (k != 1) = !(k == 1) := rfl
    go_enter Try.func27, Try.ntmps27
    go_wp2_with fail
    refine (iIsSegment_any _ _ _ _ _ _ _ _).mono ?_; rintro e w1 ⟨rfl, hb⟩
    obtain ⟨hc, hf⟩ := hb.rules
    go_wp2_with fail
    refine bodyPost_ret (v := .tuple #[.agg #[.int .i64 (liftT k len rise rl rh fl fh).1, .int .i64 (liftT k len rise rl rh fl fh).2.1], .int .i64 (liftT k len rise rl rh fl fh).2.2]) ?_ rfl ⟨rfl, (by repeat (first | with_reducible exact New.refl _ | with_reducible assumption | with_reducible refine New.drew ?_ | with_reducible refine New.drewN ?_ _ | with_reducible refine New.alloc ?_ _ | with_reducible refine New.setCell ?_ (by first | (simp; done) | (simp; omega) | omega) _ | with_reducible refine New.trans ?_ (by with_reducible assumption)))⟩
    simp [results, Try.results27, go_sem, hc, liftT, h1]
  rcases Bool.eq_false_or_eq_true ((k == 1)) with h2 | h2; rotate_left
  · have hh : (k != 1) = !(k == 1) := rfl
    go_enter Try.func27, Try.ntmps27
    go_wp2_with fail
    refine (iIsSegment_any _ _ _ _ _ _ _ _).mono ?_; rintro e w1 ⟨rfl, hb⟩
    obtain ⟨hc, hf⟩ := hb.rules
    go_wp2_with fail
    refine bodyPost_ret (v := .tuple #[.agg #[.int .i64 (liftT k len rise rl rh fl fh).1, .int .i64 (liftT k len rise rl rh fl fh).2.1], .int .i64 (liftT k len rise rl rh fl fh).2.2]) ?_ rfl ⟨rfl, (by repeat (first | with_reducible exact New.refl _ | with_reducible assumption | with_reducible refine New.drew ?_ | with_reducible refine New.drewN ?_ _ | with_reducible refine New.alloc ?_ _ | with_reducible refine New.setCell ?_ (by first | (simp; done) | (simp; omega) | omega) _ | with_reducible refine New.trans ?_ (by with_reducible assumption)))⟩
    simp [results, Try.results27, go_sem, hc, liftT, h1, h2]
  have hh : (k != 1) = !(k == 1) := rfl
  have bd := isSeg_bd h1
  obtain rfl : k = 1 := by simpa using h2
  go_enter Try.func27, Try.ntmps27
  go_wp2_with fail
  refine (iIsSegment_any _ _ _ _ _ _ _ _).mono ?_; rintro e w1 ⟨rfl, hb⟩
  obtain ⟨hc, hf⟩ := hb.rules
  go_wp2_with fail
  have e1 : IntKind.i64.wrap (1000 * len) = 1000 * len := IntWalk.i64_in _ (by omega)
  refine wp_region_still_tail 15 (by kernel_rfl) (by kernel_rfl) ?_
  simp only [World.drew_eq, List.take_succ_cons, List.take_zero, List.drop_succ_cons, List.drop_zero]
  repeat (first | still_step | (still_call (still_eq (down_any _ _ _ (by omega) (by omega) (by omega) (by omega)))) | (still_call (still_eq (up_any _ _ _ (by omega) (by omega) (by omega) (by omega)))))
  refine wpStill_nil ?_
  clear e1
  go_wp2_with fail
  refine bodyPost_ret (v := .tuple #[.agg #[.int .i64 (liftT 1 len rise rl rh fl fh).1, .int .i64 (liftT 1 len rise rl rh fl fh).2.1], .int .i64 (liftT 1 len rise rl rh fl fh).2.2]) ?_ rfl ⟨rfl, (by repeat (first | with_reducible exact New.refl _ | with_reducible assumption | with_reducible refine New.drew ?_ | with_reducible refine New.drewN ?_ _ | with_reducible refine New.alloc ?_ _ | with_reducible refine New.setCell ?_ (by first | (simp; done) | (simp; omega) | omega) _ | with_reducible refine New.trans ?_ (by with_reducible assumption)))⟩
  simp [results, Try.results27, go_sem, hc, liftT, h1]
def launchF (len rise rh elo target : Int) : Int := if -(target - elo - chLo len rise rh) / (2 * len) < 0 then -(-(target - elo - chLo len rise rh) / (2 * len)) else 0
def launchR (k len rise rl rh fl fh elo ehi target : Int) : Int × Int :=
  if (isSeg k len rise rl rh fl fh && ivIn elo ehi 0 10000000000) = true then
    if inB target 0 10000000000 = true then
      if (k == 2) = true then if decide (fl < launchF len rise rh elo target) = true then (0, 4) else (launchF len rise rh elo target, 0) else (0, 5)
    else (0, 2)
  else (0, 1)
theorem chLo_bd {len rise rh : Int} (h1 : 1 ≤ len) (h2 : len ≤ 200000) (h3 : -100000 ≤ rise) (h4 : rise ≤ 100000) (h5 : 0 ≤ rh) (h6 : rh ≤ 20000) : -10000000000 ≤ chLo len rise rh ∧ chLo len rise rh ≤ 2000000000 := by
  have b := mul_bd (a := 2 * rh) (b := len) (A := 40000) (B := 200000) (by omega) (by omega) (by omega) (by omega)
  unfold chLo; omega
set_option maxHeartbeats 2000000 in
theorem sLaunchForce_any (k len rise rl rh fl fh elo ehi target : Int) (w : World) :
    Calls Try.prog 29 #[.agg #[.int .i64 k, .int .i64 len, .int .i64 rise, .int .i64 rl, .int .i64 rh, .int .i64 fl, .int .i64 fh], .agg #[.int .i64 elo, .int .i64 ehi], .int .i64 target] w fun e w' => e = .returned (.tuple #[.int .i64 (launchR k len rise rl rh fl fh elo ehi target).1, .int .i64 (launchR k len rise rl rh fl fh elo ehi target).2]) ∧ New w w' := by
  rcases Bool.eq_false_or_eq_true (isSeg k len rise rl rh fl fh) with h1 | h1; rotate_left
  · have hh : (k != 2) = !(k == 2) := rfl
    go_enter Try.func29, Try.ntmps29
    go_wp2_with fail
    refine (sIsSegment_any _ _ _ _ _ _ _ _).mono ?_; rintro e w1 ⟨rfl, b1⟩
    try with_reducible replace b1 := New.undrawN b1
    try with_reducible replace b1 := New.undraw b1
    obtain ⟨c1, f1⟩ := b1.rules
    have z1 := b1.size
    try simp only [World.size_alloc, World.size_drew, World.heap_drewN, World.size_setCell] at z1
    have z1_0 : w.heap.size < w1.heap.size := by omega
    have z1_1 : w.heap.size + 1 < w1.heap.size := by omega
    go_wp2_with fail
    go_ret2
    exact ⟨by simp [launchR, h1], (by repeat (first | with_reducible exact New.refl _ | with_reducible assumption | with_reducible refine New.drew ?_ | with_reducible refine New.drewN ?_ _ | with_reducible refine New.alloc ?_ _ | with_reducible refine New.setCell ?_ (by first | (simp; done) | (simp; omega) | omega) _ | with_reducible refine New.trans ?_ (by with_reducible assumption)))⟩
  rcases Bool.eq_false_or_eq_true (ivIn elo ehi 0 10000000000) with h2 | h2; rotate_left
  · have hh : (k != 2) = !(k == 2) := rfl
    go_enter Try.func29, Try.ntmps29
    go_wp2_with fail
    refine (sIsSegment_any _ _ _ _ _ _ _ _).mono ?_; rintro e w1 ⟨rfl, b1⟩
    try with_reducible replace b1 := New.undrawN b1
    try with_reducible replace b1 := New.undraw b1
    obtain ⟨c1, f1⟩ := b1.rules
    have z1 := b1.size
    try simp only [World.size_alloc, World.size_drew, World.heap_drewN, World.size_setCell] at z1
    have z1_0 : w.heap.size < w1.heap.size := by omega
    have z1_1 : w.heap.size + 1 < w1.heap.size := by omega
    go_wp2_with fail
    refine (sIsEnergy_any _ _ _).mono ?_; rintro e w2 ⟨rfl, b2⟩
    try with_reducible replace b2 := New.undrawN b2
    try with_reducible replace b2 := New.undraw b2
    obtain ⟨c2, f2⟩ := b2.rules
    have z2 := b2.size
    try simp only [World.size_alloc, World.size_drew, World.heap_drewN, World.size_setCell] at z2
    have z2_0 : w.heap.size < w2.heap.size := by omega
    have z2_1 : w.heap.size + 1 < w2.heap.size := by omega
    go_wp2_with fail
    go_ret2
    exact ⟨by simp [launchR, h1, h2], (by repeat (first | with_reducible exact New.refl _ | with_reducible assumption | with_reducible refine New.drew ?_ | with_reducible refine New.drewN ?_ _ | with_reducible refine New.alloc ?_ _ | with_reducible refine New.setCell ?_ (by first | (simp; done) | (simp; omega) | omega) _ | with_reducible refine New.trans ?_ (by with_reducible assumption)))⟩
  rcases Bool.eq_false_or_eq_true (inB target 0 10000000000) with h3 | h3; rotate_left
  · have hh : (k != 2) = !(k == 2) := rfl
    go_enter Try.func29, Try.ntmps29
    go_wp2_with fail
    refine (sIsSegment_any _ _ _ _ _ _ _ _).mono ?_; rintro e w1 ⟨rfl, b1⟩
    try with_reducible replace b1 := New.undrawN b1
    try with_reducible replace b1 := New.undraw b1
    obtain ⟨c1, f1⟩ := b1.rules
    have z1 := b1.size
    try simp only [World.size_alloc, World.size_drew, World.heap_drewN, World.size_setCell] at z1
    have z1_0 : w.heap.size < w1.heap.size := by omega
    have z1_1 : w.heap.size + 1 < w1.heap.size := by omega
    go_wp2_with fail
    refine (sIsEnergy_any _ _ _).mono ?_; rintro e w2 ⟨rfl, b2⟩
    try with_reducible replace b2 := New.undrawN b2
    try with_reducible replace b2 := New.undraw b2
    obtain ⟨c2, f2⟩ := b2.rules
    have z2 := b2.size
    try simp only [World.size_alloc, World.size_drew, World.heap_drewN, World.size_setCell] at z2
    have z2_0 : w.heap.size < w2.heap.size := by omega
    have z2_1 : w.heap.size + 1 < w2.heap.size := by omega
    go_wp2_with fail
    refine (l01In_any _ _ _ _).mono ?_; rintro e w' ⟨rfl, rfl⟩
    go_wp2_with fail
    go_ret2
    exact ⟨by simp [launchR, h1, h2, h3], (by repeat (first | with_reducible exact New.refl _ | with_reducible assumption | with_reducible refine New.drew ?_ | with_reducible refine New.drewN ?_ _ | with_reducible refine New.alloc ?_ _ | with_reducible refine New.setCell ?_ (by first | (simp; done) | (simp; omega) | omega) _ | with_reducible refine New.trans ?_ (by with_reducible assumption)))⟩
  rcases Bool.eq_false_or_eq_true ((k == 2)) with h4 | h4; rotate_left
  · have hh : (k != 2) = !(k == 2) := rfl
    go_enter Try.func29, Try.ntmps29
    go_wp2_with fail
    refine (sIsSegment_any _ _ _ _ _ _ _ _).mono ?_; rintro e w1 ⟨rfl, b1⟩
    try with_reducible replace b1 := New.undrawN b1
    try with_reducible replace b1 := New.undraw b1
    obtain ⟨c1, f1⟩ := b1.rules
    have z1 := b1.size
    try simp only [World.size_alloc, World.size_drew, World.heap_drewN, World.size_setCell] at z1
    have z1_0 : w.heap.size < w1.heap.size := by omega
    have z1_1 : w.heap.size + 1 < w1.heap.size := by omega
    go_wp2_with fail
    refine (sIsEnergy_any _ _ _).mono ?_; rintro e w2 ⟨rfl, b2⟩
    try with_reducible replace b2 := New.undrawN b2
    try with_reducible replace b2 := New.undraw b2
    obtain ⟨c2, f2⟩ := b2.rules
    have z2 := b2.size
    try simp only [World.size_alloc, World.size_drew, World.heap_drewN, World.size_setCell] at z2
    have z2_0 : w.heap.size < w2.heap.size := by omega
    have z2_1 : w.heap.size + 1 < w2.heap.size := by omega
    go_wp2_with fail
    refine (l01In_any _ _ _ _).mono ?_; rintro e w' ⟨rfl, rfl⟩
    go_wp2_with fail
    go_ret2
    exact ⟨by simp [launchR, h1, h2, h3, h4], (by repeat (first | with_reducible exact New.refl _ | with_reducible assumption | with_reducible refine New.drew ?_ | with_reducible refine New.drewN ?_ _ | with_reducible refine New.alloc ?_ _ | with_reducible refine New.setCell ?_ (by first | (simp; done) | (simp; omega) | omega) _ | with_reducible refine New.trans ?_ (by with_reducible assumption)))⟩
  have hh : (k != 2) = !(k == 2) := rfl
  have bd := isSeg_bd h1
  have bt := inB_iff.1 h3
  have be : 0 ≤ elo ∧ elo ≤ 10000000000 := by simp only [ivIn, isIv, Bool.and_eq_true, decide_eq_true_eq] at h2; omega
  obtain ⟨bc1, bc2⟩ := chLo_bd (len := len) (rise := rise) (rh := rh) (by omega) (by omega) (by omega) (by omega) (by omega) (by omega)
  have bu := ediv_bd (a := -(target - elo - chLo len rise rh)) (b := 2 * len) (L := 1000000000000) (by omega) (by omega) (by omega)
  have be1 : IntKind.i64.wrap (target - elo) = target - elo := IntWalk.i64_in _ (by omega)
  have be2 : IntKind.i64.wrap (target - elo - chLo len rise rh) = target - elo - chLo len rise rh := IntWalk.i64_in _ (by omega)
  have be3 : IntKind.i64.wrap (2 * len) = 2 * len := IntWalk.i64_in _ (by omega)
  obtain rfl : k = 2 := by simpa using h4
  go_enter Try.func29, Try.ntmps29
  go_wp2_with fail
  refine (sIsSegment_any _ _ _ _ _ _ _ _).mono ?_; rintro e w1 ⟨rfl, b1⟩
  try with_reducible replace b1 := New.undrawN b1
  try with_reducible replace b1 := New.undraw b1
  obtain ⟨c1, f1⟩ := b1.rules
  have z1 := b1.size
  try simp only [World.size_alloc, World.size_drew, World.heap_drewN, World.size_setCell] at z1
  have z1_0 : w.heap.size < w1.heap.size := by omega
  have z1_1 : w.heap.size + 1 < w1.heap.size := by omega
  go_wp2_with fail
  refine (sIsEnergy_any _ _ _).mono ?_; rintro e w2 ⟨rfl, b2⟩
  try with_reducible replace b2 := New.undrawN b2
  try with_reducible replace b2 := New.undraw b2
  obtain ⟨c2, f2⟩ := b2.rules
  have z2 := b2.size
  try simp only [World.size_alloc, World.size_drew, World.heap_drewN, World.size_setCell] at z2
  have z2_0 : w.heap.size < w2.heap.size := by omega
  have z2_1 : w.heap.size + 1 < w2.heap.size := by omega
  go_wp2_with fail
  refine (l01In_any _ _ _ _).mono ?_; rintro e w' ⟨rfl, rfl⟩
  go_wp2_with fail
  rcases Int.lt_or_le (-(target - elo - chLo len rise rh) / (2 * len)) 0 with hu | hu
  all_goals
    have hq := fun (n : NewOf w2) b o => NewOf.cell n b o
    have hf0 := @field_iv0
    refine wp_region_new (by kernel_rfl) (by kernel_rfl) ?_
    repeat (first | go_big_quiet_skip | go_big_quiet_step ((first | exact newq (l06Change_any _ _ _ _ _ _ _ _ (by omega)) | exact newq_eq (l01Ceil_any _ _ _ (by omega) (by omega) (by omega) (by omega)))) | quiet_step ((first | exact newq (l06Change_any _ _ _ _ _ _ _ _ (by omega)) | exact newq_eq (l01Ceil_any _ _ _ (by omega) (by omega) (by omega) (by omega)))))
    refine wpQuiet_nil ?_
    rintro ⟨w3, b3⟩
    dsimp only
    try with_reducible replace b3 := New.undrawN b3
    try with_reducible replace b3 := New.undraw b3
    obtain ⟨c3, f3⟩ := b3.rules
    have z3 := b3.size
    try simp only [World.size_alloc, World.size_drew, World.heap_drewN, World.size_setCell] at z3
    have z3_0 : w.heap.size < w3.heap.size := by omega
    have z3_1 : w.heap.size + 1 < w3.heap.size := by omega
    go_wp2_with fail
    all_goals (go_ret2; refine ⟨?_, (by repeat (first | with_reducible exact New.refl _ | with_reducible assumption | with_reducible refine New.drew ?_ | with_reducible refine New.drewN ?_ _ | with_reducible refine New.alloc ?_ _ | with_reducible refine New.setCell ?_ (by first | (simp; done) | (simp; omega) | omega) _ | with_reducible refine New.trans ?_ (by with_reducible assumption)))⟩; first | (simp [launchR, h1, h2, h3, launchF, *]; done) | (simp [launchR, h1, h2, h3, launchF, *]; (repeat' split) <;> (first | omega | (simp_all; done) | (simp_all; omega))))
set_option maxHeartbeats 2000000 in
theorem iLaunchForce_any (k len rise rl rh fl fh elo ehi target : Int) (w : World) :
    Calls Try.prog 31 #[.agg #[.int .i64 k, .int .i64 len, .int .i64 rise, .int .i64 rl, .int .i64 rh, .int .i64 fl, .int .i64 fh], .agg #[.int .i64 elo, .int .i64 ehi], .int .i64 target] w fun e w' => e = .returned (.tuple #[.int .i64 (launchR k len rise rl rh fl fh elo ehi target).1, .int .i64 (launchR k len rise rl rh fl fh elo ehi target).2]) ∧ New w w' := by
  rcases Bool.eq_false_or_eq_true (isSeg k len rise rl rh fl fh) with h1 | h1; rotate_left
  · have hh : (k != 2) = !(k == 2) := rfl
    go_enter Try.func31, Try.ntmps31
    go_wp2_with fail
    refine (iIsSegment_any _ _ _ _ _ _ _ _).mono ?_; rintro e w1 ⟨rfl, b1⟩
    try with_reducible replace b1 := New.undrawN b1
    try with_reducible replace b1 := New.undraw b1
    obtain ⟨c1, f1⟩ := b1.rules
    have z1 := b1.size
    try simp only [World.size_alloc, World.size_drew, World.heap_drewN, World.size_setCell] at z1
    have z1_0 : w.heap.size < w1.heap.size := by omega
    have z1_1 : w.heap.size + 1 < w1.heap.size := by omega
    go_wp2_with fail
    go_ret2
    exact ⟨by simp [launchR, h1], (by repeat (first | with_reducible exact New.refl _ | with_reducible assumption | with_reducible refine New.drew ?_ | with_reducible refine New.drewN ?_ _ | with_reducible refine New.alloc ?_ _ | with_reducible refine New.setCell ?_ (by first | (simp; done) | (simp; omega) | omega) _ | with_reducible refine New.trans ?_ (by with_reducible assumption)))⟩
  rcases Bool.eq_false_or_eq_true (ivIn elo ehi 0 10000000000) with h2 | h2; rotate_left
  · have hh : (k != 2) = !(k == 2) := rfl
    go_enter Try.func31, Try.ntmps31
    go_wp2_with fail
    refine (iIsSegment_any _ _ _ _ _ _ _ _).mono ?_; rintro e w1 ⟨rfl, b1⟩
    try with_reducible replace b1 := New.undrawN b1
    try with_reducible replace b1 := New.undraw b1
    obtain ⟨c1, f1⟩ := b1.rules
    have z1 := b1.size
    try simp only [World.size_alloc, World.size_drew, World.heap_drewN, World.size_setCell] at z1
    have z1_0 : w.heap.size < w1.heap.size := by omega
    have z1_1 : w.heap.size + 1 < w1.heap.size := by omega
    go_wp2_with fail
    refine (iIsEnergy_any _ _ _).mono ?_; rintro e w2 ⟨rfl, b2⟩
    try with_reducible replace b2 := New.undrawN b2
    try with_reducible replace b2 := New.undraw b2
    obtain ⟨c2, f2⟩ := b2.rules
    have z2 := b2.size
    try simp only [World.size_alloc, World.size_drew, World.heap_drewN, World.size_setCell] at z2
    have z2_0 : w.heap.size < w2.heap.size := by omega
    have z2_1 : w.heap.size + 1 < w2.heap.size := by omega
    go_wp2_with fail
    go_ret2
    exact ⟨by simp [launchR, h1, h2], (by repeat (first | with_reducible exact New.refl _ | with_reducible assumption | with_reducible refine New.drew ?_ | with_reducible refine New.drewN ?_ _ | with_reducible refine New.alloc ?_ _ | with_reducible refine New.setCell ?_ (by first | (simp; done) | (simp; omega) | omega) _ | with_reducible refine New.trans ?_ (by with_reducible assumption)))⟩
  rcases Bool.eq_false_or_eq_true (inB target 0 10000000000) with h3 | h3; rotate_left
  · have hh : (k != 2) = !(k == 2) := rfl
    go_enter Try.func31, Try.ntmps31
    go_wp2_with fail
    refine (iIsSegment_any _ _ _ _ _ _ _ _).mono ?_; rintro e w1 ⟨rfl, b1⟩
    try with_reducible replace b1 := New.undrawN b1
    try with_reducible replace b1 := New.undraw b1
    obtain ⟨c1, f1⟩ := b1.rules
    have z1 := b1.size
    try simp only [World.size_alloc, World.size_drew, World.heap_drewN, World.size_setCell] at z1
    have z1_0 : w.heap.size < w1.heap.size := by omega
    have z1_1 : w.heap.size + 1 < w1.heap.size := by omega
    go_wp2_with fail
    refine (iIsEnergy_any _ _ _).mono ?_; rintro e w2 ⟨rfl, b2⟩
    try with_reducible replace b2 := New.undrawN b2
    try with_reducible replace b2 := New.undraw b2
    obtain ⟨c2, f2⟩ := b2.rules
    have z2 := b2.size
    try simp only [World.size_alloc, World.size_drew, World.heap_drewN, World.size_setCell] at z2
    have z2_0 : w.heap.size < w2.heap.size := by omega
    have z2_1 : w.heap.size + 1 < w2.heap.size := by omega
    go_wp2_with fail
    refine (within_any _ _ _ _).mono ?_; rintro e w' ⟨rfl, rfl⟩
    go_wp2_with fail
    go_ret2
    exact ⟨by simp [launchR, h1, h2, h3], (by repeat (first | with_reducible exact New.refl _ | with_reducible assumption | with_reducible refine New.drew ?_ | with_reducible refine New.drewN ?_ _ | with_reducible refine New.alloc ?_ _ | with_reducible refine New.setCell ?_ (by first | (simp; done) | (simp; omega) | omega) _ | with_reducible refine New.trans ?_ (by with_reducible assumption)))⟩
  rcases Bool.eq_false_or_eq_true ((k == 2)) with h4 | h4; rotate_left
  · have hh : (k != 2) = !(k == 2) := rfl
    go_enter Try.func31, Try.ntmps31
    go_wp2_with fail
    refine (iIsSegment_any _ _ _ _ _ _ _ _).mono ?_; rintro e w1 ⟨rfl, b1⟩
    try with_reducible replace b1 := New.undrawN b1
    try with_reducible replace b1 := New.undraw b1
    obtain ⟨c1, f1⟩ := b1.rules
    have z1 := b1.size
    try simp only [World.size_alloc, World.size_drew, World.heap_drewN, World.size_setCell] at z1
    have z1_0 : w.heap.size < w1.heap.size := by omega
    have z1_1 : w.heap.size + 1 < w1.heap.size := by omega
    go_wp2_with fail
    refine (iIsEnergy_any _ _ _).mono ?_; rintro e w2 ⟨rfl, b2⟩
    try with_reducible replace b2 := New.undrawN b2
    try with_reducible replace b2 := New.undraw b2
    obtain ⟨c2, f2⟩ := b2.rules
    have z2 := b2.size
    try simp only [World.size_alloc, World.size_drew, World.heap_drewN, World.size_setCell] at z2
    have z2_0 : w.heap.size < w2.heap.size := by omega
    have z2_1 : w.heap.size + 1 < w2.heap.size := by omega
    go_wp2_with fail
    refine (within_any _ _ _ _).mono ?_; rintro e w' ⟨rfl, rfl⟩
    go_wp2_with fail
    go_ret2
    exact ⟨by simp [launchR, h1, h2, h3, h4], (by repeat (first | with_reducible exact New.refl _ | with_reducible assumption | with_reducible refine New.drew ?_ | with_reducible refine New.drewN ?_ _ | with_reducible refine New.alloc ?_ _ | with_reducible refine New.setCell ?_ (by first | (simp; done) | (simp; omega) | omega) _ | with_reducible refine New.trans ?_ (by with_reducible assumption)))⟩
  have hh : (k != 2) = !(k == 2) := rfl
  have bd := isSeg_bd h1
  have bt := inB_iff.1 h3
  have be : 0 ≤ elo ∧ elo ≤ 10000000000 := by simp only [ivIn, isIv, Bool.and_eq_true, decide_eq_true_eq] at h2; omega
  obtain ⟨bc1, bc2⟩ := chLo_bd (len := len) (rise := rise) (rh := rh) (by omega) (by omega) (by omega) (by omega) (by omega) (by omega)
  have bu := ediv_bd (a := -(target - elo - chLo len rise rh)) (b := 2 * len) (L := 1000000000000) (by omega) (by omega) (by omega)
  have be1 : IntKind.i64.wrap (target - elo) = target - elo := IntWalk.i64_in _ (by omega)
  have be2 : IntKind.i64.wrap (target - elo - chLo len rise rh) = target - elo - chLo len rise rh := IntWalk.i64_in _ (by omega)
  have be3 : IntKind.i64.wrap (2 * len) = 2 * len := IntWalk.i64_in _ (by omega)
  obtain rfl : k = 2 := by simpa using h4
  go_enter Try.func31, Try.ntmps31
  go_wp2_with fail
  refine (iIsSegment_any _ _ _ _ _ _ _ _).mono ?_; rintro e w1 ⟨rfl, b1⟩
  try with_reducible replace b1 := New.undrawN b1
  try with_reducible replace b1 := New.undraw b1
  obtain ⟨c1, f1⟩ := b1.rules
  have z1 := b1.size
  try simp only [World.size_alloc, World.size_drew, World.heap_drewN, World.size_setCell] at z1
  have z1_0 : w.heap.size < w1.heap.size := by omega
  have z1_1 : w.heap.size + 1 < w1.heap.size := by omega
  go_wp2_with fail
  refine (iIsEnergy_any _ _ _).mono ?_; rintro e w2 ⟨rfl, b2⟩
  try with_reducible replace b2 := New.undrawN b2
  try with_reducible replace b2 := New.undraw b2
  obtain ⟨c2, f2⟩ := b2.rules
  have z2 := b2.size
  try simp only [World.size_alloc, World.size_drew, World.heap_drewN, World.size_setCell] at z2
  have z2_0 : w.heap.size < w2.heap.size := by omega
  have z2_1 : w.heap.size + 1 < w2.heap.size := by omega
  go_wp2_with fail
  refine (within_any _ _ _ _).mono ?_; rintro e w' ⟨rfl, rfl⟩
  go_wp2_with fail
  rcases Int.lt_or_le (-(target - elo - chLo len rise rh) / (2 * len)) 0 with hu | hu
  all_goals
    have hq := fun (n : NewOf w2) b o => NewOf.cell n b o
    have hf0 := @field_iv0
    refine wp_region_new (by kernel_rfl) (by kernel_rfl) ?_
    repeat (first | go_big_quiet_skip | go_big_quiet_step ((first | exact newq (change_any _ _ _ _ _ _ _ _ (by omega)) | exact newq_eq (up_any _ _ _ (by omega) (by omega) (by omega) (by omega)))) | quiet_step ((first | exact newq (change_any _ _ _ _ _ _ _ _ (by omega)) | exact newq_eq (up_any _ _ _ (by omega) (by omega) (by omega) (by omega)))))
    refine wpQuiet_nil ?_
    rintro ⟨w3, b3⟩
    dsimp only
    try with_reducible replace b3 := New.undrawN b3
    try with_reducible replace b3 := New.undraw b3
    obtain ⟨c3, f3⟩ := b3.rules
    have z3 := b3.size
    try simp only [World.size_alloc, World.size_drew, World.heap_drewN, World.size_setCell] at z3
    have z3_0 : w.heap.size < w3.heap.size := by omega
    have z3_1 : w.heap.size + 1 < w3.heap.size := by omega
    go_wp2_with fail
    all_goals (go_ret2; refine ⟨?_, (by repeat (first | with_reducible exact New.refl _ | with_reducible assumption | with_reducible refine New.drew ?_ | with_reducible refine New.drewN ?_ _ | with_reducible refine New.alloc ?_ _ | with_reducible refine New.setCell ?_ (by first | (simp; done) | (simp; omega) | omega) _ | with_reducible refine New.trans ?_ (by with_reducible assumption)))⟩; first | (simp [launchR, h1, h2, h3, launchF, *]; done) | (simp [launchR, h1, h2, h3, launchF, *]; (repeat' split) <;> (first | omega | (simp_all; done) | (simp_all; omega))))
end Go.Proofs.Ytdhmngmclbaieaa
