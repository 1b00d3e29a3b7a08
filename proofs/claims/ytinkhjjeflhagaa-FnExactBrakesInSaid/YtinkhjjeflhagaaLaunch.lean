/- Contracts: energies, lifts, launches, turning back. -/
import Derived.Test.YtinkhjjeflhagaaProg
import Derived.Test.YtinkhjjeflhagaaNum
import Derived.Test.YtinkhjjeflhagaaSeg
namespace Go.Proofs.Ytinkhjjeflhagaa
open Go Go.Proofs Go.RowKit
set_option linter.unusedVariables false
set_option linter.unusedSimpArgs false
set_option maxRecDepth 100000
def chLo (len rise rh : Int) : Int := -19612 * rise - 2 * rh * len
def chHi (len rise rl : Int) : Int := -19612 * rise - 2 * rl * len
structure Seg where (k len rise rl rh fl fh : Int)
/-- What a valid segment's fields keep. -/
theorem isSeg_bd {k len rise rl rh fl fh : Int} (h : isSeg k len rise rl rh fl fh = true) :
    0 ≤ k ∧ k ≤ 4 ∧ 1 ≤ len ∧ len ≤ 200000 ∧ -100000 ≤ rise ∧ rise ≤ 100000 ∧ 0 ≤ rl ∧ rl ≤ rh ∧ rh ≤ 20000 ∧ 0 ≤ fl ∧ fl ≤ fh ∧ fh ≤ 20000 ∧ (k ≠ 0 → 1 ≤ fl) := by
  simp only [isSeg, ivIn, isIv, Bool.and_eq_true, inB_iff, decide_eq_true_eq] at h
  obtain ⟨⟨⟨⟨⟨h1, h2⟩, h3⟩, h4⟩, h5⟩, h6⟩ := h
  by_cases hk : k = 0
  · simp [hk] at h6; omega
  · rw [if_neg (by simpa using hk)] at h6
    simp only [Bool.and_eq_true, decide_eq_true_eq] at h6
    omega
theorem mul_bd {a b A B : Int} (h1 : 0 ≤ a) (h2 : a ≤ A) (h3 : 0 ≤ b) (h4 : b ≤ B) : 0 ≤ a * b ∧ a * b ≤ A * B :=
  ⟨Int.mul_nonneg h1 h3, Int.mul_le_mul h2 h4 h3 (by omega)⟩
theorem toInterval_any (lo hi : Int) (w : World) : Calls Try.prog 35 #[.agg #[.int .i64 lo, .int .i64 hi]] w fun e w' => e = .returned (.agg #[.int .i64 lo, .int .i64 hi]) ∧ New w w' := by
  go_enter Try.func35, Try.ntmps35
  go_wp2_with fail
  refine bodyPost_ret (v := .agg #[.int .i64 lo, .int .i64 hi]) (by simp [results, Try.results35, go_sem]) rfl ⟨rfl, (by repeat (first | with_reducible exact New.refl _ | with_reducible assumption | with_reducible refine New.drew ?_ | with_reducible refine New.drewN ?_ _ | with_reducible refine New.alloc ?_ _ | with_reducible refine New.setCell ?_ (by first | (simp; done) | (simp; omega) | omega) _ | with_reducible refine New.trans ?_ (by with_reducible assumption)))⟩
theorem eqInterval_any (lo hi a b : Int) (w : World) : Calls Try.prog 39 #[.agg #[.int .i64 lo, .int .i64 hi], .agg #[.int .i64 a, .int .i64 b]] w fun e w' => e = .returned (.bool (decide (lo = a ∧ hi = b))) ∧ New w w' := by
  go_enter Try.func39, Try.ntmps39
  go_wp2_with fail
  all_goals (go_ret; exact ⟨ret_bool (by simp_all), (by repeat (first | with_reducible exact New.refl _ | with_reducible assumption | with_reducible refine New.drew ?_ | with_reducible refine New.drewN ?_ _ | with_reducible refine New.alloc ?_ _ | with_reducible refine New.setCell ?_ (by first | (simp; done) | (simp; omega) | omega) _ | with_reducible refine New.trans ?_ (by with_reducible assumption)))⟩)
set_option maxHeartbeats 800000 in
theorem toSegment_any (k len rise rl rh fl fh : Int) (w : World) : Calls Try.prog 27 #[.agg #[.int .i64 k, .int .i64 len, .int .i64 rise, .int .i64 rl, .int .i64 rh, .int .i64 fl, .int .i64 fh]] w fun e w' => e = .returned (.agg #[.int .i64 k, .int .i64 len, .int .i64 rise, .int .i64 rl, .int .i64 rh, .int .i64 fl, .int .i64 fh]) ∧ New w w' := by
  go_enter Try.func27, Try.ntmps27
  go_wp2_with fail
  refine (toInterval_any _ _ _).mono ?_; rintro e w1 ⟨rfl, hb⟩
  obtain ⟨hc, hf⟩ := hb.rules
  have hz := hb.size
  simp only [World.size_alloc] at hz
  have hz0 : w.heap.size < w1.heap.size := by omega
  have hz1 : w.heap.size + 1 < w1.heap.size := by omega
  have hz2 : w.heap.size + 1 + 1 < w1.heap.size := by omega
  go_wp2_with fail
  refine (toInterval_any _ _ _).mono ?_; rintro e w2 ⟨rfl, hb2⟩
  obtain ⟨hc2, hf2⟩ := hb2.rules
  have hz' := hb2.size
  simp only [World.size_setCell] at hz'
  go_wp2_with fail
  refine bodyPost_ret (v := .agg #[.int .i64 k, .int .i64 len, .int .i64 rise, .int .i64 rl, .int .i64 rh, .int .i64 fl, .int .i64 fh]) (by simp [results, Try.results27, go_sem, hc2, hf2, hc, hf, hz0, hz1, hz2]) rfl ⟨rfl, (by repeat (first | with_reducible exact New.refl _ | with_reducible assumption | with_reducible refine New.drew ?_ | with_reducible refine New.drewN ?_ _ | with_reducible refine New.alloc ?_ _ | with_reducible refine New.setCell ?_ (by first | (simp; done) | (simp; omega) | omega) _ | with_reducible refine New.trans ?_ (by with_reducible assumption)))⟩
def liftT (k len rise rl rh fl fh : Int) : Int × Int × Int :=
  if isSeg k len rise rl rh fl fh then (if (k == 1) = true then (1000 * len / fh, -(-(1000 * len) / fl), 0) else (0, 0, 5)) else (0, 0, 1)
def launchF (len rise rh elo target : Int) : Int := if -(target - elo - chLo len rise rh) / (2 * len) < 0 then -(-(target - elo - chLo len rise rh) / (2 * len)) else 0
def launchR (k len rise rl rh fl fh elo ehi target : Int) : Int × Int :=
  if (isSeg k len rise rl rh fl fh && ivIn elo ehi 0 10000000000) = true then
    if inB target 0 10000000000 = true then
      if (k == 2) = true then if decide (fl < launchF len rise rh elo target) = true then (0, 4) else (launchF len rise rh elo target, 0) else (0, 5)
    else (0, 2)
  else (0, 1)
theorem chLo_bd {len rise rh : Int} (h1 : 1 ≤ len) (h2 : len ≤ 200000) (h3 : -100000 ≤ rise) (h4 : rise ≤ 100000) (h5 : 0 ≤ rh) (h6 : rh ≤ 20000) : -10000000000 ≤ chLo len rise rh ∧ chLo len rise rh ≤ 2000000000 := by
  have b := mul_bd (a := 2 * rh) (b := len) (A := 40000) (B := 200000) (by omega) (by omega) (by omega) (by omega)
  unfold chLo; omega
end Go.Proofs.Ytinkhjjeflhagaa
