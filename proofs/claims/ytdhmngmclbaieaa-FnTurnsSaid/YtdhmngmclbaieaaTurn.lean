/- Contracts: turning back. -/
import Derived.Test.YtdhmngmclbaieaaProg
import Derived.Test.YtdhmngmclbaieaaLaunch
namespace Go.Proofs.Ytdhmngmclbaieaa
open Go Go.Proofs Go.RowKit
set_option linter.unusedVariables false
set_option linter.unusedSimpArgs false
set_option maxRecDepth 100000
theorem chLo_eq (len rise rh : Int) : chLo len rise rh = -(2 * (rh * len + 9806 * rise)) := by unfold chLo; rw [Int.mul_assoc]; omega
theorem chHi_eq (len rise rl : Int) : chHi len rise rl = -(2 * (rl * len + 9806 * rise)) := by unfold chHi; rw [Int.mul_assoc]; omega
def turnR (k len rise rl rh fl fh elo ehi : Int) : Int × Int × Int :=
  if (isSeg k len rise rl rh fl fh && ivIn elo ehi 0 10000000000) = true then
    if (decide (-2 < chHi len rise rl) || decide (0 ≤ ehi + chHi len rise rl)) = true then (0, 0, 5)
    else (elo * len / -chLo len rise rh, -(-(ehi * len) / -chHi len rise rl), 0)
  else (0, 0, 1)
theorem ch_bd {len rise rl rh : Int} (h1 : 1 ≤ len) (h2 : len ≤ 200000) (h3 : -100000 ≤ rise) (h4 : rise ≤ 100000) (h5 : 0 ≤ rl) (h6 : rl ≤ rh) (h7 : rh ≤ 20000) :
    -10000000000 ≤ chLo len rise rh ∧ chLo len rise rh ≤ chHi len rise rl ∧ chHi len rise rl ≤ 2000000000 := by
  have b := mul_bd (a := rh) (b := len) (A := 20000) (B := 200000) (by omega) (by omega) (by omega) (by omega)
  have b2 := mul_bd (a := rl) (b := len) (A := 20000) (B := 200000) (by omega) (by omega) (by omega) (by omega)
  have b3 : rl * len ≤ rh * len := Int.mul_le_mul_of_nonneg_right h6 (by omega)
  rw [chLo_eq, chHi_eq]; omega
set_option maxHeartbeats 2000000 in
theorem sTurnDistance_any (k len rise rl rh fl fh elo ehi : Int) (w : World) :
    Calls Try.prog 32 #[.agg #[.int .i64 k, .int .i64 len, .int .i64 rise, .int .i64 rl, .int .i64 rh, .int .i64 fl, .int .i64 fh], .agg #[.int .i64 elo, .int .i64 ehi]] w fun e w' => e = .returned (.tuple #[.agg #[.int .i64 (turnR k len rise rl rh fl fh elo ehi).1, .int .i64 (turnR k len rise rl rh fl fh elo ehi).2.1], .int .i64 (turnR k len rise rl rh fl fh elo ehi).2.2]) ∧ New w w' := by
  rcases Bool.eq_false_or_eq_true (isSeg k len rise rl rh fl fh) with h1 | h1; rotate_left
  · go_enter Try.func32, Try.ntmps32
    go_wp2_with fail
    refine (sIsSegment_any _ _ _ _ _ _ _ _).mono ?_; rintro e w1 ⟨rfl, b1⟩
    try with_reducible replace b1 := New.undrawN b1
    try with_reducible replace b1 := New.undraw b1
    obtain ⟨c1, f1⟩ := b1.rules
    have z1 := b1.size
    try simp only [World.size_alloc, World.size_drew, World.heap_drewN, World.size_setCell] at z1
    have z1_0 : w.heap.size < w1.heap.size := by omega
    have z1_1 : w.heap.size + 1 < w1.heap.size := by omega
    have z1_2 : w.heap.size + 1 + 1 < w1.heap.size := by omega
    go_wp2_with fail
    refine bodyPost_ret (v := (.tuple #[.agg #[.int .i64 (turnR k len rise rl rh fl fh elo ehi).1, .int .i64 (turnR k len rise rl rh fl fh elo ehi).2.1], .int .i64 (turnR k len rise rl rh fl fh elo ehi).2.2])) ?_ rfl ⟨rfl, (by repeat (first | with_reducible exact New.refl _ | with_reducible assumption | with_reducible refine New.drew ?_ | with_reducible refine New.drewN ?_ _ | with_reducible refine New.alloc ?_ _ | with_reducible refine New.setCell ?_ (by first | (simp; done) | (simp; omega) | omega) _ | with_reducible refine New.trans ?_ (by with_reducible assumption)))⟩
    simp [results, Try.results32, go_sem, c1, turnR, h1]
  rcases Bool.eq_false_or_eq_true (ivIn elo ehi 0 10000000000) with h2 | h2; rotate_left
  · go_enter Try.func32, Try.ntmps32
    go_wp2_with fail
    refine (sIsSegment_any _ _ _ _ _ _ _ _).mono ?_; rintro e w1 ⟨rfl, b1⟩
    try with_reducible replace b1 := New.undrawN b1
    try with_reducible replace b1 := New.undraw b1
    obtain ⟨c1, f1⟩ := b1.rules
    have z1 := b1.size
    try simp only [World.size_alloc, World.size_drew, World.heap_drewN, World.size_setCell] at z1
    have z1_0 : w.heap.size < w1.heap.size := by omega
    have z1_1 : w.heap.size + 1 < w1.heap.size := by omega
    have z1_2 : w.heap.size + 1 + 1 < w1.heap.size := by omega
    go_wp2_with fail
    refine (sIsEnergy_any _ _ _).mono ?_; rintro e w2 ⟨rfl, b2⟩
    try with_reducible replace b2 := New.undrawN b2
    try with_reducible replace b2 := New.undraw b2
    obtain ⟨c2, f2⟩ := b2.rules
    have z2 := b2.size
    try simp only [World.size_alloc, World.size_drew, World.heap_drewN, World.size_setCell] at z2
    have z2_0 : w.heap.size < w2.heap.size := by omega
    have z2_1 : w.heap.size + 1 < w2.heap.size := by omega
    have z2_2 : w.heap.size + 1 + 1 < w2.heap.size := by omega
    go_wp2_with fail
    refine bodyPost_ret (v := (.tuple #[.agg #[.int .i64 (turnR k len rise rl rh fl fh elo ehi).1, .int .i64 (turnR k len rise rl rh fl fh elo ehi).2.1], .int .i64 (turnR k len rise rl rh fl fh elo ehi).2.2])) ?_ rfl ⟨rfl, (by repeat (first | with_reducible exact New.refl _ | with_reducible assumption | with_reducible refine New.drew ?_ | with_reducible refine New.drewN ?_ _ | with_reducible refine New.alloc ?_ _ | with_reducible refine New.setCell ?_ (by first | (simp; done) | (simp; omega) | omega) _ | with_reducible refine New.trans ?_ (by with_reducible assumption)))⟩
    simp [results, Try.results32, go_sem, c1, c2, z1_0, z1_1, z1_2, turnR, h1, h2]
  rcases Bool.eq_false_or_eq_true (decide (-2 < chHi len rise rl)) with h3 | h3
  · have bd := isSeg_bd h1
    have be : 0 ≤ elo ∧ elo ≤ ehi ∧ ehi ≤ 10000000000 := by simp only [ivIn, isIv, Bool.and_eq_true, decide_eq_true_eq] at h2; omega
    obtain ⟨bc1, bc2, bc3⟩ := ch_bd (len := len) (rise := rise) (rl := rl) (rh := rh) (by omega) (by omega) (by omega) (by omega) (by omega) (by omega) (by omega)
    go_enter Try.func32, Try.ntmps32
    go_wp2_with fail
    refine (sIsSegment_any _ _ _ _ _ _ _ _).mono ?_; rintro e w1 ⟨rfl, b1⟩
    try with_reducible replace b1 := New.undrawN b1
    try with_reducible replace b1 := New.undraw b1
    obtain ⟨c1, f1⟩ := b1.rules
    have z1 := b1.size
    try simp only [World.size_alloc, World.size_drew, World.heap_drewN, World.size_setCell] at z1
    have z1_0 : w.heap.size < w1.heap.size := by omega
    have z1_1 : w.heap.size + 1 < w1.heap.size := by omega
    have z1_2 : w.heap.size + 1 + 1 < w1.heap.size := by omega
    go_wp2_with fail
    refine (sIsEnergy_any _ _ _).mono ?_; rintro e w2 ⟨rfl, b2⟩
    try with_reducible replace b2 := New.undrawN b2
    try with_reducible replace b2 := New.undraw b2
    obtain ⟨c2, f2⟩ := b2.rules
    have z2 := b2.size
    try simp only [World.size_alloc, World.size_drew, World.heap_drewN, World.size_setCell] at z2
    have z2_0 : w.heap.size < w2.heap.size := by omega
    have z2_1 : w.heap.size + 1 < w2.heap.size := by omega
    have z2_2 : w.heap.size + 1 + 1 < w2.heap.size := by omega
    go_wp2_with fail
    refine (l06Change_any _ _ _ _ _ _ _ _ (by omega)).mono ?_; rintro e w3 ⟨rfl, b3⟩
    try with_reducible replace b3 := New.undrawN b3
    try with_reducible replace b3 := New.undraw b3
    obtain ⟨c3, f3⟩ := b3.rules
    have z3 := b3.size
    try simp only [World.size_alloc, World.size_drew, World.heap_drewN, World.size_setCell] at z3
    have z3_0 : w.heap.size < w3.heap.size := by omega
    have z3_1 : w.heap.size + 1 < w3.heap.size := by omega
    have z3_2 : w.heap.size + 1 + 1 < w3.heap.size := by omega
    go_wp2_with fail
    refine bodyPost_ret (v := (.tuple #[.agg #[.int .i64 (turnR k len rise rl rh fl fh elo ehi).1, .int .i64 (turnR k len rise rl rh fl fh elo ehi).2.1], .int .i64 (turnR k len rise rl rh fl fh elo ehi).2.2])) ?_ rfl ⟨rfl, (by repeat (first | with_reducible exact New.refl _ | with_reducible assumption | with_reducible refine New.drew ?_ | with_reducible refine New.drewN ?_ _ | with_reducible refine New.alloc ?_ _ | with_reducible refine New.setCell ?_ (by first | (simp; done) | (simp; omega) | omega) _ | with_reducible refine New.trans ?_ (by with_reducible assumption)))⟩
    simp [results, Try.results32, go_sem, c1, c2, c3, z1_0, z1_1, z1_2, z2_0, z2_1, z2_2, z3_0, z3_1, z3_2, Nat.ne_of_lt, turnR, h1, h2, h3]
  rcases Bool.eq_false_or_eq_true (decide (0 ≤ ehi + chHi len rise rl)) with h4 | h4
  · have bd := isSeg_bd h1
    have be : 0 ≤ elo ∧ elo ≤ ehi ∧ ehi ≤ 10000000000 := by simp only [ivIn, isIv, Bool.and_eq_true, decide_eq_true_eq] at h2; omega
    obtain ⟨bc1, bc2, bc3⟩ := ch_bd (len := len) (rise := rise) (rl := rl) (rh := rh) (by omega) (by omega) (by omega) (by omega) (by omega) (by omega) (by omega)
    go_enter Try.func32, Try.ntmps32
    go_wp2_with fail
    refine (sIsSegment_any _ _ _ _ _ _ _ _).mono ?_; rintro e w1 ⟨rfl, b1⟩
    try with_reducible replace b1 := New.undrawN b1
    try with_reducible replace b1 := New.undraw b1
    obtain ⟨c1, f1⟩ := b1.rules
    have z1 := b1.size
    try simp only [World.size_alloc, World.size_drew, World.heap_drewN, World.size_setCell] at z1
    have z1_0 : w.heap.size < w1.heap.size := by omega
    have z1_1 : w.heap.size + 1 < w1.heap.size := by omega
    have z1_2 : w.heap.size + 1 + 1 < w1.heap.size := by omega
    go_wp2_with fail
    refine (sIsEnergy_any _ _ _).mono ?_; rintro e w2 ⟨rfl, b2⟩
    try with_reducible replace b2 := New.undrawN b2
    try with_reducible replace b2 := New.undraw b2
    obtain ⟨c2, f2⟩ := b2.rules
    have z2 := b2.size
    try simp only [World.size_alloc, World.size_drew, World.heap_drewN, World.size_setCell] at z2
    have z2_0 : w.heap.size < w2.heap.size := by omega
    have z2_1 : w.heap.size + 1 < w2.heap.size := by omega
    have z2_2 : w.heap.size + 1 + 1 < w2.heap.size := by omega
    go_wp2_with fail
    refine (l06Change_any _ _ _ _ _ _ _ _ (by omega)).mono ?_; rintro e w3 ⟨rfl, b3⟩
    try with_reducible replace b3 := New.undrawN b3
    try with_reducible replace b3 := New.undraw b3
    obtain ⟨c3, f3⟩ := b3.rules
    have z3 := b3.size
    try simp only [World.size_alloc, World.size_drew, World.heap_drewN, World.size_setCell] at z3
    have z3_0 : w.heap.size < w3.heap.size := by omega
    have z3_1 : w.heap.size + 1 < w3.heap.size := by omega
    have z3_2 : w.heap.size + 1 + 1 < w3.heap.size := by omega
    go_wp2_with fail
    refine bodyPost_ret (v := (.tuple #[.agg #[.int .i64 (turnR k len rise rl rh fl fh elo ehi).1, .int .i64 (turnR k len rise rl rh fl fh elo ehi).2.1], .int .i64 (turnR k len rise rl rh fl fh elo ehi).2.2])) ?_ rfl ⟨rfl, (by repeat (first | with_reducible exact New.refl _ | with_reducible assumption | with_reducible refine New.drew ?_ | with_reducible refine New.drewN ?_ _ | with_reducible refine New.alloc ?_ _ | with_reducible refine New.setCell ?_ (by first | (simp; done) | (simp; omega) | omega) _ | with_reducible refine New.trans ?_ (by with_reducible assumption)))⟩
    simp [results, Try.results32, go_sem, c1, c2, c3, z1_0, z1_1, z1_2, z2_0, z2_1, z2_2, z3_0, z3_1, z3_2, Nat.ne_of_lt, turnR, h1, h2, h3, h4]
  have bd := isSeg_bd h1
  have be : 0 ≤ elo ∧ elo ≤ ehi ∧ ehi ≤ 10000000000 := by simp only [ivIn, isIv, Bool.and_eq_true, decide_eq_true_eq] at h2; omega
  obtain ⟨bc1, bc2, bc3⟩ := ch_bd (len := len) (rise := rise) (rl := rl) (rh := rh) (by omega) (by omega) (by omega) (by omega) (by omega) (by omega) (by omega)
  have m1 := mul_bd (a := elo) (b := len) (A := 10000000000) (B := 200000) (by omega) (by omega) (by omega) (by omega)
  have m2 := mul_bd (a := ehi) (b := len) (A := 10000000000) (B := 200000) (by omega) (by omega) (by omega) (by omega)
  have n3 : chHi len rise rl ≤ -2 := by simpa using h3
  go_enter Try.func32, Try.ntmps32
  go_wp2_with fail
  refine (sIsSegment_any _ _ _ _ _ _ _ _).mono ?_; rintro e w1 ⟨rfl, b1⟩
  try with_reducible replace b1 := New.undrawN b1
  try with_reducible replace b1 := New.undraw b1
  obtain ⟨c1, f1⟩ := b1.rules
  have z1 := b1.size
  try simp only [World.size_alloc, World.size_drew, World.heap_drewN, World.size_setCell] at z1
  have z1_0 : w.heap.size < w1.heap.size := by omega
  have z1_1 : w.heap.size + 1 < w1.heap.size := by omega
  have z1_2 : w.heap.size + 1 + 1 < w1.heap.size := by omega
  go_wp2_with fail
  refine (sIsEnergy_any _ _ _).mono ?_; rintro e w2 ⟨rfl, b2⟩
  try with_reducible replace b2 := New.undrawN b2
  try with_reducible replace b2 := New.undraw b2
  obtain ⟨c2, f2⟩ := b2.rules
  have z2 := b2.size
  try simp only [World.size_alloc, World.size_drew, World.heap_drewN, World.size_setCell] at z2
  have z2_0 : w.heap.size < w2.heap.size := by omega
  have z2_1 : w.heap.size + 1 < w2.heap.size := by omega
  have z2_2 : w.heap.size + 1 + 1 < w2.heap.size := by omega
  go_wp2_with fail
  refine (l06Change_any _ _ _ _ _ _ _ _ (by omega)).mono ?_; rintro e w3 ⟨rfl, b3⟩
  try with_reducible replace b3 := New.undrawN b3
  try with_reducible replace b3 := New.undraw b3
  obtain ⟨c3, f3⟩ := b3.rules
  have z3 := b3.size
  try simp only [World.size_alloc, World.size_drew, World.heap_drewN, World.size_setCell] at z3
  have z3_0 : w.heap.size < w3.heap.size := by omega
  have z3_1 : w.heap.size + 1 < w3.heap.size := by omega
  have z3_2 : w.heap.size + 1 + 1 < w3.heap.size := by omega
  go_wp2_with fail
  have e1 : IntKind.i64.wrap (elo * len) = elo * len := IntWalk.i64_in _ (by omega)
  have e2 : IntKind.i64.wrap (ehi * len) = ehi * len := IntWalk.i64_in _ (by omega)
  have e3 : IntKind.i64.wrap (-chLo len rise rh) = -chLo len rise rh := IntWalk.i64_in _ (by omega)
  have e4 : IntKind.i64.wrap (-chHi len rise rl) = -chHi len rise rl := IntWalk.i64_in _ (by omega)
  refine wp_region_still_tail 19 (by kernel_rfl) (by kernel_rfl) ?_
  simp only [World.drew_eq, List.take_succ_cons, List.take_zero, List.drop_succ_cons, List.drop_zero]
  repeat (first | still_step | (still_call (still_eq (l01Floor_any _ _ _ (by omega) (by omega) (by omega) (by omega)))) | (still_call (still_eq (l01Ceil_any _ _ _ (by omega) (by omega) (by omega) (by omega)))))
  refine wpStill_nil ?_
  clear e1 e2 e3 e4
  go_wp2_with fail
  refine bodyPost_ret (v := (.tuple #[.agg #[.int .i64 (turnR k len rise rl rh fl fh elo ehi).1, .int .i64 (turnR k len rise rl rh fl fh elo ehi).2.1], .int .i64 (turnR k len rise rl rh fl fh elo ehi).2.2])) ?_ rfl ⟨rfl, (by repeat (first | with_reducible exact New.refl _ | with_reducible assumption | with_reducible refine New.drew ?_ | with_reducible refine New.drewN ?_ _ | with_reducible refine New.alloc ?_ _ | with_reducible refine New.setCell ?_ (by first | (simp; done) | (simp; omega) | omega) _ | with_reducible refine New.trans ?_ (by with_reducible assumption)))⟩
  simp [results, Try.results32, go_sem, c1, c2, c3, z1_0, z1_1, z1_2, z2_0, z2_1, z2_2, z3_0, z3_1, z3_2, Nat.ne_of_lt, turnR, h1, h2, h3, h4]
set_option maxHeartbeats 2000000 in
theorem iTurnDistance_any (k len rise rl rh fl fh elo ehi : Int) (w : World) :
    Calls Try.prog 33 #[.agg #[.int .i64 k, .int .i64 len, .int .i64 rise, .int .i64 rl, .int .i64 rh, .int .i64 fl, .int .i64 fh], .agg #[.int .i64 elo, .int .i64 ehi]] w fun e w' => e = .returned (.tuple #[.agg #[.int .i64 (turnR k len rise rl rh fl fh elo ehi).1, .int .i64 (turnR k len rise rl rh fl fh elo ehi).2.1], .int .i64 (turnR k len rise rl rh fl fh elo ehi).2.2]) ∧ New w w' := by
  have HL := chLo_eq len rise rh
  have HH := chHi_eq len rise rl
  have H3 : decide (rl * len + 9806 * rise < 1) = decide (-2 < chHi len rise rl) := by rw [HH]; simp; omega
  replace HL := Lib.hid HL
  replace HH := Lib.hid HH
  rcases Bool.eq_false_or_eq_true (isSeg k len rise rl rh fl fh) with h1 | h1; rotate_left
  · have h3' := Lib.hid H3
    clear H3
    go_enter Try.func33, Try.ntmps33
    go_wp2_with fail
    refine (iIsSegment_any _ _ _ _ _ _ _ _).mono ?_; rintro e w1 ⟨rfl, b1⟩
    try with_reducible replace b1 := New.undrawN b1
    try with_reducible replace b1 := New.undraw b1
    obtain ⟨c1, f1⟩ := b1.rules
    have z1 := b1.size
    try simp only [World.size_alloc, World.size_drew, World.heap_drewN, World.size_setCell] at z1
    have z1_0 : w.heap.size < w1.heap.size := by omega
    have z1_1 : w.heap.size + 1 < w1.heap.size := by omega
    have z1_2 : w.heap.size + 1 + 1 < w1.heap.size := by omega
    go_wp2_with fail
    have er : turnR k len rise rl rh fl fh elo ehi = (0, 0, 1) := by simp [turnR, h1]
    rw [er]
    refine bodyPost_ret (v := .tuple #[.agg #[.int .i64 0, .int .i64 0], .int .i64 1]) ?_ rfl ⟨rfl, (by repeat (first | with_reducible exact New.refl _ | with_reducible assumption | with_reducible refine New.drew ?_ | with_reducible refine New.drewN ?_ _ | with_reducible refine New.alloc ?_ _ | with_reducible refine New.setCell ?_ (by first | (simp; done) | (simp; omega) | omega) _ | with_reducible refine New.trans ?_ (by with_reducible assumption)))⟩
    simp [results, Try.results33, go_sem, c1]
  rcases Bool.eq_false_or_eq_true (ivIn elo ehi 0 10000000000) with h2 | h2; rotate_left
  · have h3' := Lib.hid H3
    clear H3
    go_enter Try.func33, Try.ntmps33
    go_wp2_with fail
    refine (iIsSegment_any _ _ _ _ _ _ _ _).mono ?_; rintro e w1 ⟨rfl, b1⟩
    try with_reducible replace b1 := New.undrawN b1
    try with_reducible replace b1 := New.undraw b1
    obtain ⟨c1, f1⟩ := b1.rules
    have z1 := b1.size
    try simp only [World.size_alloc, World.size_drew, World.heap_drewN, World.size_setCell] at z1
    have z1_0 : w.heap.size < w1.heap.size := by omega
    have z1_1 : w.heap.size + 1 < w1.heap.size := by omega
    have z1_2 : w.heap.size + 1 + 1 < w1.heap.size := by omega
    go_wp2_with fail
    refine (iIsEnergy_any _ _ _).mono ?_; rintro e w2 ⟨rfl, b2⟩
    try with_reducible replace b2 := New.undrawN b2
    try with_reducible replace b2 := New.undraw b2
    obtain ⟨c2, f2⟩ := b2.rules
    have z2 := b2.size
    try simp only [World.size_alloc, World.size_drew, World.heap_drewN, World.size_setCell] at z2
    have z2_0 : w.heap.size < w2.heap.size := by omega
    have z2_1 : w.heap.size + 1 < w2.heap.size := by omega
    have z2_2 : w.heap.size + 1 + 1 < w2.heap.size := by omega
    go_wp2_with fail
    have er : turnR k len rise rl rh fl fh elo ehi = (0, 0, 1) := by simp [turnR, h1, h2]
    rw [er]
    refine bodyPost_ret (v := .tuple #[.agg #[.int .i64 0, .int .i64 0], .int .i64 1]) ?_ rfl ⟨rfl, (by repeat (first | with_reducible exact New.refl _ | with_reducible assumption | with_reducible refine New.drew ?_ | with_reducible refine New.drewN ?_ _ | with_reducible refine New.alloc ?_ _ | with_reducible refine New.setCell ?_ (by first | (simp; done) | (simp; omega) | omega) _ | with_reducible refine New.trans ?_ (by with_reducible assumption)))⟩
    simp [results, Try.results33, go_sem, c1, c2, z1_0, z1_1, z1_2]
  rcases Bool.eq_false_or_eq_true (decide (rl * len + 9806 * rise < 1)) with h3 | h3
  · have h3' := Lib.hid H3
    clear H3
    have bd := isSeg_bd h1
    have be : 0 ≤ elo ∧ elo ≤ ehi ∧ ehi ≤ 10000000000 := by simp only [ivIn, isIv, Bool.and_eq_true, decide_eq_true_eq] at h2; omega
    obtain ⟨bc1, bc2, bc3⟩ := ch_bd (len := len) (rise := rise) (rl := rl) (rh := rh) (by omega) (by omega) (by omega) (by omega) (by omega) (by omega) (by omega)
    have m3 := mul_bd (a := rl) (b := len) (A := 20000) (B := 200000) (by omega) (by omega) (by omega) (by omega)
    have m4 := mul_bd (a := rh) (b := len) (A := 20000) (B := 200000) (by omega) (by omega) (by omega) (by omega)
    have e1 : IntKind.i64.wrap (rl * len) = rl * len := IntWalk.i64_in _ (by omega)
    have e2 : IntKind.i64.wrap (9806 * rise) = 9806 * rise := IntWalk.i64_in _ (by omega)
    have e3 : IntKind.i64.wrap (rl * len + 9806 * rise) = rl * len + 9806 * rise := IntWalk.i64_in _ (by omega)
    have e4 : IntKind.i64.wrap (rh * len) = rh * len := IntWalk.i64_in _ (by omega)
    have e5 : IntKind.i64.wrap (rh * len + 9806 * rise) = rh * len + 9806 * rise := IntWalk.i64_in _ (by omega)
    go_enter Try.func33, Try.ntmps33
    go_wp2_with fail
    refine (iIsSegment_any _ _ _ _ _ _ _ _).mono ?_; rintro e w1 ⟨rfl, b1⟩
    try with_reducible replace b1 := New.undrawN b1
    try with_reducible replace b1 := New.undraw b1
    obtain ⟨c1, f1⟩ := b1.rules
    have z1 := b1.size
    try simp only [World.size_alloc, World.size_drew, World.heap_drewN, World.size_setCell] at z1
    have z1_0 : w.heap.size < w1.heap.size := by omega
    have z1_1 : w.heap.size + 1 < w1.heap.size := by omega
    have z1_2 : w.heap.size + 1 + 1 < w1.heap.size := by omega
    go_wp2_with fail
    refine (iIsEnergy_any _ _ _).mono ?_; rintro e w2 ⟨rfl, b2⟩
    try with_reducible replace b2 := New.undrawN b2
    try with_reducible replace b2 := New.undraw b2
    obtain ⟨c2, f2⟩ := b2.rules
    have z2 := b2.size
    try simp only [World.size_alloc, World.size_drew, World.heap_drewN, World.size_setCell] at z2
    have z2_0 : w.heap.size < w2.heap.size := by omega
    have z2_1 : w.heap.size + 1 < w2.heap.size := by omega
    have z2_2 : w.heap.size + 1 + 1 < w2.heap.size := by omega
    go_wp2_with fail
    go_quiet (fail)
    go_wp2_with fail
    have hq := fun (n : NewOf (w2.drewN nq)) b o (h : b < w2.heap.size) => (NewOf.cell n b o h : n.val.cell? ⟨b, o, none⟩ = w2.cell? ⟨b, o, none⟩)
    have hf1 := @field_iv1
    refine wp_region_new (by kernel_rfl) (by kernel_rfl) ?_
    repeat (first | go_big_quiet_skip | go_big_quiet_step ((first | exact newq (change_any _ _ _ _ _ _ _ _ (by omega)))) | quiet_step ((first | exact newq (change_any _ _ _ _ _ _ _ _ (by omega)))))
    refine wpQuiet_nil ?_
    rintro ⟨w3, b3⟩
    dsimp only
    try with_reducible replace b3 := New.undrawN b3
    try with_reducible replace b3 := New.undraw b3
    obtain ⟨c3, f3⟩ := b3.rules
    have z3 := b3.size
    try simp only [World.size_alloc, World.size_drew, World.heap_drewN, World.size_setCell] at z3
    have z3_0 : w.heap.size < w3.heap.size := by omega
    have z3_1 : w.heap.size + 1 < w3.heap.size := by omega
    have z3_2 : w.heap.size + 1 + 1 < w3.heap.size := by omega
    go_wp2_with fail
    have er : turnR k len rise rl rh fl fh elo ehi = (0, 0, 5) := by rw [h3'.out] at h3; simp [turnR, h1, h2, h3]
    rw [er]
    refine bodyPost_ret (v := .tuple #[.agg #[.int .i64 0, .int .i64 0], .int .i64 5]) ?_ rfl ⟨rfl, (by repeat (first | with_reducible exact New.refl _ | with_reducible assumption | with_reducible refine New.drew ?_ | with_reducible refine New.drewN ?_ _ | with_reducible refine New.alloc ?_ _ | with_reducible refine New.setCell ?_ (by first | (simp; done) | (simp; omega) | omega) _ | with_reducible refine New.trans ?_ (by with_reducible assumption)))⟩
    simp [results, Try.results33, go_sem, c1, c2, c3, z1_0, z1_1, z1_2, z2_0, z2_1, z2_2, z3_0, z3_1, z3_2, Nat.ne_of_lt]
  rcases Bool.eq_false_or_eq_true (decide (0 ≤ ehi + chHi len rise rl)) with h4 | h4
  · have h3' := Lib.hid H3
    clear H3
    have bd := isSeg_bd h1
    have be : 0 ≤ elo ∧ elo ≤ ehi ∧ ehi ≤ 10000000000 := by simp only [ivIn, isIv, Bool.and_eq_true, decide_eq_true_eq] at h2; omega
    obtain ⟨bc1, bc2, bc3⟩ := ch_bd (len := len) (rise := rise) (rl := rl) (rh := rh) (by omega) (by omega) (by omega) (by omega) (by omega) (by omega) (by omega)
    have m3 := mul_bd (a := rl) (b := len) (A := 20000) (B := 200000) (by omega) (by omega) (by omega) (by omega)
    have m4 := mul_bd (a := rh) (b := len) (A := 20000) (B := 200000) (by omega) (by omega) (by omega) (by omega)
    have e1 : IntKind.i64.wrap (rl * len) = rl * len := IntWalk.i64_in _ (by omega)
    have e2 : IntKind.i64.wrap (9806 * rise) = 9806 * rise := IntWalk.i64_in _ (by omega)
    have e3 : IntKind.i64.wrap (rl * len + 9806 * rise) = rl * len + 9806 * rise := IntWalk.i64_in _ (by omega)
    have e4 : IntKind.i64.wrap (rh * len) = rh * len := IntWalk.i64_in _ (by omega)
    have e5 : IntKind.i64.wrap (rh * len + 9806 * rise) = rh * len + 9806 * rise := IntWalk.i64_in _ (by omega)
    have e6 : IntKind.i64.wrap (ehi + chHi len rise rl) = ehi + chHi len rise rl := IntWalk.i64_in _ (by omega)
    go_enter Try.func33, Try.ntmps33
    go_wp2_with fail
    refine (iIsSegment_any _ _ _ _ _ _ _ _).mono ?_; rintro e w1 ⟨rfl, b1⟩
    try with_reducible replace b1 := New.undrawN b1
    try with_reducible replace b1 := New.undraw b1
    obtain ⟨c1, f1⟩ := b1.rules
    have z1 := b1.size
    try simp only [World.size_alloc, World.size_drew, World.heap_drewN, World.size_setCell] at z1
    have z1_0 : w.heap.size < w1.heap.size := by omega
    have z1_1 : w.heap.size + 1 < w1.heap.size := by omega
    have z1_2 : w.heap.size + 1 + 1 < w1.heap.size := by omega
    go_wp2_with fail
    refine (iIsEnergy_any _ _ _).mono ?_; rintro e w2 ⟨rfl, b2⟩
    try with_reducible replace b2 := New.undrawN b2
    try with_reducible replace b2 := New.undraw b2
    obtain ⟨c2, f2⟩ := b2.rules
    have z2 := b2.size
    try simp only [World.size_alloc, World.size_drew, World.heap_drewN, World.size_setCell] at z2
    have z2_0 : w.heap.size < w2.heap.size := by omega
    have z2_1 : w.heap.size + 1 < w2.heap.size := by omega
    have z2_2 : w.heap.size + 1 + 1 < w2.heap.size := by omega
    go_wp2_with fail
    go_quiet (fail)
    go_wp2_with fail
    have hq := fun (n : NewOf (w2.drewN nq)) b o (h : b < w2.heap.size) => (NewOf.cell n b o h : n.val.cell? ⟨b, o, none⟩ = w2.cell? ⟨b, o, none⟩)
    have hf1 := @field_iv1
    refine wp_region_new (by kernel_rfl) (by kernel_rfl) ?_
    repeat (first | go_big_quiet_skip | go_big_quiet_step ((first | exact newq (change_any _ _ _ _ _ _ _ _ (by omega)))) | quiet_step ((first | exact newq (change_any _ _ _ _ _ _ _ _ (by omega)))))
    refine wpQuiet_nil ?_
    rintro ⟨w3, b3⟩
    dsimp only
    try with_reducible replace b3 := New.undrawN b3
    try with_reducible replace b3 := New.undraw b3
    obtain ⟨c3, f3⟩ := b3.rules
    have z3 := b3.size
    try simp only [World.size_alloc, World.size_drew, World.heap_drewN, World.size_setCell] at z3
    have z3_0 : w.heap.size < w3.heap.size := by omega
    have z3_1 : w.heap.size + 1 < w3.heap.size := by omega
    have z3_2 : w.heap.size + 1 + 1 < w3.heap.size := by omega
    go_wp2_with fail
    clear hq hf1
    have er : turnR k len rise rl rh fl fh elo ehi = (0, 0, 5) := by simp [turnR, h1, h2, h4]
    rw [er]
    refine bodyPost_ret (v := .tuple #[.agg #[.int .i64 0, .int .i64 0], .int .i64 5]) ?_ rfl ⟨rfl, (by repeat (first | with_reducible exact New.refl _ | with_reducible assumption | with_reducible refine New.drew ?_ | with_reducible refine New.drewN ?_ _ | with_reducible refine New.alloc ?_ _ | with_reducible refine New.setCell ?_ (by first | (simp; done) | (simp; omega) | omega) _ | with_reducible refine New.trans ?_ (by with_reducible assumption)))⟩
    simp [results, Try.results33, go_sem, c1, c2, c3, z1_0, z1_1, z1_2, z2_0, z2_1, z2_2, z3_0, z3_1, z3_2, Nat.ne_of_lt]
  have h3' := Lib.hid H3
  clear H3
  have bd := isSeg_bd h1
  have be : 0 ≤ elo ∧ elo ≤ ehi ∧ ehi ≤ 10000000000 := by simp only [ivIn, isIv, Bool.and_eq_true, decide_eq_true_eq] at h2; omega
  obtain ⟨bc1, bc2, bc3⟩ := ch_bd (len := len) (rise := rise) (rl := rl) (rh := rh) (by omega) (by omega) (by omega) (by omega) (by omega) (by omega) (by omega)
  have m3 := mul_bd (a := rl) (b := len) (A := 20000) (B := 200000) (by omega) (by omega) (by omega) (by omega)
  have m4 := mul_bd (a := rh) (b := len) (A := 20000) (B := 200000) (by omega) (by omega) (by omega) (by omega)
  have e1 : IntKind.i64.wrap (rl * len) = rl * len := IntWalk.i64_in _ (by omega)
  have e2 : IntKind.i64.wrap (9806 * rise) = 9806 * rise := IntWalk.i64_in _ (by omega)
  have e3 : IntKind.i64.wrap (rl * len + 9806 * rise) = rl * len + 9806 * rise := IntWalk.i64_in _ (by omega)
  have e4 : IntKind.i64.wrap (rh * len) = rh * len := IntWalk.i64_in _ (by omega)
  have e5 : IntKind.i64.wrap (rh * len + 9806 * rise) = rh * len + 9806 * rise := IntWalk.i64_in _ (by omega)
  have e6 : IntKind.i64.wrap (ehi + chHi len rise rl) = ehi + chHi len rise rl := IntWalk.i64_in _ (by omega)
  have m1 := mul_bd (a := elo) (b := len) (A := 10000000000) (B := 200000) (by omega) (by omega) (by omega) (by omega)
  have m2 := mul_bd (a := ehi) (b := len) (A := 10000000000) (B := 200000) (by omega) (by omega) (by omega) (by omega)
  have n3 : 1 ≤ rl * len + 9806 * rise := by have := of_decide_eq_false h3; omega
  have n4 : 1 ≤ rh * len + 9806 * rise := by have a1 := HL.out; have a2 := HH.out; omega
  have e7 : IntKind.i64.wrap (2 * (rl * len + 9806 * rise)) = 2 * (rl * len + 9806 * rise) := IntWalk.i64_in _ (by omega)
  have e8 : IntKind.i64.wrap (2 * (rh * len + 9806 * rise)) = 2 * (rh * len + 9806 * rise) := IntWalk.i64_in _ (by omega)
  have e9 : IntKind.i64.wrap (elo * len) = elo * len := IntWalk.i64_in _ (by omega)
  have e0 : IntKind.i64.wrap (ehi * len) = ehi * len := IntWalk.i64_in _ (by omega)
  go_enter Try.func33, Try.ntmps33
  go_wp2_with fail
  refine (iIsSegment_any _ _ _ _ _ _ _ _).mono ?_; rintro e w1 ⟨rfl, b1⟩
  try with_reducible replace b1 := New.undrawN b1
  try with_reducible replace b1 := New.undraw b1
  obtain ⟨c1, f1⟩ := b1.rules
  have z1 := b1.size
  try simp only [World.size_alloc, World.size_drew, World.heap_drewN, World.size_setCell] at z1
  have z1_0 : w.heap.size < w1.heap.size := by omega
  have z1_1 : w.heap.size + 1 < w1.heap.size := by omega
  have z1_2 : w.heap.size + 1 + 1 < w1.heap.size := by omega
  go_wp2_with fail
  refine (iIsEnergy_any _ _ _).mono ?_; rintro e w2 ⟨rfl, b2⟩
  try with_reducible replace b2 := New.undrawN b2
  try with_reducible replace b2 := New.undraw b2
  obtain ⟨c2, f2⟩ := b2.rules
  have z2 := b2.size
  try simp only [World.size_alloc, World.size_drew, World.heap_drewN, World.size_setCell] at z2
  have z2_0 : w.heap.size < w2.heap.size := by omega
  have z2_1 : w.heap.size + 1 < w2.heap.size := by omega
  have z2_2 : w.heap.size + 1 + 1 < w2.heap.size := by omega
  go_wp2_with fail
  go_quiet (fail)
  go_wp2_with fail
  have hq := fun (n : NewOf (w2.drewN nq)) b o (h : b < w2.heap.size) => (NewOf.cell n b o h : n.val.cell? ⟨b, o, none⟩ = w2.cell? ⟨b, o, none⟩)
  have hf1 := @field_iv1
  refine wp_region_new (by kernel_rfl) (by kernel_rfl) ?_
  repeat (first | go_big_quiet_skip | go_big_quiet_step ((first | exact newq (change_any _ _ _ _ _ _ _ _ (by omega)))) | quiet_step ((first | exact newq (change_any _ _ _ _ _ _ _ _ (by omega)))))
  refine wpQuiet_nil ?_
  rintro ⟨w3, b3⟩
  dsimp only
  try with_reducible replace b3 := New.undrawN b3
  try with_reducible replace b3 := New.undraw b3
  obtain ⟨c3, f3⟩ := b3.rules
  have z3 := b3.size
  try simp only [World.size_alloc, World.size_drew, World.heap_drewN, World.size_setCell] at z3
  have z3_0 : w.heap.size < w3.heap.size := by omega
  have z3_1 : w.heap.size + 1 < w3.heap.size := by omega
  have z3_2 : w.heap.size + 1 + 1 < w3.heap.size := by omega
  go_wp2_with fail
  clear hq hf1
  refine wp_region_still_tail 17 (by kernel_rfl) (by kernel_rfl) ?_
  simp only [World.drew_eq, List.take_succ_cons, List.take_zero, List.drop_succ_cons, List.drop_zero]
  repeat (first | still_step | (still_call (still_eq (down_any _ _ _ (by omega) (by omega) (by omega) (by omega)))) | (still_call (still_eq (up_any _ _ _ (by omega) (by omega) (by omega) (by omega)))))
  refine wpStill_nil ?_
  go_wp2_with fail
  have er : turnR k len rise rl rh fl fh elo ehi = (elo * len / (2 * (rh * len + 9806 * rise)), -(-(ehi * len) / (2 * (rl * len + 9806 * rise))), 0) := by rw [h3'.out] at h3; simp [turnR, h1, h2, h3, h4]; rw [HL.out, HH.out]; simp
  rw [er]
  refine bodyPost_ret (v := .tuple #[.agg #[.int .i64 (elo * len / (2 * (rh * len + 9806 * rise))), .int .i64 (-(-(ehi * len) / (2 * (rl * len + 9806 * rise))))], .int .i64 0]) ?_ rfl ⟨rfl, (by repeat (first | with_reducible exact New.refl _ | with_reducible assumption | with_reducible refine New.drew ?_ | with_reducible refine New.drewN ?_ _ | with_reducible refine New.alloc ?_ _ | with_reducible refine New.setCell ?_ (by first | (simp; done) | (simp; omega) | omega) _ | with_reducible refine New.trans ?_ (by with_reducible assumption)))⟩
  simp [results, Try.results33, go_sem, c1, c2, c3, z1_0, z1_1, z1_2, z2_0, z2_1, z2_2, z3_0, z3_1, z3_2, Nat.ne_of_lt]
end Go.Proofs.Ytdhmngmclbaieaa
