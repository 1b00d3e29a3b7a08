/- A train that turns back on a segment never passes it, and turns within its length, for every code. No condition. -/
import Derived.Test.YtdhmngmclbaieaaRows
import Derived.Test.YtdhmngmclbaieaaShape
import Derived.Test.YtdhmngmclbaieaaLawBase
import Derived.Test.YtdhmngmclbaieaaFacts
import Derived.Test.YtdhmngmclbaieaaTurn
import Derived.Test.YtdhmngmclbaieaaDraw8t
import Derived.Test.YtdhmngmclbaieaaRegionG
import Derived.Test.YtdhmngmclbaieaaOpenCodeB
namespace Go.Proofs.Ytdhmngmclbaieaa
open Go Go.Proofs Go.RowKit Go.ChangeShapes Go.WideShapes Go.ChangeAt
set_option linter.unusedVariables false
set_option linter.unusedSimpArgs false
set_option maxRecDepth 100000
theorem floor_ceil {x B : Int} (hB : 0 < B) : x / B ≤ -(-x / B) := by
  have h1 := Int.ediv_mul_le x (b := B) (by omega)
  have h2 := Int.ediv_mul_le (-x) (b := B) (by omega)
  have h3 : (x / B + -x / B) * B ≤ 0 * B := by rw [Int.add_mul]; omega
  have := Int.le_of_mul_le_mul_right h3 hB
  omega
theorem ediv_anti {x A B : Int} (hx : 0 ≤ x) (hB : 0 < B) (hAB : B ≤ A) : x / A ≤ x / B := by
  rw [Int.le_ediv_iff_mul_le hB]
  have h1 := Int.ediv_mul_le x (b := A) (by omega)
  have h2 : x / A * B ≤ x / A * A := Int.mul_le_mul_of_nonneg_left hAB (Int.ediv_nonneg hx (by omega))
  omega
theorem ceil_le {x B len : Int} (hB : 0 < B) (h : x ≤ len * B) : -(-x / B) ≤ len := by
  have : -len ≤ -x / B := by rw [Int.le_ediv_iff_mul_le hB, Int.neg_mul]; omega
  omega
theorem turn_plain {k len rise rl rh fl fh lo hi : Int} (h : (turnR k len rise rl rh fl fh lo hi).2.2 = 0) :
    isSeg k len rise rl rh fl fh = true ∧ ivIn lo hi 0 10000000000 = true ∧ hi + chHi len rise rl < 0 ∧ 0 ≤ (turnR k len rise rl rh fl fh lo hi).1 ∧ (turnR k len rise rl rh fl fh lo hi).1 ≤ (turnR k len rise rl rh fl fh lo hi).2.1 ∧ (turnR k len rise rl rh fl fh lo hi).2.1 ≤ len := by
  unfold turnR at h ⊢
  split at h
  · rename_i h1
    simp only [h1, if_true] at h ⊢
    split at h
    · simp at h
    · rename_i h2
      rw [if_neg h2]
      simp only [Bool.and_eq_true] at h1
      simp only [Bool.or_eq_true, decide_eq_true_eq, not_or] at h2
      have bd := isSeg_bd h1.1
      have be : 0 ≤ lo ∧ lo ≤ hi ∧ hi ≤ 10000000000 := by
        have := h1.2
        simp only [ivIn, isIv, Bool.and_eq_true, decide_eq_true_eq] at this; omega
      have bc := ch_bd (len := len) (rise := rise) (rl := rl) (rh := rh) (by omega) (by omega) (by omega) (by omega) (by omega) (by omega) (by omega)
      have m1 : 0 ≤ lo * len := Int.mul_nonneg (by omega) (by omega)
      have m2 : lo * len ≤ hi * len := Int.mul_le_mul_of_nonneg_right (by omega) (by omega)
      have m3 : hi * len ≤ len * -chHi len rise rl := by
        rw [Int.mul_comm hi len]
        exact Int.mul_le_mul_of_nonneg_left (by omega) (by omega)
      refine ⟨h1.1, h1.2, by omega, Int.ediv_nonneg m1 (by omega), ?_, ceil_le (by omega) m3⟩
      have s1 := Int.ediv_le_ediv (a := lo * len) (b := hi * len) (c := -chLo len rise rh) (by omega) m2
      have s2 := ediv_anti (x := hi * len) (A := -chLo len rise rh) (B := -chHi len rise rl) (by omega) (by omega) (by omega)
      have s3 := floor_ceil (x := hi * len) (B := -chHi len rise rl) (by omega)
      exact Int.le_trans s1 (Int.le_trans s2 s3)
  · simp at h
theorem lift_plain {k len rise rl rh fl fh : Int} (h : (liftT k len rise rl rh fl fh).2.2 = 0) : (liftT k len rise rl rh fl fh).1 ≤ (liftT k len rise rl rh fl fh).2.1 := by
  unfold liftT at h ⊢
  split at h
  · rename_i h1
    simp only [h1, if_true] at h ⊢
    split at h
    · rename_i h2
      simp only [h2, if_true]
      have bd := isSeg_bd h1
      have hk : k = 1 := by simpa using h2
      have hf := bd.2.2.2.2.2.2.2.2.2.2.2.2 (by omega)
      have s1 := ediv_anti (x := 1000 * len) (A := fh) (B := fl) (by omega) (by omega) (by omega)
      have s2 := floor_ceil (x := 1000 * len) (B := fl) (by omega)
      exact Int.le_trans s1 s2
    · simp at h
  · simp at h
theorem plus_any (x y u v : Int) (w : World) (h1 : -20000000000 ≤ x ∧ x ≤ 20000000000) (h2 : -20000000000 ≤ y ∧ y ≤ 20000000000) (h3 : -20000000000 ≤ u ∧ u ≤ 20000000000) (h4 : -20000000000 ≤ v ∧ v ≤ 20000000000) :
    Calls Try.prog 89 #[.agg #[.int .i64 x, .int .i64 y], .agg #[.int .i64 u, .int .i64 v]] w fun e w' => e = .returned (.agg #[.int .i64 (x + u), .int .i64 (y + v)]) ∧ New w w' := by
  obtain ⟨a1, a2⟩ := h1
  obtain ⟨a3, a4⟩ := h2
  obtain ⟨a5, a6⟩ := h3
  obtain ⟨a7, a8⟩ := h4
  go_enter Try.func89, Try.ntmps89
  go_wp2_with fail
  refine bodyPost_ret (v := .agg #[.int .i64 (x + u), .int .i64 (y + v)]) (by simp [results, Try.results89, go_sem]) rfl ⟨rfl, (by repeat (first | with_reducible exact New.refl _ | with_reducible assumption | with_reducible refine New.drew ?_ | with_reducible refine New.drewN ?_ _ | with_reducible refine New.alloc ?_ _ | with_reducible refine New.setCell ?_ (by first | (simp; done) | (simp; omega) | omega) _ | with_reducible refine New.trans ?_ (by with_reducible assumption)))⟩
set_option maxHeartbeats 1000000 in
theorem passNever_any (k len rise rl rh fl fh lo hi : Int) (w : World) (h1 : isSeg k len rise rl rh fl fh = true) (h2 : ivIn lo hi 0 10000000000 = true) (h3 : hi + chHi len rise rl < 0) :
    Calls Try.prog 39 #[.agg #[.int .i64 k, .int .i64 len, .int .i64 rise, .int .i64 rl, .int .i64 rh, .int .i64 fl, .int .i64 fh], .agg #[.int .i64 lo, .int .i64 hi]] w fun e w' => e = .returned (.tuple #[.int .i64 0, .int .i64 0]) ∧ New w w' := by
  have bd := isSeg_bd h1
  have be : 0 ≤ lo ∧ lo ≤ hi ∧ hi ≤ 10000000000 := by simp only [ivIn, isIv, Bool.and_eq_true, decide_eq_true_eq] at h2; omega
  have bc := ch_bd (len := len) (rise := rise) (rl := rl) (rh := rh) (by omega) (by omega) (by omega) (by omega) (by omega) (by omega) (by omega)
  have hl : lo + chLo len rise rh < 0 := by omega
  have HC := Lib.hid (fun (w0 : World) => change_any k len rise rl rh fl fh w0 (by omega))
  generalize chLo len rise rh = C at *
  generalize chHi len rise rl = D at *
  go_enter Try.func39, Try.ntmps39
  go_wp2_with fail
  refine (iIsSegment_any _ _ _ _ _ _ _ _).mono ?_; rintro e w1 ⟨rfl, b1⟩
  try with_reducible replace b1 := New.undrawN b1
  try with_reducible replace b1 := New.undraw b1
  obtain ⟨c1, f1⟩ := b1.rules
  have z1 := b1.size
  try simp only [World.size_alloc, World.size_drew, World.heap_drewN, World.size_setCell] at z1
  have z1_0 : w.heap.size < w1.heap.size := by omega
  have z1_1 : w.heap.size + 1 < w1.heap.size := by omega
  go_wp2_with fail
  refine (iIsEnergy_any _ _ _).mono ?_; rintro e w2 ⟨rfl, b2⟩
  try with_reducible replace b2 := New.undrawN b2
  try with_reducible replace b2 := New.undraw b2
  obtain ⟨c2, f2⟩ := b2.rules
  have z2 := b2.size
  try simp only [World.size_alloc, World.size_drew, World.heap_drewN, World.size_setCell] at z2
  have z2_0 : w.heap.size < w2.heap.size := by omega
  have z2_1 : w.heap.size + 1 < w2.heap.size := by omega
  go_wp2_with fail
  refine RG.wp_facts [fun X _ => X = .agg #[.int .i64 lo, .int .i64 hi], fun X _ => X = .agg #[.int .i64 k, .int .i64 len, .int .i64 rise, .int .i64 rl, .int .i64 rh, .int .i64 fl, .int .i64 fh], fun X _ => X = .agg #[.int .i64 C, .int .i64 D], fun X _ => X = .agg #[.int .i64 (lo + C), .int .i64 (hi + D)], fun X W' => ∃ b, X = .pointer (some ⟨b, 0, none⟩) ∧ w2.heap.size ≤ b ∧ b < W'.heap.size ∧ Blk W' b #[.int .i64 0, .int .i64 0] 42] (by kernel_rfl) (by kernel_rfl) ⟨RG.stable_eq _, RG.stable_eq _, RG.stable_eq _, RG.stable_eq _, fun X w0 w1 hn ⟨q6, t6, m1, m2, m3⟩ => ⟨q6, t6, m1, Nat.lt_of_lt_of_le m2 hn.size, m3.new hn⟩, trivial⟩ ?_ ?_
  · refine ⟨?_, ?_, ?_, ?_, ?_, trivial⟩
    · intro a w9 hw ho hk
      refine .inl ⟨by rfl, ?_⟩
      have t2 := ho 3 rfl
      dsimp at t2
      try with_reducible replace hw := New.undrawN hw
      try with_reducible replace hw := New.undraw hw
      obtain ⟨c, f'⟩ := hw.rules
      go_simp
      exact New.refl _
    · intro a w9 hw ho hk
      refine .inl ⟨by rfl, ?_⟩
      have t2 := ho 2 rfl
      dsimp at t2
      try with_reducible replace hw := New.undrawN hw
      try with_reducible replace hw := New.undraw hw
      obtain ⟨c, f'⟩ := hw.rules
      go_simp
      exact New.refl _
    · intro a w9 hw ho hk
      refine .inl ⟨by rfl, ?_⟩
      have t16 : a.tmps[16]?.getD undef = .agg #[.int .i64 k, .int .i64 len, .int .i64 rise, .int .i64 rl, .int .i64 rh, .int .i64 fl, .int .i64 fh] := hk 1 16 (by kernel_rfl) rfl
      go_simp
      refine (HC.out _).mono ?_; rintro e w2 ⟨rfl, hb⟩
      first | exact ⟨hb, _, rfl, by simp⟩ | exact ⟨hb, by simp⟩
    · intro a w9 hw ho hk
      refine .inl ⟨by rfl, ?_⟩
      have t15 : a.tmps[15]?.getD undef = .agg #[.int .i64 lo, .int .i64 hi] := hk 0 15 (by kernel_rfl) rfl
      have t17 : a.tmps[17]?.getD undef = .agg #[.int .i64 C, .int .i64 D] := hk 2 17 (by kernel_rfl) rfl
      go_simp
      refine (plus_any _ _ _ _ _ (by omega) (by omega) (by omega) (by omega)).mono ?_; rintro e w2 ⟨rfl, hb⟩
      first | exact ⟨hb, _, rfl, by simp⟩ | exact ⟨hb, by simp⟩
    · intro a w9 hw ho hk
      refine .inl ⟨by rfl, ?_⟩
      go_simp
      have hz := hw.size; first | exact ⟨(New.refl _).alloc _, _, rfl, _, rfl, hz, by simp, Blk.alloc_at rfl⟩ | exact ⟨(New.refl _).alloc _, _, by simp, hz, by simp, Blk.alloc_at rfl⟩
  intro w3 b3 x0 h0 x1 h1' x2 h2' x3 h3' x4 h4
  subst h0 h1' h2' h3'
  obtain ⟨q6, rfl, m1, m2, m3⟩ := h4
  obtain ⟨cq, fq⟩ := m3.rules
  clear m3
  have hq : w.heap.size ≤ q6 := by omega
  try with_reducible replace b3 := New.undrawN b3
  try with_reducible replace b3 := New.undraw b3
  obtain ⟨c3, f3⟩ := b3.rules
  have z3 := b3.size
  try simp only [World.size_alloc, World.size_drew, World.heap_drewN, World.size_setCell] at z3
  have z3_0 : w.heap.size < w3.heap.size := by omega
  have z3_1 : w.heap.size + 1 < w3.heap.size := by omega
  simp only [RG.EndAll, List.nil_append, List.cons_append, List.length_cons, List.length_nil, Nat.zero_add, Nat.reduceAdd, List.take_succ_cons, List.take_zero, List.drop_succ_cons, List.drop_zero, RG.putAll, Act.put, List.setIfInBounds_toArray, List.set_cons_succ, List.set_cons_zero]
  go_wp2_with fail
  go_ret2
  exact ⟨rfl, (by repeat (first | with_reducible exact New.refl _ | with_reducible assumption | with_reducible refine New.drew ?_ | with_reducible refine New.drewN ?_ _ | with_reducible refine New.alloc ?_ _ | with_reducible refine New.setCell ?_ (by first | (simp; done) | (simp; omega) | omega) _ | with_reducible refine New.trans ?_ (by with_reducible assumption)))⟩
set_option maxHeartbeats 4000000 in
theorem fnTurns_any (v : Value) (bs : List Int) (w : World) (hv : Rd w v bs.length (bs.map (Value.int .u8))) (hb : ∀ c ∈ bs, 0 ≤ c ∧ c ≤ 255) :
    Calls Try.prog 9 #[v] w fun e w' => e = .returned (.bool true) ∧ New w w' := by
  have HV := Lib.hid hv
  have HB := Lib.hid hb
  clear hv hb
  by_cases hl : (4096 : Int) < (bs.length : Int)
  · go_enter Try.func9, Try.ntmps9
    go_wp2_with fail
    refine (big_any v bs.length _ _ HV.out).mono ?_; rintro e w1 ⟨rfl, rfl⟩
    go_wp2_with fail
    go_ret
    exact ⟨rfl, New.refl _⟩
  · have hl' : bs.length ≤ 4096 := by omega
    have HL := Lib.hid hl'; clear hl'
    go_enter Try.func9, Try.ntmps9
    go_wp2_with fail
    refine (big_any v bs.length _ _ HV.out).mono ?_; rintro e w1 ⟨rfl, rfl⟩
    go_wp2_with fail
    refine (drawTurnDistance_any v bs _ HV.out HL.out HB.out).mono ?_; rintro e w1 ⟨k, len, rise, rl, rh, fl, fh, lo, hi, rfl, b1⟩
    obtain ⟨c1, f1⟩ := b1.rules
    have z1 := b1.size
    try simp only [World.size_alloc, World.size_drew, World.heap_drewN, World.size_setCell] at z1
    go_wp2_with fail
    generalize hR : turnR k len rise rl rh fl fh lo hi = R
    have HI := Lib.hid (fun (w0 : World) => iTurnDistance_any k len rise rl rh fl fh lo hi w0)
    have HS := Lib.hid (fun (w0 : World) => sTurnDistance_any k len rise rl rh fl fh lo hi w0)
    have HP := Lib.hid (turn_plain (k := k) (len := len) (rise := rise) (rl := rl) (rh := rh) (fl := fl) (fh := fh) (lo := lo) (hi := hi))
    rw [hR] at HI HS HP
    clear hR
    obtain ⟨x1, y1, bad⟩ := R
    dsimp only at HI HS HP
    refine (HI.out _).mono ?_; rintro e w2 ⟨rfl, b2⟩
    try with_reducible replace b2 := New.undrawN b2
    try with_reducible replace b2 := New.undraw b2
    obtain ⟨c2, f2⟩ := b2.rules
    have z2 := b2.size
    try simp only [World.size_alloc, World.size_drew, World.heap_drewN, World.size_setCell] at z2
    have z2_0 : w1.heap.size < w2.heap.size := by omega
    have z2_1 : w1.heap.size + 1 < w2.heap.size := by omega
    go_wp2_with fail
    refine (HS.out _).mono ?_; rintro e w3 ⟨rfl, b3⟩
    try with_reducible replace b3 := New.undrawN b3
    try with_reducible replace b3 := New.undraw b3
    obtain ⟨c3, f3⟩ := b3.rules
    have z3 := b3.size
    try simp only [World.size_alloc, World.size_drew, World.heap_drewN, World.size_setCell] at z3
    have z3_0 : w1.heap.size < w3.heap.size := by omega
    have z3_1 : w1.heap.size + 1 < w3.heap.size := by omega
    have z3_2 : w2.heap.size < w3.heap.size := by omega
    go_wp2_with fail
    refine (drawLiftTime_any v bs _ (HV.out.new (by repeat (first | with_reducible exact New.refl _ | with_reducible assumption | with_reducible refine New.drew ?_ | with_reducible refine New.drewN ?_ _ | with_reducible refine New.alloc ?_ _ | with_reducible refine New.setCell ?_ (by first | (simp; done) | (simp; omega) | omega) _ | with_reducible refine New.trans ?_ (by with_reducible assumption)))) HL.out HB.out).mono ?_; rintro e w4 ⟨k', len', rise', rl', rh', fl', fh', rfl, b4⟩
    obtain ⟨c4, f4⟩ := b4.rules
    have z4 := b4.size
    try simp only [World.size_alloc, World.size_drew, World.heap_drewN, World.size_setCell] at z4
    have z4_0 : w1.heap.size < w4.heap.size := by omega
    have z4_1 : w1.heap.size + 1 < w4.heap.size := by omega
    have z4_2 : w2.heap.size < w4.heap.size := by omega
    have z4_3 : w3.heap.size < w4.heap.size := by omega
    go_wp2_with fail
    generalize hR : liftT k' len' rise' rl' rh' fl' fh' = R
    have HI2 := Lib.hid (fun (w0 : World) => iLiftTime_any k' len' rise' rl' rh' fl' fh' w0)
    have HS2 := Lib.hid (fun (w0 : World) => sLiftTime_any k' len' rise' rl' rh' fl' fh' w0)
    have HP2 := Lib.hid (lift_plain (k := k') (len := len') (rise := rise') (rl := rl') (rh := rh') (fl := fl') (fh := fh'))
    rw [hR] at HI2 HS2 HP2
    clear hR
    obtain ⟨x2, y2, one⟩ := R
    dsimp only at HI2 HS2 HP2
    refine (HI2.out _).mono ?_; rintro e w5 ⟨rfl, b5⟩
    try with_reducible replace b5 := New.undrawN b5
    try with_reducible replace b5 := New.undraw b5
    obtain ⟨c5, f5⟩ := b5.rules
    have z5 := b5.size
    try simp only [World.size_alloc, World.size_drew, World.heap_drewN, World.size_setCell] at z5
    have z5_0 : w1.heap.size < w5.heap.size := by omega
    have z5_1 : w1.heap.size + 1 < w5.heap.size := by omega
    have z5_2 : w2.heap.size < w5.heap.size := by omega
    have z5_3 : w3.heap.size < w5.heap.size := by omega
    have z5_4 : w4.heap.size < w5.heap.size := by omega
    go_wp2_with fail
    refine (HS2.out _).mono ?_; rintro e w6 ⟨rfl, b6⟩
    try with_reducible replace b6 := New.undrawN b6
    try with_reducible replace b6 := New.undraw b6
    obtain ⟨c6, f6⟩ := b6.rules
    have z6 := b6.size
    try simp only [World.size_alloc, World.size_drew, World.heap_drewN, World.size_setCell] at z6
    have z6_0 : w1.heap.size < w6.heap.size := by omega
    have z6_1 : w1.heap.size + 1 < w6.heap.size := by omega
    have z6_2 : w2.heap.size < w6.heap.size := by omega
    have z6_3 : w3.heap.size < w6.heap.size := by omega
    have z6_4 : w4.heap.size < w6.heap.size := by omega
    have z6_5 : w5.heap.size < w6.heap.size := by omega
    go_wp2_with fail
    all_goals first | (go_ret; exact ⟨rfl, (by repeat (first | with_reducible exact New.refl _ | with_reducible assumption | with_reducible refine New.drew ?_ | with_reducible refine New.drewN ?_ _ | with_reducible refine New.alloc ?_ _ | with_reducible refine New.setCell ?_ (by first | (simp; done) | (simp; omega) | omega) _ | with_reducible refine New.trans ?_ (by with_reducible assumption)))⟩) | (exfalso; have h9 := HP2.out (by assumption); omega) | skip
    all_goals
      obtain ⟨hs, he, hn, t0, t1, t2⟩ := HP.out (by first | assumption | simp_all)
      have HV9 := Lib.hid (fun (w0 : World) => passNever_any k len rise rl rh fl fh lo hi w0 hs he hn)
      clear hs he hn
      refine (HV9.out _).mono ?_; rintro e w7 ⟨rfl, b7⟩
      try with_reducible replace b7 := New.undrawN b7
      try with_reducible replace b7 := New.undraw b7
      obtain ⟨c7, f7⟩ := b7.rules
      have z7 := b7.size
      try simp only [World.size_alloc, World.size_drew, World.heap_drewN, World.size_setCell] at z7
      have z7_0 : w1.heap.size < w7.heap.size := by omega
      have z7_1 : w1.heap.size + 1 < w7.heap.size := by omega
      have z7_2 : w2.heap.size < w7.heap.size := by omega
      have z7_3 : w3.heap.size < w7.heap.size := by omega
      have z7_4 : w4.heap.size < w7.heap.size := by omega
      have z7_5 : w5.heap.size < w7.heap.size := by omega
      go_wp2_with fail
    all_goals (go_ret; exact ⟨rfl, (by repeat (first | with_reducible exact New.refl _ | with_reducible assumption | with_reducible refine New.drew ?_ | with_reducible refine New.drewN ?_ _ | with_reducible refine New.alloc ?_ _ | with_reducible refine New.setCell ?_ (by first | (simp; done) | (simp; omega) | omega) _ | with_reducible refine New.trans ?_ (by with_reducible assumption)))⟩)
namespace fnTurns
theorem own : ownKnob Try.prog.godebug = none := by kernel_rfl
theorem reads : (Try.f9.params.toList.all fun t => Try.prog.readableRec t && decide (t < Try.prog.types.size)) = true := by kernel_rfl
set_option maxRecDepth 100000 in
theorem lifted (os : Os) (started : os.Started) (H : Type) (enc : TypeId × Value → H) :
    ReturnsInHanded {} Try.checked os 9 .any (Rows.fnTurnsSpec.pre6 enc Try.prog Try.f9 Rows.fnTurnsRow.domain false) (Rows.fnTurnsSpec.post enc Try.prog Try.f9 false true false false) := by
  refine returnsInHanded_of_change (C := Try.checked) own started (by kernel_rfl) Try.func9
    (ChangeSpec.witness6 (enc := enc) (C := Try.checked) false ⟨#[], #[.slice none 0 0], []⟩ 8 (by kernel_rfl) (by kernel_rfl) (by kernel_rfl) (by kernel_rfl)) ?_
  intro W base args ds gs before hval0 hW hcnd _
  have hval : ∀ (j : Nat) t v, Try.f9.params[j]? = some t → args[j]? = some v → Value.okWide Try.prog W .any base t v := hval0
  have hW' := hW
  obtain ⟨p, q, hA0, hV, rfl, hfz, hnd⟩ := hW
  have hA : DataW.TrodAll enc Try.prog W 0 (fun _ => true) true Try.f9.params.toList args.toList ds p := hA0
  rw [Try.params9] at hA hval
  obtain ⟨v0, vs0, d0, ds0, p0, q0, hargs, rfl, rfl, h0, r0⟩ := trodAll_cons hA
  obtain ⟨rfl, rfl, rfl⟩ := trodAll_nil r0
  obtain rfl : args = #[v0] := by cases args; simp_all
  have o0 := hval 0 56 v0 rfl rfl
  clear hA0 hval hval0
  obtain ⟨rfl, rfl⟩ := trodVars_none hV
  have walk : Calls Try.prog 9 #[v0] W fun e w' => e = .returned (.bool true) ∧ New W w' := by
    obtain ⟨bs, hbs, hbb⟩ := openCode h0 o0
    exact fnTurns_any _ bs W hbs hbb
  refine walk.mono fun e W' ⟨he, hg⟩ => ?_
  subst he
  exact ⟨_, rfl, law_post laidOut (fun t ht => reads_of reads t ht) (fun n hn => by cases hn) rfl Try.underlying4 hW' rfl hg⟩
theorem proved : Rows.FnTurnsSaid :=
  OpenClaim.holds_of_wide 9 Try.f9 rfl rfl rfl rfl rfl rfl rfl ⟨rfl, rfl, rfl, rfl, rfl⟩ rfl rfl rfl rfl rfl (by kernel_rfl) Try.func9 (by kernel_rfl)
    (of_decide_eq_true (by kernel_rfl)) (by unfold Func.isWrapper; first | (rw [if_pos (by decide +kernel)]; kernel_rfl) | (rw [if_neg (by decide +kernel)]; exact ⟨rfl, rfl⟩))
    (fun os started H enc _ => lifted os started H enc)
#print axioms proved
end fnTurns
end Go.Proofs.Ytdhmngmclbaieaa
