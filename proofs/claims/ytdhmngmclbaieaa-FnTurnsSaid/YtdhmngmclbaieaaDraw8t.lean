/- Contracts: the draw of turning back. -/
import Derived.Test.YtdhmngmclbaieaaProg
import Derived.Test.YtdhmngmclbaieaaDraw8
namespace Go.Proofs.Ytdhmngmclbaieaa
open Go Go.Proofs Go.RowKit
set_option linter.unusedVariables false
set_option linter.unusedSimpArgs false
set_option maxRecDepth 100000
def DrawTD (w : World) (e : Ending) (w' : World) : Prop := ∃ k len rise rl rh fl fh lo hi : Int, e = .returned (.tuple #[.agg #[.int .i64 k, .int .i64 len, .int .i64 rise, .int .i64 rl, .int .i64 rh, .int .i64 fl, .int .i64 fh], .agg #[.int .i64 lo, .int .i64 hi]]) ∧ New w w'
theorem ret_td {P : Program} {fn : Func} {w0 w : World} {a : Act} {k len rise rl rh fl fh lo hi : Int} (hd : a.defers = []) (hR : New w0 w) (hr : (results fn a.tmps).run P w = .ok (.tuple #[.agg #[.int .i64 k, .int .i64 len, .int .i64 rise, .int .i64 rl, .int .i64 rh, .int .i64 fl, .int .i64 fh], .agg #[.int .i64 lo, .int .i64 hi]]) w) : bodyPost P fn (DrawTD w0) .ret a w := ⟨hd, _, hr, k, len, rise, rl, rh, fl, fh, lo, hi, rfl, hR⟩
set_option maxHeartbeats 16000000 in
theorem drawTurnDistance_any (v : Value) (bs : List Int) (w : World) (hv : Rd w v bs.length (bs.map (Value.int .u8))) (hl : bs.length ≤ 4096) (hb : ∀ c ∈ bs, 0 ≤ c ∧ c ≤ 255) :
    Calls Try.prog 37 #[v] w (DrawTD w) := by
  have HV := Lib.hid hv
  have HB := Lib.hid hb
  clear hv hb
  have hf1 := @field_iv1
  go_enter Try.func37, Try.ntmps37
  go_wp2_with fail
  refine (l01From_any w.heap.size v bs _ (rdB_new HV.out (by repeat (first | with_reducible exact New.refl _ | with_reducible assumption | with_reducible refine New.drew ?_ | with_reducible refine New.drewN ?_ _ | with_reducible refine New.alloc ?_ _ | with_reducible refine New.setCell ?_ (by first | (simp; done) | (simp; omega) | omega) _ | with_reducible refine New.trans ?_ (by with_reducible assumption)))) (by first | (simp; done) | (simp; omega)) hl HB.out).mono ?_
  rintro e w1 ⟨S, rfl, hS0, n1, hs⟩
  have b1 := Dr.of_new (S := S) n1; have hS := hs.lt; replace hs := Lib.hid hs; simp only [World.size_alloc] at hS0
  have z1 := b1.size
  try simp only [World.size_alloc, World.size_drew, World.heap_drewN, World.size_setCell] at z1
  have z1_0 : w.heap.size < w1.heap.size := by omega
  apply Blk.use (w := w1) (b := w.heap.size)
  · repeat (first | with_reducible assumption | with_reducible exact Blk.alloc_at (by first | rfl | (simp; done) | (simp; omega)) | with_reducible apply Blk.alloc | with_reducible apply Blk.drew | with_reducible apply Blk.drewN | with_reducible apply Blk.set | ((with_reducible apply Blk.set_ne); rotate_left; (focus omega)) | ((with_reducible apply Blk.dr); rotate_left; (focus (with_reducible assumption)); (focus omega)) | ((with_reducible apply Blk.new); rotate_left; (focus (with_reducible assumption))))
  intro K1_0
  try simp only [List.setIfInBounds_toArray, List.set_cons_succ, List.set_cons_zero] at K1_0
  obtain ⟨c1_0, f1_0⟩ := K1_0.rules
  have z1_1 : w.heap.size + 1 < w1.heap.size := by omega
  apply Blk.use (w := w1) (b := w.heap.size + 1)
  · repeat (first | with_reducible assumption | with_reducible exact Blk.alloc_at (by first | rfl | (simp; done) | (simp; omega)) | with_reducible apply Blk.alloc | with_reducible apply Blk.drew | with_reducible apply Blk.drewN | with_reducible apply Blk.set | ((with_reducible apply Blk.set_ne); rotate_left; (focus omega)) | ((with_reducible apply Blk.dr); rotate_left; (focus (with_reducible assumption)); (focus omega)) | ((with_reducible apply Blk.new); rotate_left; (focus (with_reducible assumption))))
  intro K1_1
  try simp only [List.setIfInBounds_toArray, List.set_cons_succ, List.set_cons_zero] at K1_1
  obtain ⟨c1_1, f1_1⟩ := K1_1.rules
  have y1 : S < w1.heap.size := by omega
  go_wp2_with fail
  refine (l03DrawAny_any S _ (Dr.src ?hs1 hs.out)).mono ?_
  case hs1 => exact (by repeat (first | with_reducible refine Dr.setCell ?_ (by first | (simp; done) | (simp; omega) | omega) _ | with_reducible refine Dr.alloc ?_ _ | with_reducible exact Dr.refl _ _ | with_reducible assumption | with_reducible refine Dr.trans ?_ (by with_reducible assumption) | with_reducible refine Dr.trans ?_ (Dr.of_new (by with_reducible assumption)) | with_reducible refine Dr.drewN ?_ _ | with_reducible refine Dr.drew ?_))
  rintro e w2 ⟨k, len, rise, rl, rh, fl, fh, rfl, b2⟩
  have z2 := b2.size
  try simp only [World.size_alloc, World.size_drew, World.heap_drewN, World.size_setCell] at z2
  have z2_0 : w.heap.size < w2.heap.size := by omega
  apply Blk.use (w := w2) (b := w.heap.size)
  · repeat (first | with_reducible assumption | with_reducible exact Blk.alloc_at (by first | rfl | (simp; done) | (simp; omega)) | with_reducible apply Blk.alloc | with_reducible apply Blk.drew | with_reducible apply Blk.drewN | with_reducible apply Blk.set | ((with_reducible apply Blk.set_ne); rotate_left; (focus omega)) | ((with_reducible apply Blk.dr); rotate_left; (focus (with_reducible assumption)); (focus omega)) | ((with_reducible apply Blk.new); rotate_left; (focus (with_reducible assumption))))
  intro K2_0
  try simp only [List.setIfInBounds_toArray, List.set_cons_succ, List.set_cons_zero] at K2_0
  obtain ⟨c2_0, f2_0⟩ := K2_0.rules
  have z2_1 : w.heap.size + 1 < w2.heap.size := by omega
  apply Blk.use (w := w2) (b := w.heap.size + 1)
  · repeat (first | with_reducible assumption | with_reducible exact Blk.alloc_at (by first | rfl | (simp; done) | (simp; omega)) | with_reducible apply Blk.alloc | with_reducible apply Blk.drew | with_reducible apply Blk.drewN | with_reducible apply Blk.set | ((with_reducible apply Blk.set_ne); rotate_left; (focus omega)) | ((with_reducible apply Blk.dr); rotate_left; (focus (with_reducible assumption)); (focus omega)) | ((with_reducible apply Blk.new); rotate_left; (focus (with_reducible assumption))))
  intro K2_1
  try simp only [List.setIfInBounds_toArray, List.set_cons_succ, List.set_cons_zero] at K2_1
  obtain ⟨c2_1, f2_1⟩ := K2_1.rules
  try clear c1_0 f1_0 K1_0
  try clear c1_1 f1_1 K1_1
  try clear c1_2 f1_2 K1_2
  try clear c1_3 f1_3 K1_3
  try clear c1_4 f1_4 K1_4
  try clear c1_5 f1_5 K1_5
  have y2 : S < w2.heap.size := by omega
  go_wp2_with fail
  refine (l01Next_n S _ _ (Dr.src ?hs2 hs.out)).mono ?_
  case hs2 => exact (by repeat (first | with_reducible refine Dr.setCell ?_ (by first | (simp; done) | (simp; omega) | omega) _ | with_reducible refine Dr.alloc ?_ _ | with_reducible exact Dr.refl _ _ | with_reducible assumption | with_reducible refine Dr.trans ?_ (by with_reducible assumption) | with_reducible refine Dr.trans ?_ (Dr.of_new (by with_reducible assumption)) | with_reducible refine Dr.drewN ?_ _ | with_reducible refine Dr.drew ?_))
  rintro e w3 ⟨r3, rfl, b3⟩
  have z3 := b3.size
  try simp only [World.size_alloc, World.size_drew, World.heap_drewN, World.size_setCell] at z3
  have z3_0 : w.heap.size < w3.heap.size := by omega
  apply Blk.use (w := w3) (b := w.heap.size)
  · repeat (first | with_reducible assumption | with_reducible exact Blk.alloc_at (by first | rfl | (simp; done) | (simp; omega)) | with_reducible apply Blk.alloc | with_reducible apply Blk.drew | with_reducible apply Blk.drewN | with_reducible apply Blk.set | ((with_reducible apply Blk.set_ne); rotate_left; (focus omega)) | ((with_reducible apply Blk.dr); rotate_left; (focus (with_reducible assumption)); (focus omega)) | ((with_reducible apply Blk.new); rotate_left; (focus (with_reducible assumption))))
  intro K3_0
  try simp only [List.setIfInBounds_toArray, List.set_cons_succ, List.set_cons_zero] at K3_0
  obtain ⟨c3_0, f3_0⟩ := K3_0.rules
  have z3_1 : w.heap.size + 1 < w3.heap.size := by omega
  apply Blk.use (w := w3) (b := w.heap.size + 1)
  · repeat (first | with_reducible assumption | with_reducible exact Blk.alloc_at (by first | rfl | (simp; done) | (simp; omega)) | with_reducible apply Blk.alloc | with_reducible apply Blk.drew | with_reducible apply Blk.drewN | with_reducible apply Blk.set | ((with_reducible apply Blk.set_ne); rotate_left; (focus omega)) | ((with_reducible apply Blk.dr); rotate_left; (focus (with_reducible assumption)); (focus omega)) | ((with_reducible apply Blk.new); rotate_left; (focus (with_reducible assumption))))
  intro K3_1
  try simp only [List.setIfInBounds_toArray, List.set_cons_succ, List.set_cons_zero] at K3_1
  obtain ⟨c3_1, f3_1⟩ := K3_1.rules
  have z3_2 : w2.heap.size < w3.heap.size := by omega
  apply Blk.use (w := w3) (b := w2.heap.size)
  · repeat (first | with_reducible assumption | with_reducible exact Blk.alloc_at (by first | rfl | (simp; done) | (simp; omega)) | with_reducible apply Blk.alloc | with_reducible apply Blk.drew | with_reducible apply Blk.drewN | with_reducible apply Blk.set | ((with_reducible apply Blk.set_ne); rotate_left; (focus omega)) | ((with_reducible apply Blk.dr); rotate_left; (focus (with_reducible assumption)); (focus omega)) | ((with_reducible apply Blk.new); rotate_left; (focus (with_reducible assumption))))
  intro K3_2
  try simp only [List.setIfInBounds_toArray, List.set_cons_succ, List.set_cons_zero] at K3_2
  obtain ⟨c3_2, f3_2⟩ := K3_2.rules
  try clear c2_0 f2_0 K2_0
  try clear c2_1 f2_1 K2_1
  try clear c2_2 f2_2 K2_2
  try clear c2_3 f2_3 K2_3
  try clear c2_4 f2_4 K2_4
  try clear c2_5 f2_5 K2_5
  try clear c1_0 f1_0 K1_0
  try clear c1_1 f1_1 K1_1
  try clear c1_2 f1_2 K1_2
  try clear c1_3 f1_3 K1_3
  try clear c1_4 f1_4 K1_4
  try clear c1_5 f1_5 K1_5
  have y3 : S < w3.heap.size := by omega
  go_wp2_with fail
  · skip
    refine (l06Draw_any S _ (Dr.src ?hs3 hs.out)).mono ?_
    case hs3 => exact (by repeat (first | with_reducible refine Dr.setCell ?_ (by first | (simp; done) | (simp; omega) | omega) _ | with_reducible refine Dr.alloc ?_ _ | with_reducible exact Dr.refl _ _ | with_reducible assumption | with_reducible refine Dr.trans ?_ (by with_reducible assumption) | with_reducible refine Dr.trans ?_ (Dr.of_new (by with_reducible assumption)) | with_reducible refine Dr.drewN ?_ _ | with_reducible refine Dr.drew ?_))
    rintro e w4 ⟨lo, hi, rfl, b4⟩
    have z4 := b4.size
    try simp only [World.size_alloc, World.size_drew, World.heap_drewN, World.size_setCell] at z4
    have z4_0 : w.heap.size < w4.heap.size := by omega
    apply Blk.use (w := w4) (b := w.heap.size)
    · repeat (first | with_reducible assumption | with_reducible exact Blk.alloc_at (by first | rfl | (simp; done) | (simp; omega)) | with_reducible apply Blk.alloc | with_reducible apply Blk.drew | with_reducible apply Blk.drewN | with_reducible apply Blk.set | ((with_reducible apply Blk.set_ne); rotate_left; (focus omega)) | ((with_reducible apply Blk.dr); rotate_left; (focus (with_reducible assumption)); (focus omega)) | ((with_reducible apply Blk.new); rotate_left; (focus (with_reducible assumption))))
    intro K4_0
    try simp only [List.setIfInBounds_toArray, List.set_cons_succ, List.set_cons_zero] at K4_0
    obtain ⟨c4_0, f4_0⟩ := K4_0.rules
    have z4_1 : w.heap.size + 1 < w4.heap.size := by omega
    apply Blk.use (w := w4) (b := w.heap.size + 1)
    · repeat (first | with_reducible assumption | with_reducible exact Blk.alloc_at (by first | rfl | (simp; done) | (simp; omega)) | with_reducible apply Blk.alloc | with_reducible apply Blk.drew | with_reducible apply Blk.drewN | with_reducible apply Blk.set | ((with_reducible apply Blk.set_ne); rotate_left; (focus omega)) | ((with_reducible apply Blk.dr); rotate_left; (focus (with_reducible assumption)); (focus omega)) | ((with_reducible apply Blk.new); rotate_left; (focus (with_reducible assumption))))
    intro K4_1
    try simp only [List.setIfInBounds_toArray, List.set_cons_succ, List.set_cons_zero] at K4_1
    obtain ⟨c4_1, f4_1⟩ := K4_1.rules
    have z4_2 : w2.heap.size < w4.heap.size := by omega
    apply Blk.use (w := w4) (b := w2.heap.size)
    · repeat (first | with_reducible assumption | with_reducible exact Blk.alloc_at (by first | rfl | (simp; done) | (simp; omega)) | with_reducible apply Blk.alloc | with_reducible apply Blk.drew | with_reducible apply Blk.drewN | with_reducible apply Blk.set | ((with_reducible apply Blk.set_ne); rotate_left; (focus omega)) | ((with_reducible apply Blk.dr); rotate_left; (focus (with_reducible assumption)); (focus omega)) | ((with_reducible apply Blk.new); rotate_left; (focus (with_reducible assumption))))
    intro K4_2
    try simp only [List.setIfInBounds_toArray, List.set_cons_succ, List.set_cons_zero] at K4_2
    obtain ⟨c4_2, f4_2⟩ := K4_2.rules
    try clear c3_0 f3_0 K3_0
    try clear c3_1 f3_1 K3_1
    try clear c3_2 f3_2 K3_2
    try clear c3_3 f3_3 K3_3
    try clear c3_4 f3_4 K3_4
    try clear c3_5 f3_5 K3_5
    try clear c2_0 f2_0 K2_0
    try clear c2_1 f2_1 K2_1
    try clear c2_2 f2_2 K2_2
    try clear c2_3 f2_3 K2_3
    try clear c2_4 f2_4 K2_4
    try clear c2_5 f2_5 K2_5
    try clear c1_0 f1_0 K1_0
    try clear c1_1 f1_1 K1_1
    try clear c1_2 f1_2 K1_2
    try clear c1_3 f1_3 K1_3
    try clear c1_4 f1_4 K1_4
    try clear c1_5 f1_5 K1_5
    have y4 : S < w4.heap.size := by omega
    go_wp2_with fail
    refine (sIsSegment_any _ _ _ _ _ _ _ _).mono ?_
    rintro e w5 ⟨rfl, n5⟩
    have b5 := Dr.of_new (S := S) n5
    have z5 := b5.size
    try simp only [World.size_alloc, World.size_drew, World.heap_drewN, World.size_setCell] at z5
    have z5_0 : w.heap.size < w5.heap.size := by omega
    apply Blk.use (w := w5) (b := w.heap.size)
    · repeat (first | with_reducible assumption | with_reducible exact Blk.alloc_at (by first | rfl | (simp; done) | (simp; omega)) | with_reducible apply Blk.alloc | with_reducible apply Blk.drew | with_reducible apply Blk.drewN | with_reducible apply Blk.set | ((with_reducible apply Blk.set_ne); rotate_left; (focus omega)) | ((with_reducible apply Blk.dr); rotate_left; (focus (with_reducible assumption)); (focus omega)) | ((with_reducible apply Blk.new); rotate_left; (focus (with_reducible assumption))))
    intro K5_0
    try simp only [List.setIfInBounds_toArray, List.set_cons_succ, List.set_cons_zero] at K5_0
    obtain ⟨c5_0, f5_0⟩ := K5_0.rules
    have z5_1 : w.heap.size + 1 < w5.heap.size := by omega
    apply Blk.use (w := w5) (b := w.heap.size + 1)
    · repeat (first | with_reducible assumption | with_reducible exact Blk.alloc_at (by first | rfl | (simp; done) | (simp; omega)) | with_reducible apply Blk.alloc | with_reducible apply Blk.drew | with_reducible apply Blk.drewN | with_reducible apply Blk.set | ((with_reducible apply Blk.set_ne); rotate_left; (focus omega)) | ((with_reducible apply Blk.dr); rotate_left; (focus (with_reducible assumption)); (focus omega)) | ((with_reducible apply Blk.new); rotate_left; (focus (with_reducible assumption))))
    intro K5_1
    try simp only [List.setIfInBounds_toArray, List.set_cons_succ, List.set_cons_zero] at K5_1
    obtain ⟨c5_1, f5_1⟩ := K5_1.rules
    have z5_2 : w2.heap.size < w5.heap.size := by omega
    apply Blk.use (w := w5) (b := w2.heap.size)
    · repeat (first | with_reducible assumption | with_reducible exact Blk.alloc_at (by first | rfl | (simp; done) | (simp; omega)) | with_reducible apply Blk.alloc | with_reducible apply Blk.drew | with_reducible apply Blk.drewN | with_reducible apply Blk.set | ((with_reducible apply Blk.set_ne); rotate_left; (focus omega)) | ((with_reducible apply Blk.dr); rotate_left; (focus (with_reducible assumption)); (focus omega)) | ((with_reducible apply Blk.new); rotate_left; (focus (with_reducible assumption))))
    intro K5_2
    try simp only [List.setIfInBounds_toArray, List.set_cons_succ, List.set_cons_zero] at K5_2
    obtain ⟨c5_2, f5_2⟩ := K5_2.rules
    have z5_3 : w4.heap.size < w5.heap.size := by omega
    apply Blk.use (w := w5) (b := w4.heap.size)
    · repeat (first | with_reducible assumption | with_reducible exact Blk.alloc_at (by first | rfl | (simp; done) | (simp; omega)) | with_reducible apply Blk.alloc | with_reducible apply Blk.drew | with_reducible apply Blk.drewN | with_reducible apply Blk.set | ((with_reducible apply Blk.set_ne); rotate_left; (focus omega)) | ((with_reducible apply Blk.dr); rotate_left; (focus (with_reducible assumption)); (focus omega)) | ((with_reducible apply Blk.new); rotate_left; (focus (with_reducible assumption))))
    intro K5_3
    try simp only [List.setIfInBounds_toArray, List.set_cons_succ, List.set_cons_zero] at K5_3
    obtain ⟨c5_3, f5_3⟩ := K5_3.rules
    try clear c4_0 f4_0 K4_0
    try clear c4_1 f4_1 K4_1
    try clear c4_2 f4_2 K4_2
    try clear c4_3 f4_3 K4_3
    try clear c4_4 f4_4 K4_4
    try clear c4_5 f4_5 K4_5
    try clear c3_0 f3_0 K3_0
    try clear c3_1 f3_1 K3_1
    try clear c3_2 f3_2 K3_2
    try clear c3_3 f3_3 K3_3
    try clear c3_4 f3_4 K3_4
    try clear c3_5 f3_5 K3_5
    try clear c2_0 f2_0 K2_0
    try clear c2_1 f2_1 K2_1
    try clear c2_2 f2_2 K2_2
    try clear c2_3 f2_3 K2_3
    try clear c2_4 f2_4 K2_4
    try clear c2_5 f2_5 K2_5
    have y5 : S < w5.heap.size := by omega
    go_wp2_with fail
    · skip
      refine (l01Next_n S _ _ (Dr.src ?hs4 hs.out)).mono ?_
      case hs4 => exact (by repeat (first | with_reducible refine Dr.setCell ?_ (by first | (simp; done) | (simp; omega) | omega) _ | with_reducible refine Dr.alloc ?_ _ | with_reducible exact Dr.refl _ _ | with_reducible assumption | with_reducible refine Dr.trans ?_ (by with_reducible assumption) | with_reducible refine Dr.trans ?_ (Dr.of_new (by with_reducible assumption)) | with_reducible refine Dr.drewN ?_ _ | with_reducible refine Dr.drew ?_))
      rintro e w6 ⟨r6, rfl, b6⟩
      have z6 := b6.size
      try simp only [World.size_alloc, World.size_drew, World.heap_drewN, World.size_setCell] at z6
      have z6_0 : w.heap.size < w6.heap.size := by omega
      apply Blk.use (w := w6) (b := w.heap.size)
      · repeat (first | with_reducible assumption | with_reducible exact Blk.alloc_at (by first | rfl | (simp; done) | (simp; omega)) | with_reducible apply Blk.alloc | with_reducible apply Blk.drew | with_reducible apply Blk.drewN | with_reducible apply Blk.set | ((with_reducible apply Blk.set_ne); rotate_left; (focus omega)) | ((with_reducible apply Blk.dr); rotate_left; (focus (with_reducible assumption)); (focus omega)) | ((with_reducible apply Blk.new); rotate_left; (focus (with_reducible assumption))))
      intro K6_0
      try simp only [List.setIfInBounds_toArray, List.set_cons_succ, List.set_cons_zero] at K6_0
      obtain ⟨c6_0, f6_0⟩ := K6_0.rules
      have z6_1 : w.heap.size + 1 < w6.heap.size := by omega
      apply Blk.use (w := w6) (b := w.heap.size + 1)
      · repeat (first | with_reducible assumption | with_reducible exact Blk.alloc_at (by first | rfl | (simp; done) | (simp; omega)) | with_reducible apply Blk.alloc | with_reducible apply Blk.drew | with_reducible apply Blk.drewN | with_reducible apply Blk.set | ((with_reducible apply Blk.set_ne); rotate_left; (focus omega)) | ((with_reducible apply Blk.dr); rotate_left; (focus (with_reducible assumption)); (focus omega)) | ((with_reducible apply Blk.new); rotate_left; (focus (with_reducible assumption))))
      intro K6_1
      try simp only [List.setIfInBounds_toArray, List.set_cons_succ, List.set_cons_zero] at K6_1
      obtain ⟨c6_1, f6_1⟩ := K6_1.rules
      have z6_2 : w2.heap.size < w6.heap.size := by omega
      apply Blk.use (w := w6) (b := w2.heap.size)
      · repeat (first | with_reducible assumption | with_reducible exact Blk.alloc_at (by first | rfl | (simp; done) | (simp; omega)) | with_reducible apply Blk.alloc | with_reducible apply Blk.drew | with_reducible apply Blk.drewN | with_reducible apply Blk.set | ((with_reducible apply Blk.set_ne); rotate_left; (focus omega)) | ((with_reducible apply Blk.dr); rotate_left; (focus (with_reducible assumption)); (focus omega)) | ((with_reducible apply Blk.new); rotate_left; (focus (with_reducible assumption))))
      intro K6_2
      try simp only [List.setIfInBounds_toArray, List.set_cons_succ, List.set_cons_zero] at K6_2
      obtain ⟨c6_2, f6_2⟩ := K6_2.rules
      have z6_3 : w4.heap.size < w6.heap.size := by omega
      apply Blk.use (w := w6) (b := w4.heap.size)
      · repeat (first | with_reducible assumption | with_reducible exact Blk.alloc_at (by first | rfl | (simp; done) | (simp; omega)) | with_reducible apply Blk.alloc | with_reducible apply Blk.drew | with_reducible apply Blk.drewN | with_reducible apply Blk.set | ((with_reducible apply Blk.set_ne); rotate_left; (focus omega)) | ((with_reducible apply Blk.dr); rotate_left; (focus (with_reducible assumption)); (focus omega)) | ((with_reducible apply Blk.new); rotate_left; (focus (with_reducible assumption))))
      intro K6_3
      try simp only [List.setIfInBounds_toArray, List.set_cons_succ, List.set_cons_zero] at K6_3
      obtain ⟨c6_3, f6_3⟩ := K6_3.rules
      try clear c5_0 f5_0 K5_0
      try clear c5_1 f5_1 K5_1
      try clear c5_2 f5_2 K5_2
      try clear c5_3 f5_3 K5_3
      try clear c5_4 f5_4 K5_4
      try clear c5_5 f5_5 K5_5
      try clear c4_0 f4_0 K4_0
      try clear c4_1 f4_1 K4_1
      try clear c4_2 f4_2 K4_2
      try clear c4_3 f4_3 K4_3
      try clear c4_4 f4_4 K4_4
      try clear c4_5 f4_5 K4_5
      try clear c3_0 f3_0 K3_0
      try clear c3_1 f3_1 K3_1
      try clear c3_2 f3_2 K3_2
      try clear c3_3 f3_3 K3_3
      try clear c3_4 f3_4 K3_4
      try clear c3_5 f3_5 K3_5
      have y6 : S < w6.heap.size := by omega
      go_wp2_with fail
      · skip
        refine (l06ChangeW_any _ _ _ _ _ _ _ _).mono ?_
        rintro e w7 ⟨x7, y7, rfl, n7⟩
        have b7 := Dr.of_new (S := S) n7
        have z7 := b7.size
        try simp only [World.size_alloc, World.size_drew, World.heap_drewN, World.size_setCell] at z7
        have z7_0 : w.heap.size < w7.heap.size := by omega
        apply Blk.use (w := w7) (b := w.heap.size)
        · repeat (first | with_reducible assumption | with_reducible exact Blk.alloc_at (by first | rfl | (simp; done) | (simp; omega)) | with_reducible apply Blk.alloc | with_reducible apply Blk.drew | with_reducible apply Blk.drewN | with_reducible apply Blk.set | ((with_reducible apply Blk.set_ne); rotate_left; (focus omega)) | ((with_reducible apply Blk.dr); rotate_left; (focus (with_reducible assumption)); (focus omega)) | ((with_reducible apply Blk.new); rotate_left; (focus (with_reducible assumption))))
        intro K7_0
        try simp only [List.setIfInBounds_toArray, List.set_cons_succ, List.set_cons_zero] at K7_0
        obtain ⟨c7_0, f7_0⟩ := K7_0.rules
        have z7_1 : w.heap.size + 1 < w7.heap.size := by omega
        apply Blk.use (w := w7) (b := w.heap.size + 1)
        · repeat (first | with_reducible assumption | with_reducible exact Blk.alloc_at (by first | rfl | (simp; done) | (simp; omega)) | with_reducible apply Blk.alloc | with_reducible apply Blk.drew | with_reducible apply Blk.drewN | with_reducible apply Blk.set | ((with_reducible apply Blk.set_ne); rotate_left; (focus omega)) | ((with_reducible apply Blk.dr); rotate_left; (focus (with_reducible assumption)); (focus omega)) | ((with_reducible apply Blk.new); rotate_left; (focus (with_reducible assumption))))
        intro K7_1
        try simp only [List.setIfInBounds_toArray, List.set_cons_succ, List.set_cons_zero] at K7_1
        obtain ⟨c7_1, f7_1⟩ := K7_1.rules
        have z7_2 : w2.heap.size < w7.heap.size := by omega
        apply Blk.use (w := w7) (b := w2.heap.size)
        · repeat (first | with_reducible assumption | with_reducible exact Blk.alloc_at (by first | rfl | (simp; done) | (simp; omega)) | with_reducible apply Blk.alloc | with_reducible apply Blk.drew | with_reducible apply Blk.drewN | with_reducible apply Blk.set | ((with_reducible apply Blk.set_ne); rotate_left; (focus omega)) | ((with_reducible apply Blk.dr); rotate_left; (focus (with_reducible assumption)); (focus omega)) | ((with_reducible apply Blk.new); rotate_left; (focus (with_reducible assumption))))
        intro K7_2
        try simp only [List.setIfInBounds_toArray, List.set_cons_succ, List.set_cons_zero] at K7_2
        obtain ⟨c7_2, f7_2⟩ := K7_2.rules
        have z7_3 : w4.heap.size < w7.heap.size := by omega
        apply Blk.use (w := w7) (b := w4.heap.size)
        · repeat (first | with_reducible assumption | with_reducible exact Blk.alloc_at (by first | rfl | (simp; done) | (simp; omega)) | with_reducible apply Blk.alloc | with_reducible apply Blk.drew | with_reducible apply Blk.drewN | with_reducible apply Blk.set | ((with_reducible apply Blk.set_ne); rotate_left; (focus omega)) | ((with_reducible apply Blk.dr); rotate_left; (focus (with_reducible assumption)); (focus omega)) | ((with_reducible apply Blk.new); rotate_left; (focus (with_reducible assumption))))
        intro K7_3
        try simp only [List.setIfInBounds_toArray, List.set_cons_succ, List.set_cons_zero] at K7_3
        obtain ⟨c7_3, f7_3⟩ := K7_3.rules
        try clear c6_0 f6_0 K6_0
        try clear c6_1 f6_1 K6_1
        try clear c6_2 f6_2 K6_2
        try clear c6_3 f6_3 K6_3
        try clear c6_4 f6_4 K6_4
        try clear c6_5 f6_5 K6_5
        try clear c5_0 f5_0 K5_0
        try clear c5_1 f5_1 K5_1
        try clear c5_2 f5_2 K5_2
        try clear c5_3 f5_3 K5_3
        try clear c5_4 f5_4 K5_4
        try clear c5_5 f5_5 K5_5
        try clear c4_0 f4_0 K4_0
        try clear c4_1 f4_1 K4_1
        try clear c4_2 f4_2 K4_2
        try clear c4_3 f4_3 K4_3
        try clear c4_4 f4_4 K4_4
        try clear c4_5 f4_5 K4_5
        have y7 : S < w7.heap.size := by omega
        go_wp2_with fail
        all_goals
          refine (l01Next_n S _ _ (Dr.src ?hs5 hs.out)).mono ?_
          case hs5 => exact (by repeat (first | with_reducible refine Dr.setCell ?_ (by first | (simp; done) | (simp; omega) | omega) _ | with_reducible refine Dr.alloc ?_ _ | with_reducible exact Dr.refl _ _ | with_reducible assumption | with_reducible refine Dr.trans ?_ (by with_reducible assumption) | with_reducible refine Dr.trans ?_ (Dr.of_new (by with_reducible assumption)) | with_reducible refine Dr.drewN ?_ _ | with_reducible refine Dr.drew ?_))
          rintro e w8 ⟨r8, rfl, b8⟩
          have z8 := b8.size
          try simp only [World.size_alloc, World.size_drew, World.heap_drewN, World.size_setCell] at z8
          have z8_0 : w.heap.size < w8.heap.size := by omega
          apply Blk.use (w := w8) (b := w.heap.size)
          · repeat (first | with_reducible assumption | with_reducible exact Blk.alloc_at (by first | rfl | (simp; done) | (simp; omega)) | with_reducible apply Blk.alloc | with_reducible apply Blk.drew | with_reducible apply Blk.drewN | with_reducible apply Blk.set | ((with_reducible apply Blk.set_ne); rotate_left; (focus omega)) | ((with_reducible apply Blk.dr); rotate_left; (focus (with_reducible assumption)); (focus omega)) | ((with_reducible apply Blk.new); rotate_left; (focus (with_reducible assumption))))
          intro K8_0
          try simp only [List.setIfInBounds_toArray, List.set_cons_succ, List.set_cons_zero] at K8_0
          obtain ⟨c8_0, f8_0⟩ := K8_0.rules
          have z8_1 : w.heap.size + 1 < w8.heap.size := by omega
          apply Blk.use (w := w8) (b := w.heap.size + 1)
          · repeat (first | with_reducible assumption | with_reducible exact Blk.alloc_at (by first | rfl | (simp; done) | (simp; omega)) | with_reducible apply Blk.alloc | with_reducible apply Blk.drew | with_reducible apply Blk.drewN | with_reducible apply Blk.set | ((with_reducible apply Blk.set_ne); rotate_left; (focus omega)) | ((with_reducible apply Blk.dr); rotate_left; (focus (with_reducible assumption)); (focus omega)) | ((with_reducible apply Blk.new); rotate_left; (focus (with_reducible assumption))))
          intro K8_1
          try simp only [List.setIfInBounds_toArray, List.set_cons_succ, List.set_cons_zero] at K8_1
          obtain ⟨c8_1, f8_1⟩ := K8_1.rules
          have z8_2 : w2.heap.size < w8.heap.size := by omega
          apply Blk.use (w := w8) (b := w2.heap.size)
          · repeat (first | with_reducible assumption | with_reducible exact Blk.alloc_at (by first | rfl | (simp; done) | (simp; omega)) | with_reducible apply Blk.alloc | with_reducible apply Blk.drew | with_reducible apply Blk.drewN | with_reducible apply Blk.set | ((with_reducible apply Blk.set_ne); rotate_left; (focus omega)) | ((with_reducible apply Blk.dr); rotate_left; (focus (with_reducible assumption)); (focus omega)) | ((with_reducible apply Blk.new); rotate_left; (focus (with_reducible assumption))))
          intro K8_2
          try simp only [List.setIfInBounds_toArray, List.set_cons_succ, List.set_cons_zero] at K8_2
          obtain ⟨c8_2, f8_2⟩ := K8_2.rules
          have z8_3 : w4.heap.size < w8.heap.size := by omega
          apply Blk.use (w := w8) (b := w4.heap.size)
          · repeat (first | with_reducible assumption | with_reducible exact Blk.alloc_at (by first | rfl | (simp; done) | (simp; omega)) | with_reducible apply Blk.alloc | with_reducible apply Blk.drew | with_reducible apply Blk.drewN | with_reducible apply Blk.set | ((with_reducible apply Blk.set_ne); rotate_left; (focus omega)) | ((with_reducible apply Blk.dr); rotate_left; (focus (with_reducible assumption)); (focus omega)) | ((with_reducible apply Blk.new); rotate_left; (focus (with_reducible assumption))))
          intro K8_3
          try simp only [List.setIfInBounds_toArray, List.set_cons_succ, List.set_cons_zero] at K8_3
          obtain ⟨c8_3, f8_3⟩ := K8_3.rules
          try clear c7_0 f7_0 K7_0
          try clear c7_1 f7_1 K7_1
          try clear c7_2 f7_2 K7_2
          try clear c7_3 f7_3 K7_3
          try clear c7_4 f7_4 K7_4
          try clear c7_5 f7_5 K7_5
          try clear c6_0 f6_0 K6_0
          try clear c6_1 f6_1 K6_1
          try clear c6_2 f6_2 K6_2
          try clear c6_3 f6_3 K6_3
          try clear c6_4 f6_4 K6_4
          try clear c6_5 f6_5 K6_5
          try clear c5_0 f5_0 K5_0
          try clear c5_1 f5_1 K5_1
          try clear c5_2 f5_2 K5_2
          try clear c5_3 f5_3 K5_3
          try clear c5_4 f5_4 K5_4
          try clear c5_5 f5_5 K5_5
          have y8 : S < w8.heap.size := by omega
          go_wp2_with fail
          refine (l01Next_n S _ _ (Dr.src ?hs6 hs.out)).mono ?_
          case hs6 => exact (by repeat (first | with_reducible refine Dr.setCell ?_ (by first | (simp; done) | (simp; omega) | omega) _ | with_reducible refine Dr.alloc ?_ _ | with_reducible exact Dr.refl _ _ | with_reducible assumption | with_reducible refine Dr.trans ?_ (by with_reducible assumption) | with_reducible refine Dr.trans ?_ (Dr.of_new (by with_reducible assumption)) | with_reducible refine Dr.drewN ?_ _ | with_reducible refine Dr.drew ?_))
          rintro e w9 ⟨r9, rfl, b9⟩
          have z9 := b9.size
          try simp only [World.size_alloc, World.size_drew, World.heap_drewN, World.size_setCell] at z9
          have z9_0 : w.heap.size < w9.heap.size := by omega
          apply Blk.use (w := w9) (b := w.heap.size)
          · repeat (first | with_reducible assumption | with_reducible exact Blk.alloc_at (by first | rfl | (simp; done) | (simp; omega)) | with_reducible apply Blk.alloc | with_reducible apply Blk.drew | with_reducible apply Blk.drewN | with_reducible apply Blk.set | ((with_reducible apply Blk.set_ne); rotate_left; (focus omega)) | ((with_reducible apply Blk.dr); rotate_left; (focus (with_reducible assumption)); (focus omega)) | ((with_reducible apply Blk.new); rotate_left; (focus (with_reducible assumption))))
          intro K9_0
          try simp only [List.setIfInBounds_toArray, List.set_cons_succ, List.set_cons_zero] at K9_0
          obtain ⟨c9_0, f9_0⟩ := K9_0.rules
          have z9_1 : w.heap.size + 1 < w9.heap.size := by omega
          apply Blk.use (w := w9) (b := w.heap.size + 1)
          · repeat (first | with_reducible assumption | with_reducible exact Blk.alloc_at (by first | rfl | (simp; done) | (simp; omega)) | with_reducible apply Blk.alloc | with_reducible apply Blk.drew | with_reducible apply Blk.drewN | with_reducible apply Blk.set | ((with_reducible apply Blk.set_ne); rotate_left; (focus omega)) | ((with_reducible apply Blk.dr); rotate_left; (focus (with_reducible assumption)); (focus omega)) | ((with_reducible apply Blk.new); rotate_left; (focus (with_reducible assumption))))
          intro K9_1
          try simp only [List.setIfInBounds_toArray, List.set_cons_succ, List.set_cons_zero] at K9_1
          obtain ⟨c9_1, f9_1⟩ := K9_1.rules
          have z9_2 : w2.heap.size < w9.heap.size := by omega
          apply Blk.use (w := w9) (b := w2.heap.size)
          · repeat (first | with_reducible assumption | with_reducible exact Blk.alloc_at (by first | rfl | (simp; done) | (simp; omega)) | with_reducible apply Blk.alloc | with_reducible apply Blk.drew | with_reducible apply Blk.drewN | with_reducible apply Blk.set | ((with_reducible apply Blk.set_ne); rotate_left; (focus omega)) | ((with_reducible apply Blk.dr); rotate_left; (focus (with_reducible assumption)); (focus omega)) | ((with_reducible apply Blk.new); rotate_left; (focus (with_reducible assumption))))
          intro K9_2
          try simp only [List.setIfInBounds_toArray, List.set_cons_succ, List.set_cons_zero] at K9_2
          obtain ⟨c9_2, f9_2⟩ := K9_2.rules
          have z9_3 : w4.heap.size < w9.heap.size := by omega
          apply Blk.use (w := w9) (b := w4.heap.size)
          · repeat (first | with_reducible assumption | with_reducible exact Blk.alloc_at (by first | rfl | (simp; done) | (simp; omega)) | with_reducible apply Blk.alloc | with_reducible apply Blk.drew | with_reducible apply Blk.drewN | with_reducible apply Blk.set | ((with_reducible apply Blk.set_ne); rotate_left; (focus omega)) | ((with_reducible apply Blk.dr); rotate_left; (focus (with_reducible assumption)); (focus omega)) | ((with_reducible apply Blk.new); rotate_left; (focus (with_reducible assumption))))
          intro K9_3
          try simp only [List.setIfInBounds_toArray, List.set_cons_succ, List.set_cons_zero] at K9_3
          obtain ⟨c9_3, f9_3⟩ := K9_3.rules
          try clear c8_0 f8_0 K8_0
          try clear c8_1 f8_1 K8_1
          try clear c8_2 f8_2 K8_2
          try clear c8_3 f8_3 K8_3
          try clear c8_4 f8_4 K8_4
          try clear c8_5 f8_5 K8_5
          try clear c7_0 f7_0 K7_0
          try clear c7_1 f7_1 K7_1
          try clear c7_2 f7_2 K7_2
          try clear c7_3 f7_3 K7_3
          try clear c7_4 f7_4 K7_4
          try clear c7_5 f7_5 K7_5
          try clear c6_0 f6_0 K6_0
          try clear c6_1 f6_1 K6_1
          try clear c6_2 f6_2 K6_2
          try clear c6_3 f6_3 K6_3
          try clear c6_4 f6_4 K6_4
          try clear c6_5 f6_5 K6_5
          have y9 : S < w9.heap.size := by omega
          go_wp2_with fail
        all_goals
          have hL9 : LateOK S w9 [(w.heap.size, #[.int .i64 k, .int .i64 len, .int .i64 (wrap64 (-rise)), .int .i64 rl, .int .i64 rh, .int .i64 fl, .int .i64 fh], 46)] := ⟨⟨by omega, by omega⟩, trivial⟩
          have hM9 : ∀ x ∈ ([(w.heap.size, #[.int .i64 k, .int .i64 len, .int .i64 (wrap64 (-rise)), .int .i64 rl, .int .i64 rh, .int .i64 fl, .int .i64 fh], 46)] : Late), x.1 < w9.heap.size := fun x hx => (LateOK.get hL9 x hx).2
          refine RQ.wp_facts (Dq.ord S [(w.heap.size, #[.int .i64 k, .int .i64 len, .int .i64 (wrap64 (-rise)), .int .i64 rl, .int .i64 rh, .int .i64 fl, .int .i64 fh], 46)]) [fun X _ => X = .agg #[.int .i64 k, .int .i64 len, .int .i64 (wrap64 (-rise)), .int .i64 rl, .int .i64 rh, .int .i64 fl, .int .i64 fh], fun X W' => ∃ r : Int, X = .int .i64 r, fun X _ => X = .pointer (some ⟨S, 0, none⟩), fun X W' => ∃ r : Int, X = .int .i64 r, fun X W' => ∃ r : Int, X = .int .i64 r, fun X W' => ∃ r : Int, X = .int .i64 r, fun X W' => ∃ r : Int, X = .int .i64 r, fun X W' => ∃ r : Int, X = .int .i64 r, fun X _ => X = .pointer (some ⟨S, 0, none⟩), fun X W' => ∃ r : Int, X = .int .i64 r, fun X W' => ∃ r : Int, X = .int .i64 r, fun X W' => ∃ r : Int, X = .int .i64 r, fun X W' => ∃ r : Int, X = .int .i64 r, fun X W' => ∃ x y : Int, X = .agg #[.int .i64 x, .int .i64 y], fun X W' => Blk W' (w.heap.size) (#[.int .i64 k, .int .i64 len, .int .i64 (wrap64 (-rise)), .int .i64 rl, .int .i64 rh, .int .i64 fl, .int .i64 fh]) (46)] (by kernel_rfl) (by kernel_rfl) ⟨RQ.stable_eq _, fun X w0 w1 hn ⟨r50, t50⟩ => ⟨r50, t50⟩, RQ.stable_eq _, fun X w0 w1 hn ⟨r52, t52⟩ => ⟨r52, t52⟩, fun X w0 w1 hn ⟨r53, t53⟩ => ⟨r53, t53⟩, fun X w0 w1 hn ⟨r54, t54⟩ => ⟨r54, t54⟩, fun X w0 w1 hn ⟨r55, t55⟩ => ⟨r55, t55⟩, fun X w0 w1 hn ⟨r56, t56⟩ => ⟨r56, t56⟩, RQ.stable_eq _, fun X w0 w1 hn ⟨r58, t58⟩ => ⟨r58, t58⟩, fun X w0 w1 hn ⟨r59, t59⟩ => ⟨r59, t59⟩, fun X w0 w1 hn ⟨r60, t60⟩ => ⟨r60, t60⟩, fun X w0 w1 hn ⟨r61, t61⟩ => ⟨r61, t61⟩, fun X w0 w1 hn ⟨x62, y62, t62⟩ => ⟨x62, y62, t62⟩, fun X w0 w1 hn kb0 => Blk.kept kb0 hn (by simp), trivial⟩ ?_ ?_
          · refine ⟨?_, ?_, ?_, ?_, ?_, ?_, ?_, ?_, ?_, ?_, ?_, ?_, ?_, ?_, ?_, trivial⟩
            · intro a w9 hw ho hk
              refine .inl ⟨by rfl, ?_⟩
              have s5 := ho 5 rfl
              dsimp at s5
              have K9 := Blk.dq K9_2 hw (by omega) ⟨by omega, trivial⟩
              obtain ⟨c9, f9⟩ := K9.rules
              go_simp
              exact Dq.refl _ _ _
            · intro a w9 hw ho hk
              refine .inl ⟨by rfl, ?_⟩
              have s8 := ho 8 rfl
              dsimp at s8
              go_simp
              first | exact ⟨Dq.refl _ _ _, _, rfl, _, rfl⟩ | exact ⟨Dq.refl _ _ _, _, by simp⟩
            · intro a w9 hw ho hk
              refine .inl ⟨by rfl, ?_⟩
              have s4 := ho 4 rfl
              dsimp at s4
              go_simp
              exact Dq.refl _ _ _
            · intro a w9 hw ho hk
              refine .inl ⟨by rfl, ?_⟩
              have s8 := ho 8 rfl
              dsimp at s8
              go_simp
              first | exact ⟨Dq.refl _ _ _, _, rfl, _, rfl⟩ | exact ⟨Dq.refl _ _ _, _, by simp⟩
            · intro a w9 hw ho hk
              refine .inl ⟨by rfl, ?_⟩
              obtain ⟨r52, t52⟩ : ∃ r : Int, (a.tmps[52]?.getD undef) = .int .i64 r := hk 3 52 (by kernel_rfl) rfl
              go_simp
              first | exact ⟨Dq.refl _ _ _, _, rfl, _, rfl⟩ | exact ⟨Dq.refl _ _ _, _, by simp⟩
            · intro a w9 hw ho hk
              refine .inl ⟨by rfl, ?_⟩
              have t51 : a.tmps[51]?.getD undef = .pointer (some ⟨S, 0, none⟩) := hk 2 51 (by kernel_rfl) rfl
              obtain ⟨r53, t53⟩ : ∃ r : Int, (a.tmps[53]?.getD undef) = .int .i64 r := hk 4 53 (by kernel_rfl) rfl
              go_simp
              refine (l01Next_n S _ _ (Dq.src hw (by intro x hx; simp at hx; rcases hx with rfl | rfl <;> first | (simp; done) | (simp; omega) | omega) (Dr.src (by repeat (first | with_reducible refine Dr.setCell ?_ (by first | (simp; done) | (simp; omega) | omega) _ | with_reducible refine Dr.alloc ?_ _ | with_reducible exact Dr.refl _ _ | with_reducible assumption | with_reducible refine Dr.trans ?_ (by with_reducible assumption) | with_reducible refine Dr.trans ?_ (Dr.of_new (by with_reducible assumption)) | with_reducible refine Dr.drewN ?_ _ | with_reducible refine Dr.drew ?_)) hs.out))).mono ?_; rintro e w2 ⟨r, rfl, hb⟩
              first | exact ⟨Dq.of_dr hb (hL9.mono hw.size), _, rfl, _, rfl⟩ | exact ⟨Dq.of_dr hb (hL9.mono hw.size), _, by simp⟩
            · intro a w9 hw ho hk
              refine .inl ⟨by rfl, ?_⟩
              obtain ⟨r50, t50⟩ : ∃ r : Int, (a.tmps[50]?.getD undef) = .int .i64 r := hk 1 50 (by kernel_rfl) rfl
              obtain ⟨r54, t54⟩ : ∃ r : Int, (a.tmps[54]?.getD undef) = .int .i64 r := hk 5 54 (by kernel_rfl) rfl
              go_simp
              first | exact ⟨Dq.refl _ _ _, _, rfl, _, rfl⟩ | exact ⟨Dq.refl _ _ _, _, by simp⟩
            · intro a w9 hw ho hk
              refine .inl ⟨by rfl, ?_⟩
              have s8 := ho 8 rfl
              dsimp at s8
              go_simp
              first | exact ⟨Dq.refl _ _ _, _, rfl, _, rfl⟩ | exact ⟨Dq.refl _ _ _, _, by simp⟩
            · intro a w9 hw ho hk
              refine .inl ⟨by rfl, ?_⟩
              have s4 := ho 4 rfl
              dsimp at s4
              go_simp
              exact Dq.refl _ _ _
            · intro a w9 hw ho hk
              refine .inl ⟨by rfl, ?_⟩
              have t57 : a.tmps[57]?.getD undef = .pointer (some ⟨S, 0, none⟩) := hk 8 57 (by kernel_rfl) rfl
              go_simp
              refine (l01Next_n S _ _ (Dq.src hw (by intro x hx; simp at hx; rcases hx with rfl | rfl <;> first | (simp; done) | (simp; omega) | omega) (Dr.src (by repeat (first | with_reducible refine Dr.setCell ?_ (by first | (simp; done) | (simp; omega) | omega) _ | with_reducible refine Dr.alloc ?_ _ | with_reducible exact Dr.refl _ _ | with_reducible assumption | with_reducible refine Dr.trans ?_ (by with_reducible assumption) | with_reducible refine Dr.trans ?_ (Dr.of_new (by with_reducible assumption)) | with_reducible refine Dr.drewN ?_ _ | with_reducible refine Dr.drew ?_)) hs.out))).mono ?_; rintro e w2 ⟨r, rfl, hb⟩
              first | exact ⟨Dq.of_dr hb (hL9.mono hw.size), _, rfl, _, rfl⟩ | exact ⟨Dq.of_dr hb (hL9.mono hw.size), _, by simp⟩
            · intro a w9 hw ho hk
              refine .inl ⟨by rfl, ?_⟩
              obtain ⟨r58, t58⟩ : ∃ r : Int, (a.tmps[58]?.getD undef) = .int .i64 r := hk 9 58 (by kernel_rfl) rfl
              go_simp
              first | exact ⟨Dq.refl _ _ _, _, rfl, _, rfl⟩ | exact ⟨Dq.refl _ _ _, _, by simp⟩
            · intro a w9 hw ho hk
              refine .inl ⟨by rfl, ?_⟩
              obtain ⟨r56, t56⟩ : ∃ r : Int, (a.tmps[56]?.getD undef) = .int .i64 r := hk 7 56 (by kernel_rfl) rfl
              obtain ⟨r59, t59⟩ : ∃ r : Int, (a.tmps[59]?.getD undef) = .int .i64 r := hk 10 59 (by kernel_rfl) rfl
              go_simp
              first | exact ⟨Dq.refl _ _ _, _, rfl, _, rfl⟩ | exact ⟨Dq.refl _ _ _, _, by simp⟩
            · intro a w9 hw ho hk
              refine .inl ⟨by rfl, ?_⟩
              obtain ⟨r60, t60⟩ : ∃ r : Int, (a.tmps[60]?.getD undef) = .int .i64 r := hk 11 60 (by kernel_rfl) rfl
              go_simp
              first | exact ⟨Dq.refl _ _ _, _, rfl, _, rfl⟩ | exact ⟨Dq.refl _ _ _, _, by simp⟩
            · intro a w9 hw ho hk
              refine .inl ⟨by rfl, ?_⟩
              obtain ⟨r55, t55⟩ : ∃ r : Int, (a.tmps[55]?.getD undef) = .int .i64 r := hk 6 55 (by kernel_rfl) rfl
              obtain ⟨r61, t61⟩ : ∃ r : Int, (a.tmps[61]?.getD undef) = .int .i64 r := hk 12 61 (by kernel_rfl) rfl
              go_simp
              first | exact ⟨Dq.refl _ _ _, _, rfl, _, _, rfl⟩ | exact ⟨Dq.refl _ _ _, _, by simp⟩
            · intro a w9 hw ho hk
              refine .inl ⟨by rfl, ?_⟩
              have s2 := ho 2 rfl
              dsimp at s2
              have t49 : a.tmps[49]?.getD undef = .agg #[.int .i64 k, .int .i64 len, .int .i64 (wrap64 (-rise)), .int .i64 rl, .int .i64 rh, .int .i64 fl, .int .i64 fh] := hk 0 49 (by kernel_rfl) rfl
              rcases Blk.late K9_0 hw (by simp : ((w.heap.size, #[.int .i64 k, .int .i64 len, .int .i64 (wrap64 (-rise)), .int .i64 rl, .int .i64 rh, .int .i64 fl, .int .i64 fh], 46) : Nat × Array Value × TypeId) ∈ ([(w.heap.size, #[.int .i64 k, .int .i64 len, .int .i64 (wrap64 (-rise)), .int .i64 rl, .int .i64 rh, .int .i64 fl, .int .i64 fh], 46)] : Late)) with K9 | K9
              all_goals obtain ⟨c9, f9⟩ := K9.rules
              all_goals go_simp
              all_goals refine Dq.stored2 (b := w.heap.size) (F := #[.int .i64 k, .int .i64 len, .int .i64 (wrap64 (-rise)), .int .i64 rl, .int .i64 rh, .int .i64 fl, .int .i64 fh]) (T := 46) (by repeat (first | with_reducible exact Same1.refl _ _ | with_reducible refine Same1.set ?_ _ _)) ?_ (by simp) (by intro x hx; simp at hx; rcases hx with rfl <;> first | (intro _; rfl) | (intro h; exfalso; simp at h; done) | (intro h; exfalso; simp at h; omega)) (by omega)
              all_goals
                apply blk_cast
                · repeat (first | with_reducible exact K9 | with_reducible apply Blk.set)
                · rfl
          intro w10 b10
          rintro _ rfl
          rintro _ ⟨r50, rfl⟩
          rintro _ rfl
          rintro _ ⟨r52, rfl⟩
          rintro _ ⟨r53, rfl⟩
          rintro _ ⟨r54, rfl⟩
          rintro _ ⟨r55, rfl⟩
          rintro _ ⟨r56, rfl⟩
          rintro _ rfl
          rintro _ ⟨r58, rfl⟩
          rintro _ ⟨r59, rfl⟩
          rintro _ ⟨r60, rfl⟩
          rintro _ ⟨r61, rfl⟩
          rintro _ ⟨x62, y62, rfl⟩
          rintro _ kb0
          obtain ⟨cl0, fl0⟩ := kb0.rules
          have K10_0 := Blk.dq K9_1 b10 (by omega) ⟨by omega, trivial⟩
          obtain ⟨c10_0, f10_0⟩ := K10_0.rules
          simp only [RQ.EndAll, List.nil_append, List.cons_append, List.length_cons, List.length_nil, Nat.zero_add, Nat.reduceAdd, List.take_succ_cons, List.take_zero, List.drop_succ_cons, List.drop_zero, RQ.putAll, Act.put, List.setIfInBounds_toArray, List.set_cons_succ, List.set_cons_zero]
          have n10 : New w w10 := Dq.new (w0 := w) (Dr.new (S := S) (w0 := w) (w := w1) (by repeat (first | with_reducible exact New.refl _ | with_reducible assumption | with_reducible refine New.drew ?_ | with_reducible refine New.drewN ?_ _ | with_reducible refine New.alloc ?_ _ | with_reducible refine New.setCell ?_ (by first | (simp; done) | (simp; omega) | omega) _ | with_reducible refine New.trans ?_ (by with_reducible assumption))) (by repeat (first | with_reducible refine Dr.setCell ?_ (by first | (simp; done) | (simp; omega) | omega) _ | with_reducible refine Dr.alloc ?_ _ | with_reducible exact Dr.refl _ _ | with_reducible assumption | with_reducible refine Dr.trans ?_ (by with_reducible assumption) | with_reducible refine Dr.trans ?_ (Dr.of_new (by with_reducible assumption)) | with_reducible refine Dr.drewN ?_ _ | with_reducible refine Dr.drew ?_)) (by omega)) b10 (by omega) (by intro x hx; simp at hx; subst hx; simp)
          go_wp2_with fail
          apply ret_td rfl (by repeat (first | with_reducible exact New.refl _ | with_reducible assumption | with_reducible refine New.drew ?_ | with_reducible refine New.drewN ?_ _ | with_reducible refine New.alloc ?_ _ | with_reducible refine New.setCell ?_ (by first | (simp; done) | (simp; omega) | omega) _ | with_reducible refine New.trans ?_ (by with_reducible assumption)))
          simp [results, Try.results37, go_sem, cl0, c10_0]
          exact ⟨⟨rfl, rfl, rfl, rfl, rfl, rfl, rfl⟩, rfl, rfl⟩
      · skip
        have hL9 : LateOK S w6 [(w.heap.size, #[.int .i64 k, .int .i64 len, .int .i64 (wrap64 (-rise)), .int .i64 rl, .int .i64 rh, .int .i64 fl, .int .i64 fh], 46), (w.heap.size + 1, #[.int .i64 lo, .int .i64 hi], 42)] := ⟨⟨by omega, by omega⟩, ⟨by omega, by omega⟩, trivial⟩
        have hM9 : ∀ x ∈ ([(w.heap.size, #[.int .i64 k, .int .i64 len, .int .i64 (wrap64 (-rise)), .int .i64 rl, .int .i64 rh, .int .i64 fl, .int .i64 fh], 46), (w.heap.size + 1, #[.int .i64 lo, .int .i64 hi], 42)] : Late), x.1 < w6.heap.size := fun x hx => (LateOK.get hL9 x hx).2
        refine RQ.wp_facts (Dq.ord S [(w.heap.size, #[.int .i64 k, .int .i64 len, .int .i64 (wrap64 (-rise)), .int .i64 rl, .int .i64 rh, .int .i64 fl, .int .i64 fh], 46), (w.heap.size + 1, #[.int .i64 lo, .int .i64 hi], 42)]) [fun X _ => X = .agg #[.int .i64 k, .int .i64 len, .int .i64 (wrap64 (-rise)), .int .i64 rl, .int .i64 rh, .int .i64 fl, .int .i64 fh], fun X _ => X = .agg #[.int .i64 lo, .int .i64 hi], fun X W' => Blk W' (w.heap.size) (#[.int .i64 k, .int .i64 len, .int .i64 (wrap64 (-rise)), .int .i64 rl, .int .i64 rh, .int .i64 fl, .int .i64 fh]) (46), fun X W' => Blk W' (w.heap.size + 1) (#[.int .i64 lo, .int .i64 hi]) (42)] (by kernel_rfl) (by kernel_rfl) ⟨RQ.stable_eq _, RQ.stable_eq _, fun X w0 w1 hn kb0 => Blk.kept kb0 hn (by simp), fun X w0 w1 hn kb1 => Blk.kept kb1 hn (by simp), trivial⟩ ?_ ?_
        · refine ⟨?_, ?_, ?_, ?_, trivial⟩
          · intro a w9 hw ho hk
            refine .inl ⟨by rfl, ?_⟩
            have s5 := ho 5 rfl
            dsimp at s5
            have K9 := Blk.dq K6_2 hw (by omega) ⟨by omega, by omega, trivial⟩
            obtain ⟨c9, f9⟩ := K9.rules
            go_simp
            exact Dq.refl _ _ _
          · intro a w9 hw ho hk
            refine .inl ⟨by rfl, ?_⟩
            have s6 := ho 6 rfl
            dsimp at s6
            have K9 := Blk.dq K6_3 hw (by omega) ⟨by omega, by omega, trivial⟩
            obtain ⟨c9, f9⟩ := K9.rules
            go_simp
            exact Dq.refl _ _ _
          · intro a w9 hw ho hk
            refine .inl ⟨by rfl, ?_⟩
            have s2 := ho 2 rfl
            dsimp at s2
            have t63 : a.tmps[63]?.getD undef = .agg #[.int .i64 k, .int .i64 len, .int .i64 (wrap64 (-rise)), .int .i64 rl, .int .i64 rh, .int .i64 fl, .int .i64 fh] := hk 0 63 (by kernel_rfl) rfl
            rcases Blk.late K6_0 hw (by simp : ((w.heap.size, #[.int .i64 k, .int .i64 len, .int .i64 (wrap64 (-rise)), .int .i64 rl, .int .i64 rh, .int .i64 fl, .int .i64 fh], 46) : Nat × Array Value × TypeId) ∈ ([(w.heap.size, #[.int .i64 k, .int .i64 len, .int .i64 (wrap64 (-rise)), .int .i64 rl, .int .i64 rh, .int .i64 fl, .int .i64 fh], 46), (w.heap.size + 1, #[.int .i64 lo, .int .i64 hi], 42)] : Late)) with K9 | K9
            all_goals obtain ⟨c9, f9⟩ := K9.rules
            all_goals go_simp
            all_goals refine Dq.stored2 (b := w.heap.size) (F := #[.int .i64 k, .int .i64 len, .int .i64 (wrap64 (-rise)), .int .i64 rl, .int .i64 rh, .int .i64 fl, .int .i64 fh]) (T := 46) (by repeat (first | with_reducible exact Same1.refl _ _ | with_reducible refine Same1.set ?_ _ _)) ?_ (by simp) (by intro x hx; simp at hx; rcases hx with rfl | rfl <;> first | (intro _; rfl) | (intro h; exfalso; simp at h; done) | (intro h; exfalso; simp at h; omega)) (by omega)
            all_goals
              apply blk_cast
              · repeat (first | with_reducible exact K9 | with_reducible apply Blk.set)
              · rfl
          · intro a w9 hw ho hk
            refine .inl ⟨by rfl, ?_⟩
            have s3 := ho 3 rfl
            dsimp at s3
            have t64 : a.tmps[64]?.getD undef = .agg #[.int .i64 lo, .int .i64 hi] := hk 1 64 (by kernel_rfl) rfl
            rcases Blk.late K6_1 hw (by simp : ((w.heap.size + 1, #[.int .i64 lo, .int .i64 hi], 42) : Nat × Array Value × TypeId) ∈ ([(w.heap.size, #[.int .i64 k, .int .i64 len, .int .i64 (wrap64 (-rise)), .int .i64 rl, .int .i64 rh, .int .i64 fl, .int .i64 fh], 46), (w.heap.size + 1, #[.int .i64 lo, .int .i64 hi], 42)] : Late)) with K9 | K9
            all_goals obtain ⟨c9, f9⟩ := K9.rules
            all_goals go_simp
            all_goals refine Dq.stored2 (b := w.heap.size + 1) (F := #[.int .i64 lo, .int .i64 hi]) (T := 42) (by repeat (first | with_reducible exact Same1.refl _ _ | with_reducible refine Same1.set ?_ _ _)) ?_ (by simp) (by intro x hx; simp at hx; rcases hx with rfl | rfl <;> first | (intro _; rfl) | (intro h; exfalso; simp at h; done) | (intro h; exfalso; simp at h; omega)) (by omega)
            all_goals
              apply blk_cast
              · repeat (first | with_reducible exact K9 | with_reducible apply Blk.set)
              · rfl
        intro w9 b9
        rintro _ rfl
        rintro _ rfl
        rintro _ kb0
        rintro _ kb1
        obtain ⟨cl0, fl0⟩ := kb0.rules
        obtain ⟨cl1, fl1⟩ := kb1.rules
        simp only [RQ.EndAll, List.nil_append, List.cons_append, List.length_cons, List.length_nil, Nat.zero_add, Nat.reduceAdd, List.take_succ_cons, List.take_zero, List.drop_succ_cons, List.drop_zero, RQ.putAll, Act.put, List.setIfInBounds_toArray, List.set_cons_succ, List.set_cons_zero]
        go_wp2_with fail
        apply ret_td rfl (Dq.new (w0 := w) (Dr.new (S := S) (w0 := w) (w := w1) (by repeat (first | with_reducible exact New.refl _ | with_reducible assumption | with_reducible refine New.drew ?_ | with_reducible refine New.drewN ?_ _ | with_reducible refine New.alloc ?_ _ | with_reducible refine New.setCell ?_ (by first | (simp; done) | (simp; omega) | omega) _ | with_reducible refine New.trans ?_ (by with_reducible assumption))) (by repeat (first | with_reducible refine Dr.setCell ?_ (by first | (simp; done) | (simp; omega) | omega) _ | with_reducible refine Dr.alloc ?_ _ | with_reducible exact Dr.refl _ _ | with_reducible assumption | with_reducible refine Dr.trans ?_ (by with_reducible assumption) | with_reducible refine Dr.trans ?_ (Dr.of_new (by with_reducible assumption)) | with_reducible refine Dr.drewN ?_ _ | with_reducible refine Dr.drew ?_)) (by omega)) b9 (by omega) (by intro x hx; simp at hx; rcases hx with rfl | rfl <;> simp))
        simp [results, Try.results37, go_sem, cl0, cl1]
        exact ⟨⟨rfl, rfl, rfl, rfl, rfl, rfl, rfl⟩, rfl, rfl⟩
    · skip
      have hL9 : LateOK S w5 [(w.heap.size, #[.int .i64 k, .int .i64 len, .int .i64 (wrap64 (-rise)), .int .i64 rl, .int .i64 rh, .int .i64 fl, .int .i64 fh], 46), (w.heap.size + 1, #[.int .i64 lo, .int .i64 hi], 42)] := ⟨⟨by omega, by omega⟩, ⟨by omega, by omega⟩, trivial⟩
      have hM9 : ∀ x ∈ ([(w.heap.size, #[.int .i64 k, .int .i64 len, .int .i64 (wrap64 (-rise)), .int .i64 rl, .int .i64 rh, .int .i64 fl, .int .i64 fh], 46), (w.heap.size + 1, #[.int .i64 lo, .int .i64 hi], 42)] : Late), x.1 < w5.heap.size := fun x hx => (LateOK.get hL9 x hx).2
      refine RQ.wp_facts (Dq.ord S [(w.heap.size, #[.int .i64 k, .int .i64 len, .int .i64 (wrap64 (-rise)), .int .i64 rl, .int .i64 rh, .int .i64 fl, .int .i64 fh], 46), (w.heap.size + 1, #[.int .i64 lo, .int .i64 hi], 42)]) [fun X _ => X = .agg #[.int .i64 k, .int .i64 len, .int .i64 (wrap64 (-rise)), .int .i64 rl, .int .i64 rh, .int .i64 fl, .int .i64 fh], fun X _ => X = .agg #[.int .i64 lo, .int .i64 hi], fun X W' => Blk W' (w.heap.size) (#[.int .i64 k, .int .i64 len, .int .i64 (wrap64 (-rise)), .int .i64 rl, .int .i64 rh, .int .i64 fl, .int .i64 fh]) (46), fun X W' => Blk W' (w.heap.size + 1) (#[.int .i64 lo, .int .i64 hi]) (42)] (by kernel_rfl) (by kernel_rfl) ⟨RQ.stable_eq _, RQ.stable_eq _, fun X w0 w1 hn kb0 => Blk.kept kb0 hn (by simp), fun X w0 w1 hn kb1 => Blk.kept kb1 hn (by simp), trivial⟩ ?_ ?_
      · refine ⟨?_, ?_, ?_, ?_, trivial⟩
        · intro a w9 hw ho hk
          refine .inl ⟨by rfl, ?_⟩
          have s5 := ho 5 rfl
          dsimp at s5
          have K9 := Blk.dq K5_2 hw (by omega) ⟨by omega, by omega, trivial⟩
          obtain ⟨c9, f9⟩ := K9.rules
          go_simp
          exact Dq.refl _ _ _
        · intro a w9 hw ho hk
          refine .inl ⟨by rfl, ?_⟩
          have s6 := ho 6 rfl
          dsimp at s6
          have K9 := Blk.dq K5_3 hw (by omega) ⟨by omega, by omega, trivial⟩
          obtain ⟨c9, f9⟩ := K9.rules
          go_simp
          exact Dq.refl _ _ _
        · intro a w9 hw ho hk
          refine .inl ⟨by rfl, ?_⟩
          have s2 := ho 2 rfl
          dsimp at s2
          have t63 : a.tmps[63]?.getD undef = .agg #[.int .i64 k, .int .i64 len, .int .i64 (wrap64 (-rise)), .int .i64 rl, .int .i64 rh, .int .i64 fl, .int .i64 fh] := hk 0 63 (by kernel_rfl) rfl
          rcases Blk.late K5_0 hw (by simp : ((w.heap.size, #[.int .i64 k, .int .i64 len, .int .i64 (wrap64 (-rise)), .int .i64 rl, .int .i64 rh, .int .i64 fl, .int .i64 fh], 46) : Nat × Array Value × TypeId) ∈ ([(w.heap.size, #[.int .i64 k, .int .i64 len, .int .i64 (wrap64 (-rise)), .int .i64 rl, .int .i64 rh, .int .i64 fl, .int .i64 fh], 46), (w.heap.size + 1, #[.int .i64 lo, .int .i64 hi], 42)] : Late)) with K9 | K9
          all_goals obtain ⟨c9, f9⟩ := K9.rules
          all_goals go_simp
          all_goals refine Dq.stored2 (b := w.heap.size) (F := #[.int .i64 k, .int .i64 len, .int .i64 (wrap64 (-rise)), .int .i64 rl, .int .i64 rh, .int .i64 fl, .int .i64 fh]) (T := 46) (by repeat (first | with_reducible exact Same1.refl _ _ | with_reducible refine Same1.set ?_ _ _)) ?_ (by simp) (by intro x hx; simp at hx; rcases hx with rfl | rfl <;> first | (intro _; rfl) | (intro h; exfalso; simp at h; done) | (intro h; exfalso; simp at h; omega)) (by omega)
          all_goals
            apply blk_cast
            · repeat (first | with_reducible exact K9 | with_reducible apply Blk.set)
            · rfl
        · intro a w9 hw ho hk
          refine .inl ⟨by rfl, ?_⟩
          have s3 := ho 3 rfl
          dsimp at s3
          have t64 : a.tmps[64]?.getD undef = .agg #[.int .i64 lo, .int .i64 hi] := hk 1 64 (by kernel_rfl) rfl
          rcases Blk.late K5_1 hw (by simp : ((w.heap.size + 1, #[.int .i64 lo, .int .i64 hi], 42) : Nat × Array Value × TypeId) ∈ ([(w.heap.size, #[.int .i64 k, .int .i64 len, .int .i64 (wrap64 (-rise)), .int .i64 rl, .int .i64 rh, .int .i64 fl, .int .i64 fh], 46), (w.heap.size + 1, #[.int .i64 lo, .int .i64 hi], 42)] : Late)) with K9 | K9
          all_goals obtain ⟨c9, f9⟩ := K9.rules
          all_goals go_simp
          all_goals refine Dq.stored2 (b := w.heap.size + 1) (F := #[.int .i64 lo, .int .i64 hi]) (T := 42) (by repeat (first | with_reducible exact Same1.refl _ _ | with_reducible refine Same1.set ?_ _ _)) ?_ (by simp) (by intro x hx; simp at hx; rcases hx with rfl | rfl <;> first | (intro _; rfl) | (intro h; exfalso; simp at h; done) | (intro h; exfalso; simp at h; omega)) (by omega)
          all_goals
            apply blk_cast
            · repeat (first | with_reducible exact K9 | with_reducible apply Blk.set)
            · rfl
      intro w9 b9
      rintro _ rfl
      rintro _ rfl
      rintro _ kb0
      rintro _ kb1
      obtain ⟨cl0, fl0⟩ := kb0.rules
      obtain ⟨cl1, fl1⟩ := kb1.rules
      simp only [RQ.EndAll, List.nil_append, List.cons_append, List.length_cons, List.length_nil, Nat.zero_add, Nat.reduceAdd, List.take_succ_cons, List.take_zero, List.drop_succ_cons, List.drop_zero, RQ.putAll, Act.put, List.setIfInBounds_toArray, List.set_cons_succ, List.set_cons_zero]
      go_wp2_with fail
      apply ret_td rfl (Dq.new (w0 := w) (Dr.new (S := S) (w0 := w) (w := w1) (by repeat (first | with_reducible exact New.refl _ | with_reducible assumption | with_reducible refine New.drew ?_ | with_reducible refine New.drewN ?_ _ | with_reducible refine New.alloc ?_ _ | with_reducible refine New.setCell ?_ (by first | (simp; done) | (simp; omega) | omega) _ | with_reducible refine New.trans ?_ (by with_reducible assumption))) (by repeat (first | with_reducible refine Dr.setCell ?_ (by first | (simp; done) | (simp; omega) | omega) _ | with_reducible refine Dr.alloc ?_ _ | with_reducible exact Dr.refl _ _ | with_reducible assumption | with_reducible refine Dr.trans ?_ (by with_reducible assumption) | with_reducible refine Dr.trans ?_ (Dr.of_new (by with_reducible assumption)) | with_reducible refine Dr.drewN ?_ _ | with_reducible refine Dr.drew ?_)) (by omega)) b9 (by omega) (by intro x hx; simp at hx; rcases hx with rfl | rfl <;> simp))
      simp [results, Try.results37, go_sem, cl0, cl1]
      exact ⟨⟨rfl, rfl, rfl, rfl, rfl, rfl, rfl⟩, rfl, rfl⟩
  · skip
    refine (l06Draw_any S _ (Dr.src ?hs7 hs.out)).mono ?_
    case hs7 => exact (by repeat (first | with_reducible refine Dr.setCell ?_ (by first | (simp; done) | (simp; omega) | omega) _ | with_reducible refine Dr.alloc ?_ _ | with_reducible exact Dr.refl _ _ | with_reducible assumption | with_reducible refine Dr.trans ?_ (by with_reducible assumption) | with_reducible refine Dr.trans ?_ (Dr.of_new (by with_reducible assumption)) | with_reducible refine Dr.drewN ?_ _ | with_reducible refine Dr.drew ?_))
    rintro e w4 ⟨lo, hi, rfl, b4⟩
    have z4 := b4.size
    try simp only [World.size_alloc, World.size_drew, World.heap_drewN, World.size_setCell] at z4
    have z4_0 : w.heap.size < w4.heap.size := by omega
    apply Blk.use (w := w4) (b := w.heap.size)
    · repeat (first | with_reducible assumption | with_reducible exact Blk.alloc_at (by first | rfl | (simp; done) | (simp; omega)) | with_reducible apply Blk.alloc | with_reducible apply Blk.drew | with_reducible apply Blk.drewN | with_reducible apply Blk.set | ((with_reducible apply Blk.set_ne); rotate_left; (focus omega)) | ((with_reducible apply Blk.dr); rotate_left; (focus (with_reducible assumption)); (focus omega)) | ((with_reducible apply Blk.new); rotate_left; (focus (with_reducible assumption))))
    intro K4_0
    try simp only [List.setIfInBounds_toArray, List.set_cons_succ, List.set_cons_zero] at K4_0
    obtain ⟨c4_0, f4_0⟩ := K4_0.rules
    have z4_1 : w.heap.size + 1 < w4.heap.size := by omega
    apply Blk.use (w := w4) (b := w.heap.size + 1)
    · repeat (first | with_reducible assumption | with_reducible exact Blk.alloc_at (by first | rfl | (simp; done) | (simp; omega)) | with_reducible apply Blk.alloc | with_reducible apply Blk.drew | with_reducible apply Blk.drewN | with_reducible apply Blk.set | ((with_reducible apply Blk.set_ne); rotate_left; (focus omega)) | ((with_reducible apply Blk.dr); rotate_left; (focus (with_reducible assumption)); (focus omega)) | ((with_reducible apply Blk.new); rotate_left; (focus (with_reducible assumption))))
    intro K4_1
    try simp only [List.setIfInBounds_toArray, List.set_cons_succ, List.set_cons_zero] at K4_1
    obtain ⟨c4_1, f4_1⟩ := K4_1.rules
    have z4_2 : w2.heap.size < w4.heap.size := by omega
    apply Blk.use (w := w4) (b := w2.heap.size)
    · repeat (first | with_reducible assumption | with_reducible exact Blk.alloc_at (by first | rfl | (simp; done) | (simp; omega)) | with_reducible apply Blk.alloc | with_reducible apply Blk.drew | with_reducible apply Blk.drewN | with_reducible apply Blk.set | ((with_reducible apply Blk.set_ne); rotate_left; (focus omega)) | ((with_reducible apply Blk.dr); rotate_left; (focus (with_reducible assumption)); (focus omega)) | ((with_reducible apply Blk.new); rotate_left; (focus (with_reducible assumption))))
    intro K4_2
    try simp only [List.setIfInBounds_toArray, List.set_cons_succ, List.set_cons_zero] at K4_2
    obtain ⟨c4_2, f4_2⟩ := K4_2.rules
    try clear c3_0 f3_0 K3_0
    try clear c3_1 f3_1 K3_1
    try clear c3_2 f3_2 K3_2
    try clear c3_3 f3_3 K3_3
    try clear c3_4 f3_4 K3_4
    try clear c3_5 f3_5 K3_5
    try clear c2_0 f2_0 K2_0
    try clear c2_1 f2_1 K2_1
    try clear c2_2 f2_2 K2_2
    try clear c2_3 f2_3 K2_3
    try clear c2_4 f2_4 K2_4
    try clear c2_5 f2_5 K2_5
    try clear c1_0 f1_0 K1_0
    try clear c1_1 f1_1 K1_1
    try clear c1_2 f1_2 K1_2
    try clear c1_3 f1_3 K1_3
    try clear c1_4 f1_4 K1_4
    try clear c1_5 f1_5 K1_5
    have y4 : S < w4.heap.size := by omega
    go_wp2_with fail
    refine (sIsSegment_any _ _ _ _ _ _ _ _).mono ?_
    rintro e w5 ⟨rfl, n5⟩
    have b5 := Dr.of_new (S := S) n5
    have z5 := b5.size
    try simp only [World.size_alloc, World.size_drew, World.heap_drewN, World.size_setCell] at z5
    have z5_0 : w.heap.size < w5.heap.size := by omega
    apply Blk.use (w := w5) (b := w.heap.size)
    · repeat (first | with_reducible assumption | with_reducible exact Blk.alloc_at (by first | rfl | (simp; done) | (simp; omega)) | with_reducible apply Blk.alloc | with_reducible apply Blk.drew | with_reducible apply Blk.drewN | with_reducible apply Blk.set | ((with_reducible apply Blk.set_ne); rotate_left; (focus omega)) | ((with_reducible apply Blk.dr); rotate_left; (focus (with_reducible assumption)); (focus omega)) | ((with_reducible apply Blk.new); rotate_left; (focus (with_reducible assumption))))
    intro K5_0
    try simp only [List.setIfInBounds_toArray, List.set_cons_succ, List.set_cons_zero] at K5_0
    obtain ⟨c5_0, f5_0⟩ := K5_0.rules
    have z5_1 : w.heap.size + 1 < w5.heap.size := by omega
    apply Blk.use (w := w5) (b := w.heap.size + 1)
    · repeat (first | with_reducible assumption | with_reducible exact Blk.alloc_at (by first | rfl | (simp; done) | (simp; omega)) | with_reducible apply Blk.alloc | with_reducible apply Blk.drew | with_reducible apply Blk.drewN | with_reducible apply Blk.set | ((with_reducible apply Blk.set_ne); rotate_left; (focus omega)) | ((with_reducible apply Blk.dr); rotate_left; (focus (with_reducible assumption)); (focus omega)) | ((with_reducible apply Blk.new); rotate_left; (focus (with_reducible assumption))))
    intro K5_1
    try simp only [List.setIfInBounds_toArray, List.set_cons_succ, List.set_cons_zero] at K5_1
    obtain ⟨c5_1, f5_1⟩ := K5_1.rules
    have z5_2 : w2.heap.size < w5.heap.size := by omega
    apply Blk.use (w := w5) (b := w2.heap.size)
    · repeat (first | with_reducible assumption | with_reducible exact Blk.alloc_at (by first | rfl | (simp; done) | (simp; omega)) | with_reducible apply Blk.alloc | with_reducible apply Blk.drew | with_reducible apply Blk.drewN | with_reducible apply Blk.set | ((with_reducible apply Blk.set_ne); rotate_left; (focus omega)) | ((with_reducible apply Blk.dr); rotate_left; (focus (with_reducible assumption)); (focus omega)) | ((with_reducible apply Blk.new); rotate_left; (focus (with_reducible assumption))))
    intro K5_2
    try simp only [List.setIfInBounds_toArray, List.set_cons_succ, List.set_cons_zero] at K5_2
    obtain ⟨c5_2, f5_2⟩ := K5_2.rules
    have z5_3 : w4.heap.size < w5.heap.size := by omega
    apply Blk.use (w := w5) (b := w4.heap.size)
    · repeat (first | with_reducible assumption | with_reducible exact Blk.alloc_at (by first | rfl | (simp; done) | (simp; omega)) | with_reducible apply Blk.alloc | with_reducible apply Blk.drew | with_reducible apply Blk.drewN | with_reducible apply Blk.set | ((with_reducible apply Blk.set_ne); rotate_left; (focus omega)) | ((with_reducible apply Blk.dr); rotate_left; (focus (with_reducible assumption)); (focus omega)) | ((with_reducible apply Blk.new); rotate_left; (focus (with_reducible assumption))))
    intro K5_3
    try simp only [List.setIfInBounds_toArray, List.set_cons_succ, List.set_cons_zero] at K5_3
    obtain ⟨c5_3, f5_3⟩ := K5_3.rules
    try clear c4_0 f4_0 K4_0
    try clear c4_1 f4_1 K4_1
    try clear c4_2 f4_2 K4_2
    try clear c4_3 f4_3 K4_3
    try clear c4_4 f4_4 K4_4
    try clear c4_5 f4_5 K4_5
    try clear c3_0 f3_0 K3_0
    try clear c3_1 f3_1 K3_1
    try clear c3_2 f3_2 K3_2
    try clear c3_3 f3_3 K3_3
    try clear c3_4 f3_4 K3_4
    try clear c3_5 f3_5 K3_5
    try clear c2_0 f2_0 K2_0
    try clear c2_1 f2_1 K2_1
    try clear c2_2 f2_2 K2_2
    try clear c2_3 f2_3 K2_3
    try clear c2_4 f2_4 K2_4
    try clear c2_5 f2_5 K2_5
    have y5 : S < w5.heap.size := by omega
    go_wp2_with fail
    · skip
      refine (l01Next_n S _ _ (Dr.src ?hs8 hs.out)).mono ?_
      case hs8 => exact (by repeat (first | with_reducible refine Dr.setCell ?_ (by first | (simp; done) | (simp; omega) | omega) _ | with_reducible refine Dr.alloc ?_ _ | with_reducible exact Dr.refl _ _ | with_reducible assumption | with_reducible refine Dr.trans ?_ (by with_reducible assumption) | with_reducible refine Dr.trans ?_ (Dr.of_new (by with_reducible assumption)) | with_reducible refine Dr.drewN ?_ _ | with_reducible refine Dr.drew ?_))
      rintro e w6 ⟨r6, rfl, b6⟩
      have z6 := b6.size
      try simp only [World.size_alloc, World.size_drew, World.heap_drewN, World.size_setCell] at z6
      have z6_0 : w.heap.size < w6.heap.size := by omega
      apply Blk.use (w := w6) (b := w.heap.size)
      · repeat (first | with_reducible assumption | with_reducible exact Blk.alloc_at (by first | rfl | (simp; done) | (simp; omega)) | with_reducible apply Blk.alloc | with_reducible apply Blk.drew | with_reducible apply Blk.drewN | with_reducible apply Blk.set | ((with_reducible apply Blk.set_ne); rotate_left; (focus omega)) | ((with_reducible apply Blk.dr); rotate_left; (focus (with_reducible assumption)); (focus omega)) | ((with_reducible apply Blk.new); rotate_left; (focus (with_reducible assumption))))
      intro K6_0
      try simp only [List.setIfInBounds_toArray, List.set_cons_succ, List.set_cons_zero] at K6_0
      obtain ⟨c6_0, f6_0⟩ := K6_0.rules
      have z6_1 : w.heap.size + 1 < w6.heap.size := by omega
      apply Blk.use (w := w6) (b := w.heap.size + 1)
      · repeat (first | with_reducible assumption | with_reducible exact Blk.alloc_at (by first | rfl | (simp; done) | (simp; omega)) | with_reducible apply Blk.alloc | with_reducible apply Blk.drew | with_reducible apply Blk.drewN | with_reducible apply Blk.set | ((with_reducible apply Blk.set_ne); rotate_left; (focus omega)) | ((with_reducible apply Blk.dr); rotate_left; (focus (with_reducible assumption)); (focus omega)) | ((with_reducible apply Blk.new); rotate_left; (focus (with_reducible assumption))))
      intro K6_1
      try simp only [List.setIfInBounds_toArray, List.set_cons_succ, List.set_cons_zero] at K6_1
      obtain ⟨c6_1, f6_1⟩ := K6_1.rules
      have z6_2 : w2.heap.size < w6.heap.size := by omega
      apply Blk.use (w := w6) (b := w2.heap.size)
      · repeat (first | with_reducible assumption | with_reducible exact Blk.alloc_at (by first | rfl | (simp; done) | (simp; omega)) | with_reducible apply Blk.alloc | with_reducible apply Blk.drew | with_reducible apply Blk.drewN | with_reducible apply Blk.set | ((with_reducible apply Blk.set_ne); rotate_left; (focus omega)) | ((with_reducible apply Blk.dr); rotate_left; (focus (with_reducible assumption)); (focus omega)) | ((with_reducible apply Blk.new); rotate_left; (focus (with_reducible assumption))))
      intro K6_2
      try simp only [List.setIfInBounds_toArray, List.set_cons_succ, List.set_cons_zero] at K6_2
      obtain ⟨c6_2, f6_2⟩ := K6_2.rules
      have z6_3 : w4.heap.size < w6.heap.size := by omega
      apply Blk.use (w := w6) (b := w4.heap.size)
      · repeat (first | with_reducible assumption | with_reducible exact Blk.alloc_at (by first | rfl | (simp; done) | (simp; omega)) | with_reducible apply Blk.alloc | with_reducible apply Blk.drew | with_reducible apply Blk.drewN | with_reducible apply Blk.set | ((with_reducible apply Blk.set_ne); rotate_left; (focus omega)) | ((with_reducible apply Blk.dr); rotate_left; (focus (with_reducible assumption)); (focus omega)) | ((with_reducible apply Blk.new); rotate_left; (focus (with_reducible assumption))))
      intro K6_3
      try simp only [List.setIfInBounds_toArray, List.set_cons_succ, List.set_cons_zero] at K6_3
      obtain ⟨c6_3, f6_3⟩ := K6_3.rules
      try clear c5_0 f5_0 K5_0
      try clear c5_1 f5_1 K5_1
      try clear c5_2 f5_2 K5_2
      try clear c5_3 f5_3 K5_3
      try clear c5_4 f5_4 K5_4
      try clear c5_5 f5_5 K5_5
      try clear c4_0 f4_0 K4_0
      try clear c4_1 f4_1 K4_1
      try clear c4_2 f4_2 K4_2
      try clear c4_3 f4_3 K4_3
      try clear c4_4 f4_4 K4_4
      try clear c4_5 f4_5 K4_5
      try clear c3_0 f3_0 K3_0
      try clear c3_1 f3_1 K3_1
      try clear c3_2 f3_2 K3_2
      try clear c3_3 f3_3 K3_3
      try clear c3_4 f3_4 K3_4
      try clear c3_5 f3_5 K3_5
      have y6 : S < w6.heap.size := by omega
      go_wp2_with fail
      · skip
        refine (l06ChangeW_any _ _ _ _ _ _ _ _).mono ?_
        rintro e w7 ⟨x7, y7, rfl, n7⟩
        have b7 := Dr.of_new (S := S) n7
        have z7 := b7.size
        try simp only [World.size_alloc, World.size_drew, World.heap_drewN, World.size_setCell] at z7
        have z7_0 : w.heap.size < w7.heap.size := by omega
        apply Blk.use (w := w7) (b := w.heap.size)
        · repeat (first | with_reducible assumption | with_reducible exact Blk.alloc_at (by first | rfl | (simp; done) | (simp; omega)) | with_reducible apply Blk.alloc | with_reducible apply Blk.drew | with_reducible apply Blk.drewN | with_reducible apply Blk.set | ((with_reducible apply Blk.set_ne); rotate_left; (focus omega)) | ((with_reducible apply Blk.dr); rotate_left; (focus (with_reducible assumption)); (focus omega)) | ((with_reducible apply Blk.new); rotate_left; (focus (with_reducible assumption))))
        intro K7_0
        try simp only [List.setIfInBounds_toArray, List.set_cons_succ, List.set_cons_zero] at K7_0
        obtain ⟨c7_0, f7_0⟩ := K7_0.rules
        have z7_1 : w.heap.size + 1 < w7.heap.size := by omega
        apply Blk.use (w := w7) (b := w.heap.size + 1)
        · repeat (first | with_reducible assumption | with_reducible exact Blk.alloc_at (by first | rfl | (simp; done) | (simp; omega)) | with_reducible apply Blk.alloc | with_reducible apply Blk.drew | with_reducible apply Blk.drewN | with_reducible apply Blk.set | ((with_reducible apply Blk.set_ne); rotate_left; (focus omega)) | ((with_reducible apply Blk.dr); rotate_left; (focus (with_reducible assumption)); (focus omega)) | ((with_reducible apply Blk.new); rotate_left; (focus (with_reducible assumption))))
        intro K7_1
        try simp only [List.setIfInBounds_toArray, List.set_cons_succ, List.set_cons_zero] at K7_1
        obtain ⟨c7_1, f7_1⟩ := K7_1.rules
        have z7_2 : w2.heap.size < w7.heap.size := by omega
        apply Blk.use (w := w7) (b := w2.heap.size)
        · repeat (first | with_reducible assumption | with_reducible exact Blk.alloc_at (by first | rfl | (simp; done) | (simp; omega)) | with_reducible apply Blk.alloc | with_reducible apply Blk.drew | with_reducible apply Blk.drewN | with_reducible apply Blk.set | ((with_reducible apply Blk.set_ne); rotate_left; (focus omega)) | ((with_reducible apply Blk.dr); rotate_left; (focus (with_reducible assumption)); (focus omega)) | ((with_reducible apply Blk.new); rotate_left; (focus (with_reducible assumption))))
        intro K7_2
        try simp only [List.setIfInBounds_toArray, List.set_cons_succ, List.set_cons_zero] at K7_2
        obtain ⟨c7_2, f7_2⟩ := K7_2.rules
        have z7_3 : w4.heap.size < w7.heap.size := by omega
        apply Blk.use (w := w7) (b := w4.heap.size)
        · repeat (first | with_reducible assumption | with_reducible exact Blk.alloc_at (by first | rfl | (simp; done) | (simp; omega)) | with_reducible apply Blk.alloc | with_reducible apply Blk.drew | with_reducible apply Blk.drewN | with_reducible apply Blk.set | ((with_reducible apply Blk.set_ne); rotate_left; (focus omega)) | ((with_reducible apply Blk.dr); rotate_left; (focus (with_reducible assumption)); (focus omega)) | ((with_reducible apply Blk.new); rotate_left; (focus (with_reducible assumption))))
        intro K7_3
        try simp only [List.setIfInBounds_toArray, List.set_cons_succ, List.set_cons_zero] at K7_3
        obtain ⟨c7_3, f7_3⟩ := K7_3.rules
        try clear c6_0 f6_0 K6_0
        try clear c6_1 f6_1 K6_1
        try clear c6_2 f6_2 K6_2
        try clear c6_3 f6_3 K6_3
        try clear c6_4 f6_4 K6_4
        try clear c6_5 f6_5 K6_5
        try clear c5_0 f5_0 K5_0
        try clear c5_1 f5_1 K5_1
        try clear c5_2 f5_2 K5_2
        try clear c5_3 f5_3 K5_3
        try clear c5_4 f5_4 K5_4
        try clear c5_5 f5_5 K5_5
        try clear c4_0 f4_0 K4_0
        try clear c4_1 f4_1 K4_1
        try clear c4_2 f4_2 K4_2
        try clear c4_3 f4_3 K4_3
        try clear c4_4 f4_4 K4_4
        try clear c4_5 f4_5 K4_5
        have y7 : S < w7.heap.size := by omega
        go_wp2_with fail
        all_goals
          refine (l01Next_n S _ _ (Dr.src ?hs9 hs.out)).mono ?_
          case hs9 => exact (by repeat (first | with_reducible refine Dr.setCell ?_ (by first | (simp; done) | (simp; omega) | omega) _ | with_reducible refine Dr.alloc ?_ _ | with_reducible exact Dr.refl _ _ | with_reducible assumption | with_reducible refine Dr.trans ?_ (by with_reducible assumption) | with_reducible refine Dr.trans ?_ (Dr.of_new (by with_reducible assumption)) | with_reducible refine Dr.drewN ?_ _ | with_reducible refine Dr.drew ?_))
          rintro e w8 ⟨r8, rfl, b8⟩
          have z8 := b8.size
          try simp only [World.size_alloc, World.size_drew, World.heap_drewN, World.size_setCell] at z8
          have z8_0 : w.heap.size < w8.heap.size := by omega
          apply Blk.use (w := w8) (b := w.heap.size)
          · repeat (first | with_reducible assumption | with_reducible exact Blk.alloc_at (by first | rfl | (simp; done) | (simp; omega)) | with_reducible apply Blk.alloc | with_reducible apply Blk.drew | with_reducible apply Blk.drewN | with_reducible apply Blk.set | ((with_reducible apply Blk.set_ne); rotate_left; (focus omega)) | ((with_reducible apply Blk.dr); rotate_left; (focus (with_reducible assumption)); (focus omega)) | ((with_reducible apply Blk.new); rotate_left; (focus (with_reducible assumption))))
          intro K8_0
          try simp only [List.setIfInBounds_toArray, List.set_cons_succ, List.set_cons_zero] at K8_0
          obtain ⟨c8_0, f8_0⟩ := K8_0.rules
          have z8_1 : w.heap.size + 1 < w8.heap.size := by omega
          apply Blk.use (w := w8) (b := w.heap.size + 1)
          · repeat (first | with_reducible assumption | with_reducible exact Blk.alloc_at (by first | rfl | (simp; done) | (simp; omega)) | with_reducible apply Blk.alloc | with_reducible apply Blk.drew | with_reducible apply Blk.drewN | with_reducible apply Blk.set | ((with_reducible apply Blk.set_ne); rotate_left; (focus omega)) | ((with_reducible apply Blk.dr); rotate_left; (focus (with_reducible assumption)); (focus omega)) | ((with_reducible apply Blk.new); rotate_left; (focus (with_reducible assumption))))
          intro K8_1
          try simp only [List.setIfInBounds_toArray, List.set_cons_succ, List.set_cons_zero] at K8_1
          obtain ⟨c8_1, f8_1⟩ := K8_1.rules
          have z8_2 : w2.heap.size < w8.heap.size := by omega
          apply Blk.use (w := w8) (b := w2.heap.size)
          · repeat (first | with_reducible assumption | with_reducible exact Blk.alloc_at (by first | rfl | (simp; done) | (simp; omega)) | with_reducible apply Blk.alloc | with_reducible apply Blk.drew | with_reducible apply Blk.drewN | with_reducible apply Blk.set | ((with_reducible apply Blk.set_ne); rotate_left; (focus omega)) | ((with_reducible apply Blk.dr); rotate_left; (focus (with_reducible assumption)); (focus omega)) | ((with_reducible apply Blk.new); rotate_left; (focus (with_reducible assumption))))
          intro K8_2
          try simp only [List.setIfInBounds_toArray, List.set_cons_succ, List.set_cons_zero] at K8_2
          obtain ⟨c8_2, f8_2⟩ := K8_2.rules
          have z8_3 : w4.heap.size < w8.heap.size := by omega
          apply Blk.use (w := w8) (b := w4.heap.size)
          · repeat (first | with_reducible assumption | with_reducible exact Blk.alloc_at (by first | rfl | (simp; done) | (simp; omega)) | with_reducible apply Blk.alloc | with_reducible apply Blk.drew | with_reducible apply Blk.drewN | with_reducible apply Blk.set | ((with_reducible apply Blk.set_ne); rotate_left; (focus omega)) | ((with_reducible apply Blk.dr); rotate_left; (focus (with_reducible assumption)); (focus omega)) | ((with_reducible apply Blk.new); rotate_left; (focus (with_reducible assumption))))
          intro K8_3
          try simp only [List.setIfInBounds_toArray, List.set_cons_succ, List.set_cons_zero] at K8_3
          obtain ⟨c8_3, f8_3⟩ := K8_3.rules
          try clear c7_0 f7_0 K7_0
          try clear c7_1 f7_1 K7_1
          try clear c7_2 f7_2 K7_2
          try clear c7_3 f7_3 K7_3
          try clear c7_4 f7_4 K7_4
          try clear c7_5 f7_5 K7_5
          try clear c6_0 f6_0 K6_0
          try clear c6_1 f6_1 K6_1
          try clear c6_2 f6_2 K6_2
          try clear c6_3 f6_3 K6_3
          try clear c6_4 f6_4 K6_4
          try clear c6_5 f6_5 K6_5
          try clear c5_0 f5_0 K5_0
          try clear c5_1 f5_1 K5_1
          try clear c5_2 f5_2 K5_2
          try clear c5_3 f5_3 K5_3
          try clear c5_4 f5_4 K5_4
          try clear c5_5 f5_5 K5_5
          have y8 : S < w8.heap.size := by omega
          go_wp2_with fail
          refine (l01Next_n S _ _ (Dr.src ?hs10 hs.out)).mono ?_
          case hs10 => exact (by repeat (first | with_reducible refine Dr.setCell ?_ (by first | (simp; done) | (simp; omega) | omega) _ | with_reducible refine Dr.alloc ?_ _ | with_reducible exact Dr.refl _ _ | with_reducible assumption | with_reducible refine Dr.trans ?_ (by with_reducible assumption) | with_reducible refine Dr.trans ?_ (Dr.of_new (by with_reducible assumption)) | with_reducible refine Dr.drewN ?_ _ | with_reducible refine Dr.drew ?_))
          rintro e w9 ⟨r9, rfl, b9⟩
          have z9 := b9.size
          try simp only [World.size_alloc, World.size_drew, World.heap_drewN, World.size_setCell] at z9
          have z9_0 : w.heap.size < w9.heap.size := by omega
          apply Blk.use (w := w9) (b := w.heap.size)
          · repeat (first | with_reducible assumption | with_reducible exact Blk.alloc_at (by first | rfl | (simp; done) | (simp; omega)) | with_reducible apply Blk.alloc | with_reducible apply Blk.drew | with_reducible apply Blk.drewN | with_reducible apply Blk.set | ((with_reducible apply Blk.set_ne); rotate_left; (focus omega)) | ((with_reducible apply Blk.dr); rotate_left; (focus (with_reducible assumption)); (focus omega)) | ((with_reducible apply Blk.new); rotate_left; (focus (with_reducible assumption))))
          intro K9_0
          try simp only [List.setIfInBounds_toArray, List.set_cons_succ, List.set_cons_zero] at K9_0
          obtain ⟨c9_0, f9_0⟩ := K9_0.rules
          have z9_1 : w.heap.size + 1 < w9.heap.size := by omega
          apply Blk.use (w := w9) (b := w.heap.size + 1)
          · repeat (first | with_reducible assumption | with_reducible exact Blk.alloc_at (by first | rfl | (simp; done) | (simp; omega)) | with_reducible apply Blk.alloc | with_reducible apply Blk.drew | with_reducible apply Blk.drewN | with_reducible apply Blk.set | ((with_reducible apply Blk.set_ne); rotate_left; (focus omega)) | ((with_reducible apply Blk.dr); rotate_left; (focus (with_reducible assumption)); (focus omega)) | ((with_reducible apply Blk.new); rotate_left; (focus (with_reducible assumption))))
          intro K9_1
          try simp only [List.setIfInBounds_toArray, List.set_cons_succ, List.set_cons_zero] at K9_1
          obtain ⟨c9_1, f9_1⟩ := K9_1.rules
          have z9_2 : w2.heap.size < w9.heap.size := by omega
          apply Blk.use (w := w9) (b := w2.heap.size)
          · repeat (first | with_reducible assumption | with_reducible exact Blk.alloc_at (by first | rfl | (simp; done) | (simp; omega)) | with_reducible apply Blk.alloc | with_reducible apply Blk.drew | with_reducible apply Blk.drewN | with_reducible apply Blk.set | ((with_reducible apply Blk.set_ne); rotate_left; (focus omega)) | ((with_reducible apply Blk.dr); rotate_left; (focus (with_reducible assumption)); (focus omega)) | ((with_reducible apply Blk.new); rotate_left; (focus (with_reducible assumption))))
          intro K9_2
          try simp only [List.setIfInBounds_toArray, List.set_cons_succ, List.set_cons_zero] at K9_2
          obtain ⟨c9_2, f9_2⟩ := K9_2.rules
          have z9_3 : w4.heap.size < w9.heap.size := by omega
          apply Blk.use (w := w9) (b := w4.heap.size)
          · repeat (first | with_reducible assumption | with_reducible exact Blk.alloc_at (by first | rfl | (simp; done) | (simp; omega)) | with_reducible apply Blk.alloc | with_reducible apply Blk.drew | with_reducible apply Blk.drewN | with_reducible apply Blk.set | ((with_reducible apply Blk.set_ne); rotate_left; (focus omega)) | ((with_reducible apply Blk.dr); rotate_left; (focus (with_reducible assumption)); (focus omega)) | ((with_reducible apply Blk.new); rotate_left; (focus (with_reducible assumption))))
          intro K9_3
          try simp only [List.setIfInBounds_toArray, List.set_cons_succ, List.set_cons_zero] at K9_3
          obtain ⟨c9_3, f9_3⟩ := K9_3.rules
          try clear c8_0 f8_0 K8_0
          try clear c8_1 f8_1 K8_1
          try clear c8_2 f8_2 K8_2
          try clear c8_3 f8_3 K8_3
          try clear c8_4 f8_4 K8_4
          try clear c8_5 f8_5 K8_5
          try clear c7_0 f7_0 K7_0
          try clear c7_1 f7_1 K7_1
          try clear c7_2 f7_2 K7_2
          try clear c7_3 f7_3 K7_3
          try clear c7_4 f7_4 K7_4
          try clear c7_5 f7_5 K7_5
          try clear c6_0 f6_0 K6_0
          try clear c6_1 f6_1 K6_1
          try clear c6_2 f6_2 K6_2
          try clear c6_3 f6_3 K6_3
          try clear c6_4 f6_4 K6_4
          try clear c6_5 f6_5 K6_5
          have y9 : S < w9.heap.size := by omega
          go_wp2_with fail
        all_goals
          have hL9 : LateOK S w9 [(w.heap.size, #[.int .i64 k, .int .i64 len, .int .i64 rise, .int .i64 rl, .int .i64 rh, .int .i64 fl, .int .i64 fh], 46)] := ⟨⟨by omega, by omega⟩, trivial⟩
          have hM9 : ∀ x ∈ ([(w.heap.size, #[.int .i64 k, .int .i64 len, .int .i64 rise, .int .i64 rl, .int .i64 rh, .int .i64 fl, .int .i64 fh], 46)] : Late), x.1 < w9.heap.size := fun x hx => (LateOK.get hL9 x hx).2
          refine RQ.wp_facts (Dq.ord S [(w.heap.size, #[.int .i64 k, .int .i64 len, .int .i64 rise, .int .i64 rl, .int .i64 rh, .int .i64 fl, .int .i64 fh], 46)]) [fun X _ => X = .agg #[.int .i64 k, .int .i64 len, .int .i64 rise, .int .i64 rl, .int .i64 rh, .int .i64 fl, .int .i64 fh], fun X W' => ∃ r : Int, X = .int .i64 r, fun X _ => X = .pointer (some ⟨S, 0, none⟩), fun X W' => ∃ r : Int, X = .int .i64 r, fun X W' => ∃ r : Int, X = .int .i64 r, fun X W' => ∃ r : Int, X = .int .i64 r, fun X W' => ∃ r : Int, X = .int .i64 r, fun X W' => ∃ r : Int, X = .int .i64 r, fun X _ => X = .pointer (some ⟨S, 0, none⟩), fun X W' => ∃ r : Int, X = .int .i64 r, fun X W' => ∃ r : Int, X = .int .i64 r, fun X W' => ∃ r : Int, X = .int .i64 r, fun X W' => ∃ r : Int, X = .int .i64 r, fun X W' => ∃ x y : Int, X = .agg #[.int .i64 x, .int .i64 y], fun X W' => Blk W' (w.heap.size) (#[.int .i64 k, .int .i64 len, .int .i64 rise, .int .i64 rl, .int .i64 rh, .int .i64 fl, .int .i64 fh]) (46)] (by kernel_rfl) (by kernel_rfl) ⟨RQ.stable_eq _, fun X w0 w1 hn ⟨r50, t50⟩ => ⟨r50, t50⟩, RQ.stable_eq _, fun X w0 w1 hn ⟨r52, t52⟩ => ⟨r52, t52⟩, fun X w0 w1 hn ⟨r53, t53⟩ => ⟨r53, t53⟩, fun X w0 w1 hn ⟨r54, t54⟩ => ⟨r54, t54⟩, fun X w0 w1 hn ⟨r55, t55⟩ => ⟨r55, t55⟩, fun X w0 w1 hn ⟨r56, t56⟩ => ⟨r56, t56⟩, RQ.stable_eq _, fun X w0 w1 hn ⟨r58, t58⟩ => ⟨r58, t58⟩, fun X w0 w1 hn ⟨r59, t59⟩ => ⟨r59, t59⟩, fun X w0 w1 hn ⟨r60, t60⟩ => ⟨r60, t60⟩, fun X w0 w1 hn ⟨r61, t61⟩ => ⟨r61, t61⟩, fun X w0 w1 hn ⟨x62, y62, t62⟩ => ⟨x62, y62, t62⟩, fun X w0 w1 hn kb0 => Blk.kept kb0 hn (by simp), trivial⟩ ?_ ?_
          · refine ⟨?_, ?_, ?_, ?_, ?_, ?_, ?_, ?_, ?_, ?_, ?_, ?_, ?_, ?_, ?_, trivial⟩
            · intro a w9 hw ho hk
              refine .inl ⟨by rfl, ?_⟩
              have s5 := ho 5 rfl
              dsimp at s5
              have K9 := Blk.dq K9_2 hw (by omega) ⟨by omega, trivial⟩
              obtain ⟨c9, f9⟩ := K9.rules
              go_simp
              exact Dq.refl _ _ _
            · intro a w9 hw ho hk
              refine .inl ⟨by rfl, ?_⟩
              have s8 := ho 8 rfl
              dsimp at s8
              go_simp
              first | exact ⟨Dq.refl _ _ _, _, rfl, _, rfl⟩ | exact ⟨Dq.refl _ _ _, _, by simp⟩
            · intro a w9 hw ho hk
              refine .inl ⟨by rfl, ?_⟩
              have s4 := ho 4 rfl
              dsimp at s4
              go_simp
              exact Dq.refl _ _ _
            · intro a w9 hw ho hk
              refine .inl ⟨by rfl, ?_⟩
              have s8 := ho 8 rfl
              dsimp at s8
              go_simp
              first | exact ⟨Dq.refl _ _ _, _, rfl, _, rfl⟩ | exact ⟨Dq.refl _ _ _, _, by simp⟩
            · intro a w9 hw ho hk
              refine .inl ⟨by rfl, ?_⟩
              obtain ⟨r52, t52⟩ : ∃ r : Int, (a.tmps[52]?.getD undef) = .int .i64 r := hk 3 52 (by kernel_rfl) rfl
              go_simp
              first | exact ⟨Dq.refl _ _ _, _, rfl, _, rfl⟩ | exact ⟨Dq.refl _ _ _, _, by simp⟩
            · intro a w9 hw ho hk
              refine .inl ⟨by rfl, ?_⟩
              have t51 : a.tmps[51]?.getD undef = .pointer (some ⟨S, 0, none⟩) := hk 2 51 (by kernel_rfl) rfl
              obtain ⟨r53, t53⟩ : ∃ r : Int, (a.tmps[53]?.getD undef) = .int .i64 r := hk 4 53 (by kernel_rfl) rfl
              go_simp
              refine (l01Next_n S _ _ (Dq.src hw (by intro x hx; simp at hx; rcases hx with rfl | rfl <;> first | (simp; done) | (simp; omega) | omega) (Dr.src (by repeat (first | with_reducible refine Dr.setCell ?_ (by first | (simp; done) | (simp; omega) | omega) _ | with_reducible refine Dr.alloc ?_ _ | with_reducible exact Dr.refl _ _ | with_reducible assumption | with_reducible refine Dr.trans ?_ (by with_reducible assumption) | with_reducible refine Dr.trans ?_ (Dr.of_new (by with_reducible assumption)) | with_reducible refine Dr.drewN ?_ _ | with_reducible refine Dr.drew ?_)) hs.out))).mono ?_; rintro e w2 ⟨r, rfl, hb⟩
              first | exact ⟨Dq.of_dr hb (hL9.mono hw.size), _, rfl, _, rfl⟩ | exact ⟨Dq.of_dr hb (hL9.mono hw.size), _, by simp⟩
            · intro a w9 hw ho hk
              refine .inl ⟨by rfl, ?_⟩
              obtain ⟨r50, t50⟩ : ∃ r : Int, (a.tmps[50]?.getD undef) = .int .i64 r := hk 1 50 (by kernel_rfl) rfl
              obtain ⟨r54, t54⟩ : ∃ r : Int, (a.tmps[54]?.getD undef) = .int .i64 r := hk 5 54 (by kernel_rfl) rfl
              go_simp
              first | exact ⟨Dq.refl _ _ _, _, rfl, _, rfl⟩ | exact ⟨Dq.refl _ _ _, _, by simp⟩
            · intro a w9 hw ho hk
              refine .inl ⟨by rfl, ?_⟩
              have s8 := ho 8 rfl
              dsimp at s8
              go_simp
              first | exact ⟨Dq.refl _ _ _, _, rfl, _, rfl⟩ | exact ⟨Dq.refl _ _ _, _, by simp⟩
            · intro a w9 hw ho hk
              refine .inl ⟨by rfl, ?_⟩
              have s4 := ho 4 rfl
              dsimp at s4
              go_simp
              exact Dq.refl _ _ _
            · intro a w9 hw ho hk
              refine .inl ⟨by rfl, ?_⟩
              have t57 : a.tmps[57]?.getD undef = .pointer (some ⟨S, 0, none⟩) := hk 8 57 (by kernel_rfl) rfl
              go_simp
              refine (l01Next_n S _ _ (Dq.src hw (by intro x hx; simp at hx; rcases hx with rfl | rfl <;> first | (simp; done) | (simp; omega) | omega) (Dr.src (by repeat (first | with_reducible refine Dr.setCell ?_ (by first | (simp; done) | (simp; omega) | omega) _ | with_reducible refine Dr.alloc ?_ _ | with_reducible exact Dr.refl _ _ | with_reducible assumption | with_reducible refine Dr.trans ?_ (by with_reducible assumption) | with_reducible refine Dr.trans ?_ (Dr.of_new (by with_reducible assumption)) | with_reducible refine Dr.drewN ?_ _ | with_reducible refine Dr.drew ?_)) hs.out))).mono ?_; rintro e w2 ⟨r, rfl, hb⟩
              first | exact ⟨Dq.of_dr hb (hL9.mono hw.size), _, rfl, _, rfl⟩ | exact ⟨Dq.of_dr hb (hL9.mono hw.size), _, by simp⟩
            · intro a w9 hw ho hk
              refine .inl ⟨by rfl, ?_⟩
              obtain ⟨r58, t58⟩ : ∃ r : Int, (a.tmps[58]?.getD undef) = .int .i64 r := hk 9 58 (by kernel_rfl) rfl
              go_simp
              first | exact ⟨Dq.refl _ _ _, _, rfl, _, rfl⟩ | exact ⟨Dq.refl _ _ _, _, by simp⟩
            · intro a w9 hw ho hk
              refine .inl ⟨by rfl, ?_⟩
              obtain ⟨r56, t56⟩ : ∃ r : Int, (a.tmps[56]?.getD undef) = .int .i64 r := hk 7 56 (by kernel_rfl) rfl
              obtain ⟨r59, t59⟩ : ∃ r : Int, (a.tmps[59]?.getD undef) = .int .i64 r := hk 10 59 (by kernel_rfl) rfl
              go_simp
              first | exact ⟨Dq.refl _ _ _, _, rfl, _, rfl⟩ | exact ⟨Dq.refl _ _ _, _, by simp⟩
            · intro a w9 hw ho hk
              refine .inl ⟨by rfl, ?_⟩
              obtain ⟨r60, t60⟩ : ∃ r : Int, (a.tmps[60]?.getD undef) = .int .i64 r := hk 11 60 (by kernel_rfl) rfl
              go_simp
              first | exact ⟨Dq.refl _ _ _, _, rfl, _, rfl⟩ | exact ⟨Dq.refl _ _ _, _, by simp⟩
            · intro a w9 hw ho hk
              refine .inl ⟨by rfl, ?_⟩
              obtain ⟨r55, t55⟩ : ∃ r : Int, (a.tmps[55]?.getD undef) = .int .i64 r := hk 6 55 (by kernel_rfl) rfl
              obtain ⟨r61, t61⟩ : ∃ r : Int, (a.tmps[61]?.getD undef) = .int .i64 r := hk 12 61 (by kernel_rfl) rfl
              go_simp
              first | exact ⟨Dq.refl _ _ _, _, rfl, _, _, rfl⟩ | exact ⟨Dq.refl _ _ _, _, by simp⟩
            · intro a w9 hw ho hk
              refine .inl ⟨by rfl, ?_⟩
              have s2 := ho 2 rfl
              dsimp at s2
              have t49 : a.tmps[49]?.getD undef = .agg #[.int .i64 k, .int .i64 len, .int .i64 rise, .int .i64 rl, .int .i64 rh, .int .i64 fl, .int .i64 fh] := hk 0 49 (by kernel_rfl) rfl
              rcases Blk.late K9_0 hw (by simp : ((w.heap.size, #[.int .i64 k, .int .i64 len, .int .i64 rise, .int .i64 rl, .int .i64 rh, .int .i64 fl, .int .i64 fh], 46) : Nat × Array Value × TypeId) ∈ ([(w.heap.size, #[.int .i64 k, .int .i64 len, .int .i64 rise, .int .i64 rl, .int .i64 rh, .int .i64 fl, .int .i64 fh], 46)] : Late)) with K9 | K9
              all_goals obtain ⟨c9, f9⟩ := K9.rules
              all_goals go_simp
              all_goals refine Dq.stored2 (b := w.heap.size) (F := #[.int .i64 k, .int .i64 len, .int .i64 rise, .int .i64 rl, .int .i64 rh, .int .i64 fl, .int .i64 fh]) (T := 46) (by repeat (first | with_reducible exact Same1.refl _ _ | with_reducible refine Same1.set ?_ _ _)) ?_ (by simp) (by intro x hx; simp at hx; rcases hx with rfl <;> first | (intro _; rfl) | (intro h; exfalso; simp at h; done) | (intro h; exfalso; simp at h; omega)) (by omega)
              all_goals
                apply blk_cast
                · repeat (first | with_reducible exact K9 | with_reducible apply Blk.set)
                · rfl
          intro w10 b10
          rintro _ rfl
          rintro _ ⟨r50, rfl⟩
          rintro _ rfl
          rintro _ ⟨r52, rfl⟩
          rintro _ ⟨r53, rfl⟩
          rintro _ ⟨r54, rfl⟩
          rintro _ ⟨r55, rfl⟩
          rintro _ ⟨r56, rfl⟩
          rintro _ rfl
          rintro _ ⟨r58, rfl⟩
          rintro _ ⟨r59, rfl⟩
          rintro _ ⟨r60, rfl⟩
          rintro _ ⟨r61, rfl⟩
          rintro _ ⟨x62, y62, rfl⟩
          rintro _ kb0
          obtain ⟨cl0, fl0⟩ := kb0.rules
          have K10_0 := Blk.dq K9_1 b10 (by omega) ⟨by omega, trivial⟩
          obtain ⟨c10_0, f10_0⟩ := K10_0.rules
          simp only [RQ.EndAll, List.nil_append, List.cons_append, List.length_cons, List.length_nil, Nat.zero_add, Nat.reduceAdd, List.take_succ_cons, List.take_zero, List.drop_succ_cons, List.drop_zero, RQ.putAll, Act.put, List.setIfInBounds_toArray, List.set_cons_succ, List.set_cons_zero]
          have n10 : New w w10 := Dq.new (w0 := w) (Dr.new (S := S) (w0 := w) (w := w1) (by repeat (first | with_reducible exact New.refl _ | with_reducible assumption | with_reducible refine New.drew ?_ | with_reducible refine New.drewN ?_ _ | with_reducible refine New.alloc ?_ _ | with_reducible refine New.setCell ?_ (by first | (simp; done) | (simp; omega) | omega) _ | with_reducible refine New.trans ?_ (by with_reducible assumption))) (by repeat (first | with_reducible refine Dr.setCell ?_ (by first | (simp; done) | (simp; omega) | omega) _ | with_reducible refine Dr.alloc ?_ _ | with_reducible exact Dr.refl _ _ | with_reducible assumption | with_reducible refine Dr.trans ?_ (by with_reducible assumption) | with_reducible refine Dr.trans ?_ (Dr.of_new (by with_reducible assumption)) | with_reducible refine Dr.drewN ?_ _ | with_reducible refine Dr.drew ?_)) (by omega)) b10 (by omega) (by intro x hx; simp at hx; subst hx; simp)
          go_wp2_with fail
          apply ret_td rfl (by repeat (first | with_reducible exact New.refl _ | with_reducible assumption | with_reducible refine New.drew ?_ | with_reducible refine New.drewN ?_ _ | with_reducible refine New.alloc ?_ _ | with_reducible refine New.setCell ?_ (by first | (simp; done) | (simp; omega) | omega) _ | with_reducible refine New.trans ?_ (by with_reducible assumption)))
          simp [results, Try.results37, go_sem, cl0, c10_0]
          exact ⟨⟨rfl, rfl, rfl, rfl, rfl, rfl, rfl⟩, rfl, rfl⟩
      · skip
        have hL9 : LateOK S w6 [(w.heap.size, #[.int .i64 k, .int .i64 len, .int .i64 rise, .int .i64 rl, .int .i64 rh, .int .i64 fl, .int .i64 fh], 46), (w.heap.size + 1, #[.int .i64 lo, .int .i64 hi], 42)] := ⟨⟨by omega, by omega⟩, ⟨by omega, by omega⟩, trivial⟩
        have hM9 : ∀ x ∈ ([(w.heap.size, #[.int .i64 k, .int .i64 len, .int .i64 rise, .int .i64 rl, .int .i64 rh, .int .i64 fl, .int .i64 fh], 46), (w.heap.size + 1, #[.int .i64 lo, .int .i64 hi], 42)] : Late), x.1 < w6.heap.size := fun x hx => (LateOK.get hL9 x hx).2
        refine RQ.wp_facts (Dq.ord S [(w.heap.size, #[.int .i64 k, .int .i64 len, .int .i64 rise, .int .i64 rl, .int .i64 rh, .int .i64 fl, .int .i64 fh], 46), (w.heap.size + 1, #[.int .i64 lo, .int .i64 hi], 42)]) [fun X _ => X = .agg #[.int .i64 k, .int .i64 len, .int .i64 rise, .int .i64 rl, .int .i64 rh, .int .i64 fl, .int .i64 fh], fun X _ => X = .agg #[.int .i64 lo, .int .i64 hi], fun X W' => Blk W' (w.heap.size) (#[.int .i64 k, .int .i64 len, .int .i64 rise, .int .i64 rl, .int .i64 rh, .int .i64 fl, .int .i64 fh]) (46), fun X W' => Blk W' (w.heap.size + 1) (#[.int .i64 lo, .int .i64 hi]) (42)] (by kernel_rfl) (by kernel_rfl) ⟨RQ.stable_eq _, RQ.stable_eq _, fun X w0 w1 hn kb0 => Blk.kept kb0 hn (by simp), fun X w0 w1 hn kb1 => Blk.kept kb1 hn (by simp), trivial⟩ ?_ ?_
        · refine ⟨?_, ?_, ?_, ?_, trivial⟩
          · intro a w9 hw ho hk
            refine .inl ⟨by rfl, ?_⟩
            have s5 := ho 5 rfl
            dsimp at s5
            have K9 := Blk.dq K6_2 hw (by omega) ⟨by omega, by omega, trivial⟩
            obtain ⟨c9, f9⟩ := K9.rules
            go_simp
            exact Dq.refl _ _ _
          · intro a w9 hw ho hk
            refine .inl ⟨by rfl, ?_⟩
            have s6 := ho 6 rfl
            dsimp at s6
            have K9 := Blk.dq K6_3 hw (by omega) ⟨by omega, by omega, trivial⟩
            obtain ⟨c9, f9⟩ := K9.rules
            go_simp
            exact Dq.refl _ _ _
          · intro a w9 hw ho hk
            refine .inl ⟨by rfl, ?_⟩
            have s2 := ho 2 rfl
            dsimp at s2
            have t63 : a.tmps[63]?.getD undef = .agg #[.int .i64 k, .int .i64 len, .int .i64 rise, .int .i64 rl, .int .i64 rh, .int .i64 fl, .int .i64 fh] := hk 0 63 (by kernel_rfl) rfl
            rcases Blk.late K6_0 hw (by simp : ((w.heap.size, #[.int .i64 k, .int .i64 len, .int .i64 rise, .int .i64 rl, .int .i64 rh, .int .i64 fl, .int .i64 fh], 46) : Nat × Array Value × TypeId) ∈ ([(w.heap.size, #[.int .i64 k, .int .i64 len, .int .i64 rise, .int .i64 rl, .int .i64 rh, .int .i64 fl, .int .i64 fh], 46), (w.heap.size + 1, #[.int .i64 lo, .int .i64 hi], 42)] : Late)) with K9 | K9
            all_goals obtain ⟨c9, f9⟩ := K9.rules
            all_goals go_simp
            all_goals refine Dq.stored2 (b := w.heap.size) (F := #[.int .i64 k, .int .i64 len, .int .i64 rise, .int .i64 rl, .int .i64 rh, .int .i64 fl, .int .i64 fh]) (T := 46) (by repeat (first | with_reducible exact Same1.refl _ _ | with_reducible refine Same1.set ?_ _ _)) ?_ (by simp) (by intro x hx; simp at hx; rcases hx with rfl | rfl <;> first | (intro _; rfl) | (intro h; exfalso; simp at h; done) | (intro h; exfalso; simp at h; omega)) (by omega)
            all_goals
              apply blk_cast
              · repeat (first | with_reducible exact K9 | with_reducible apply Blk.set)
              · rfl
          · intro a w9 hw ho hk
            refine .inl ⟨by rfl, ?_⟩
            have s3 := ho 3 rfl
            dsimp at s3
            have t64 : a.tmps[64]?.getD undef = .agg #[.int .i64 lo, .int .i64 hi] := hk 1 64 (by kernel_rfl) rfl
            rcases Blk.late K6_1 hw (by simp : ((w.heap.size + 1, #[.int .i64 lo, .int .i64 hi], 42) : Nat × Array Value × TypeId) ∈ ([(w.heap.size, #[.int .i64 k, .int .i64 len, .int .i64 rise, .int .i64 rl, .int .i64 rh, .int .i64 fl, .int .i64 fh], 46), (w.heap.size + 1, #[.int .i64 lo, .int .i64 hi], 42)] : Late)) with K9 | K9
            all_goals obtain ⟨c9, f9⟩ := K9.rules
            all_goals go_simp
            all_goals refine Dq.stored2 (b := w.heap.size + 1) (F := #[.int .i64 lo, .int .i64 hi]) (T := 42) (by repeat (first | with_reducible exact Same1.refl _ _ | with_reducible refine Same1.set ?_ _ _)) ?_ (by simp) (by intro x hx; simp at hx; rcases hx with rfl | rfl <;> first | (intro _; rfl) | (intro h; exfalso; simp at h; done) | (intro h; exfalso; simp at h; omega)) (by omega)
            all_goals
              apply blk_cast
              · repeat (first | with_reducible exact K9 | with_reducible apply Blk.set)
              · rfl
        intro w9 b9
        rintro _ rfl
        rintro _ rfl
        rintro _ kb0
        rintro _ kb1
        obtain ⟨cl0, fl0⟩ := kb0.rules
        obtain ⟨cl1, fl1⟩ := kb1.rules
        simp only [RQ.EndAll, List.nil_append, List.cons_append, List.length_cons, List.length_nil, Nat.zero_add, Nat.reduceAdd, List.take_succ_cons, List.take_zero, List.drop_succ_cons, List.drop_zero, RQ.putAll, Act.put, List.setIfInBounds_toArray, List.set_cons_succ, List.set_cons_zero]
        go_wp2_with fail
        apply ret_td rfl (Dq.new (w0 := w) (Dr.new (S := S) (w0 := w) (w := w1) (by repeat (first | with_reducible exact New.refl _ | with_reducible assumption | with_reducible refine New.drew ?_ | with_reducible refine New.drewN ?_ _ | with_reducible refine New.alloc ?_ _ | with_reducible refine New.setCell ?_ (by first | (simp; done) | (simp; omega) | omega) _ | with_reducible refine New.trans ?_ (by with_reducible assumption))) (by repeat (first | with_reducible refine Dr.setCell ?_ (by first | (simp; done) | (simp; omega) | omega) _ | with_reducible refine Dr.alloc ?_ _ | with_reducible exact Dr.refl _ _ | with_reducible assumption | with_reducible refine Dr.trans ?_ (by with_reducible assumption) | with_reducible refine Dr.trans ?_ (Dr.of_new (by with_reducible assumption)) | with_reducible refine Dr.drewN ?_ _ | with_reducible refine Dr.drew ?_)) (by omega)) b9 (by omega) (by intro x hx; simp at hx; rcases hx with rfl | rfl <;> simp))
        simp [results, Try.results37, go_sem, cl0, cl1]
        exact ⟨⟨rfl, rfl, rfl, rfl, rfl, rfl, rfl⟩, rfl, rfl⟩
    · skip
      have hL9 : LateOK S w5 [(w.heap.size, #[.int .i64 k, .int .i64 len, .int .i64 rise, .int .i64 rl, .int .i64 rh, .int .i64 fl, .int .i64 fh], 46), (w.heap.size + 1, #[.int .i64 lo, .int .i64 hi], 42)] := ⟨⟨by omega, by omega⟩, ⟨by omega, by omega⟩, trivial⟩
      have hM9 : ∀ x ∈ ([(w.heap.size, #[.int .i64 k, .int .i64 len, .int .i64 rise, .int .i64 rl, .int .i64 rh, .int .i64 fl, .int .i64 fh], 46), (w.heap.size + 1, #[.int .i64 lo, .int .i64 hi], 42)] : Late), x.1 < w5.heap.size := fun x hx => (LateOK.get hL9 x hx).2
      refine RQ.wp_facts (Dq.ord S [(w.heap.size, #[.int .i64 k, .int .i64 len, .int .i64 rise, .int .i64 rl, .int .i64 rh, .int .i64 fl, .int .i64 fh], 46), (w.heap.size + 1, #[.int .i64 lo, .int .i64 hi], 42)]) [fun X _ => X = .agg #[.int .i64 k, .int .i64 len, .int .i64 rise, .int .i64 rl, .int .i64 rh, .int .i64 fl, .int .i64 fh], fun X _ => X = .agg #[.int .i64 lo, .int .i64 hi], fun X W' => Blk W' (w.heap.size) (#[.int .i64 k, .int .i64 len, .int .i64 rise, .int .i64 rl, .int .i64 rh, .int .i64 fl, .int .i64 fh]) (46), fun X W' => Blk W' (w.heap.size + 1) (#[.int .i64 lo, .int .i64 hi]) (42)] (by kernel_rfl) (by kernel_rfl) ⟨RQ.stable_eq _, RQ.stable_eq _, fun X w0 w1 hn kb0 => Blk.kept kb0 hn (by simp), fun X w0 w1 hn kb1 => Blk.kept kb1 hn (by simp), trivial⟩ ?_ ?_
      · refine ⟨?_, ?_, ?_, ?_, trivial⟩
        · intro a w9 hw ho hk
          refine .inl ⟨by rfl, ?_⟩
          have s5 := ho 5 rfl
          dsimp at s5
          have K9 := Blk.dq K5_2 hw (by omega) ⟨by omega, by omega, trivial⟩
          obtain ⟨c9, f9⟩ := K9.rules
          go_simp
          exact Dq.refl _ _ _
        · intro a w9 hw ho hk
          refine .inl ⟨by rfl, ?_⟩
          have s6 := ho 6 rfl
          dsimp at s6
          have K9 := Blk.dq K5_3 hw (by omega) ⟨by omega, by omega, trivial⟩
          obtain ⟨c9, f9⟩ := K9.rules
          go_simp
          exact Dq.refl _ _ _
        · intro a w9 hw ho hk
          refine .inl ⟨by rfl, ?_⟩
          have s2 := ho 2 rfl
          dsimp at s2
          have t63 : a.tmps[63]?.getD undef = .agg #[.int .i64 k, .int .i64 len, .int .i64 rise, .int .i64 rl, .int .i64 rh, .int .i64 fl, .int .i64 fh] := hk 0 63 (by kernel_rfl) rfl
          rcases Blk.late K5_0 hw (by simp : ((w.heap.size, #[.int .i64 k, .int .i64 len, .int .i64 rise, .int .i64 rl, .int .i64 rh, .int .i64 fl, .int .i64 fh], 46) : Nat × Array Value × TypeId) ∈ ([(w.heap.size, #[.int .i64 k, .int .i64 len, .int .i64 rise, .int .i64 rl, .int .i64 rh, .int .i64 fl, .int .i64 fh], 46), (w.heap.size + 1, #[.int .i64 lo, .int .i64 hi], 42)] : Late)) with K9 | K9
          all_goals obtain ⟨c9, f9⟩ := K9.rules
          all_goals go_simp
          all_goals refine Dq.stored2 (b := w.heap.size) (F := #[.int .i64 k, .int .i64 len, .int .i64 rise, .int .i64 rl, .int .i64 rh, .int .i64 fl, .int .i64 fh]) (T := 46) (by repeat (first | with_reducible exact Same1.refl _ _ | with_reducible refine Same1.set ?_ _ _)) ?_ (by simp) (by intro x hx; simp at hx; rcases hx with rfl | rfl <;> first | (intro _; rfl) | (intro h; exfalso; simp at h; done) | (intro h; exfalso; simp at h; omega)) (by omega)
          all_goals
            apply blk_cast
            · repeat (first | with_reducible exact K9 | with_reducible apply Blk.set)
            · rfl
        · intro a w9 hw ho hk
          refine .inl ⟨by rfl, ?_⟩
          have s3 := ho 3 rfl
          dsimp at s3
          have t64 : a.tmps[64]?.getD undef = .agg #[.int .i64 lo, .int .i64 hi] := hk 1 64 (by kernel_rfl) rfl
          rcases Blk.late K5_1 hw (by simp : ((w.heap.size + 1, #[.int .i64 lo, .int .i64 hi], 42) : Nat × Array Value × TypeId) ∈ ([(w.heap.size, #[.int .i64 k, .int .i64 len, .int .i64 rise, .int .i64 rl, .int .i64 rh, .int .i64 fl, .int .i64 fh], 46), (w.heap.size + 1, #[.int .i64 lo, .int .i64 hi], 42)] : Late)) with K9 | K9
          all_goals obtain ⟨c9, f9⟩ := K9.rules
          all_goals go_simp
          all_goals refine Dq.stored2 (b := w.heap.size + 1) (F := #[.int .i64 lo, .int .i64 hi]) (T := 42) (by repeat (first | with_reducible exact Same1.refl _ _ | with_reducible refine Same1.set ?_ _ _)) ?_ (by simp) (by intro x hx; simp at hx; rcases hx with rfl | rfl <;> first | (intro _; rfl) | (intro h; exfalso; simp at h; done) | (intro h; exfalso; simp at h; omega)) (by omega)
          all_goals
            apply blk_cast
            · repeat (first | with_reducible exact K9 | with_reducible apply Blk.set)
            · rfl
      intro w9 b9
      rintro _ rfl
      rintro _ rfl
      rintro _ kb0
      rintro _ kb1
      obtain ⟨cl0, fl0⟩ := kb0.rules
      obtain ⟨cl1, fl1⟩ := kb1.rules
      simp only [RQ.EndAll, List.nil_append, List.cons_append, List.length_cons, List.length_nil, Nat.zero_add, Nat.reduceAdd, List.take_succ_cons, List.take_zero, List.drop_succ_cons, List.drop_zero, RQ.putAll, Act.put, List.setIfInBounds_toArray, List.set_cons_succ, List.set_cons_zero]
      go_wp2_with fail
      apply ret_td rfl (Dq.new (w0 := w) (Dr.new (S := S) (w0 := w) (w := w1) (by repeat (first | with_reducible exact New.refl _ | with_reducible assumption | with_reducible refine New.drew ?_ | with_reducible refine New.drewN ?_ _ | with_reducible refine New.alloc ?_ _ | with_reducible refine New.setCell ?_ (by first | (simp; done) | (simp; omega) | omega) _ | with_reducible refine New.trans ?_ (by with_reducible assumption))) (by repeat (first | with_reducible refine Dr.setCell ?_ (by first | (simp; done) | (simp; omega) | omega) _ | with_reducible refine Dr.alloc ?_ _ | with_reducible exact Dr.refl _ _ | with_reducible assumption | with_reducible refine Dr.trans ?_ (by with_reducible assumption) | with_reducible refine Dr.trans ?_ (Dr.of_new (by with_reducible assumption)) | with_reducible refine Dr.drewN ?_ _ | with_reducible refine Dr.drew ?_)) (by omega)) b9 (by omega) (by intro x hx; simp at hx; rcases hx with rfl | rfl <;> simp))
      simp [results, Try.results37, go_sem, cl0, cl1]
      exact ⟨⟨rfl, rfl, rfl, rfl, rfl, rfl, rfl⟩, rfl, rfl⟩
  · skip
    refine (l06Draw_any S _ (Dr.src ?hs11 hs.out)).mono ?_
    case hs11 => exact (by repeat (first | with_reducible refine Dr.setCell ?_ (by first | (simp; done) | (simp; omega) | omega) _ | with_reducible refine Dr.alloc ?_ _ | with_reducible exact Dr.refl _ _ | with_reducible assumption | with_reducible refine Dr.trans ?_ (by with_reducible assumption) | with_reducible refine Dr.trans ?_ (Dr.of_new (by with_reducible assumption)) | with_reducible refine Dr.drewN ?_ _ | with_reducible refine Dr.drew ?_))
    rintro e w4 ⟨lo, hi, rfl, b4⟩
    have z4 := b4.size
    try simp only [World.size_alloc, World.size_drew, World.heap_drewN, World.size_setCell] at z4
    have z4_0 : w.heap.size < w4.heap.size := by omega
    apply Blk.use (w := w4) (b := w.heap.size)
    · repeat (first | with_reducible assumption | with_reducible exact Blk.alloc_at (by first | rfl | (simp; done) | (simp; omega)) | with_reducible apply Blk.alloc | with_reducible apply Blk.drew | with_reducible apply Blk.drewN | with_reducible apply Blk.set | ((with_reducible apply Blk.set_ne); rotate_left; (focus omega)) | ((with_reducible apply Blk.dr); rotate_left; (focus (with_reducible assumption)); (focus omega)) | ((with_reducible apply Blk.new); rotate_left; (focus (with_reducible assumption))))
    intro K4_0
    try simp only [List.setIfInBounds_toArray, List.set_cons_succ, List.set_cons_zero] at K4_0
    obtain ⟨c4_0, f4_0⟩ := K4_0.rules
    have z4_1 : w.heap.size + 1 < w4.heap.size := by omega
    apply Blk.use (w := w4) (b := w.heap.size + 1)
    · repeat (first | with_reducible assumption | with_reducible exact Blk.alloc_at (by first | rfl | (simp; done) | (simp; omega)) | with_reducible apply Blk.alloc | with_reducible apply Blk.drew | with_reducible apply Blk.drewN | with_reducible apply Blk.set | ((with_reducible apply Blk.set_ne); rotate_left; (focus omega)) | ((with_reducible apply Blk.dr); rotate_left; (focus (with_reducible assumption)); (focus omega)) | ((with_reducible apply Blk.new); rotate_left; (focus (with_reducible assumption))))
    intro K4_1
    try simp only [List.setIfInBounds_toArray, List.set_cons_succ, List.set_cons_zero] at K4_1
    obtain ⟨c4_1, f4_1⟩ := K4_1.rules
    have z4_2 : w2.heap.size < w4.heap.size := by omega
    apply Blk.use (w := w4) (b := w2.heap.size)
    · repeat (first | with_reducible assumption | with_reducible exact Blk.alloc_at (by first | rfl | (simp; done) | (simp; omega)) | with_reducible apply Blk.alloc | with_reducible apply Blk.drew | with_reducible apply Blk.drewN | with_reducible apply Blk.set | ((with_reducible apply Blk.set_ne); rotate_left; (focus omega)) | ((with_reducible apply Blk.dr); rotate_left; (focus (with_reducible assumption)); (focus omega)) | ((with_reducible apply Blk.new); rotate_left; (focus (with_reducible assumption))))
    intro K4_2
    try simp only [List.setIfInBounds_toArray, List.set_cons_succ, List.set_cons_zero] at K4_2
    obtain ⟨c4_2, f4_2⟩ := K4_2.rules
    try clear c3_0 f3_0 K3_0
    try clear c3_1 f3_1 K3_1
    try clear c3_2 f3_2 K3_2
    try clear c3_3 f3_3 K3_3
    try clear c3_4 f3_4 K3_4
    try clear c3_5 f3_5 K3_5
    try clear c2_0 f2_0 K2_0
    try clear c2_1 f2_1 K2_1
    try clear c2_2 f2_2 K2_2
    try clear c2_3 f2_3 K2_3
    try clear c2_4 f2_4 K2_4
    try clear c2_5 f2_5 K2_5
    try clear c1_0 f1_0 K1_0
    try clear c1_1 f1_1 K1_1
    try clear c1_2 f1_2 K1_2
    try clear c1_3 f1_3 K1_3
    try clear c1_4 f1_4 K1_4
    try clear c1_5 f1_5 K1_5
    have y4 : S < w4.heap.size := by omega
    go_wp2_with fail
    refine (sIsSegment_any _ _ _ _ _ _ _ _).mono ?_
    rintro e w5 ⟨rfl, n5⟩
    have b5 := Dr.of_new (S := S) n5
    have z5 := b5.size
    try simp only [World.size_alloc, World.size_drew, World.heap_drewN, World.size_setCell] at z5
    have z5_0 : w.heap.size < w5.heap.size := by omega
    apply Blk.use (w := w5) (b := w.heap.size)
    · repeat (first | with_reducible assumption | with_reducible exact Blk.alloc_at (by first | rfl | (simp; done) | (simp; omega)) | with_reducible apply Blk.alloc | with_reducible apply Blk.drew | with_reducible apply Blk.drewN | with_reducible apply Blk.set | ((with_reducible apply Blk.set_ne); rotate_left; (focus omega)) | ((with_reducible apply Blk.dr); rotate_left; (focus (with_reducible assumption)); (focus omega)) | ((with_reducible apply Blk.new); rotate_left; (focus (with_reducible assumption))))
    intro K5_0
    try simp only [List.setIfInBounds_toArray, List.set_cons_succ, List.set_cons_zero] at K5_0
    obtain ⟨c5_0, f5_0⟩ := K5_0.rules
    have z5_1 : w.heap.size + 1 < w5.heap.size := by omega
    apply Blk.use (w := w5) (b := w.heap.size + 1)
    · repeat (first | with_reducible assumption | with_reducible exact Blk.alloc_at (by first | rfl | (simp; done) | (simp; omega)) | with_reducible apply Blk.alloc | with_reducible apply Blk.drew | with_reducible apply Blk.drewN | with_reducible apply Blk.set | ((with_reducible apply Blk.set_ne); rotate_left; (focus omega)) | ((with_reducible apply Blk.dr); rotate_left; (focus (with_reducible assumption)); (focus omega)) | ((with_reducible apply Blk.new); rotate_left; (focus (with_reducible assumption))))
    intro K5_1
    try simp only [List.setIfInBounds_toArray, List.set_cons_succ, List.set_cons_zero] at K5_1
    obtain ⟨c5_1, f5_1⟩ := K5_1.rules
    have z5_2 : w2.heap.size < w5.heap.size := by omega
    apply Blk.use (w := w5) (b := w2.heap.size)
    · repeat (first | with_reducible assumption | with_reducible exact Blk.alloc_at (by first | rfl | (simp; done) | (simp; omega)) | with_reducible apply Blk.alloc | with_reducible apply Blk.drew | with_reducible apply Blk.drewN | with_reducible apply Blk.set | ((with_reducible apply Blk.set_ne); rotate_left; (focus omega)) | ((with_reducible apply Blk.dr); rotate_left; (focus (with_reducible assumption)); (focus omega)) | ((with_reducible apply Blk.new); rotate_left; (focus (with_reducible assumption))))
    intro K5_2
    try simp only [List.setIfInBounds_toArray, List.set_cons_succ, List.set_cons_zero] at K5_2
    obtain ⟨c5_2, f5_2⟩ := K5_2.rules
    have z5_3 : w4.heap.size < w5.heap.size := by omega
    apply Blk.use (w := w5) (b := w4.heap.size)
    · repeat (first | with_reducible assumption | with_reducible exact Blk.alloc_at (by first | rfl | (simp; done) | (simp; omega)) | with_reducible apply Blk.alloc | with_reducible apply Blk.drew | with_reducible apply Blk.drewN | with_reducible apply Blk.set | ((with_reducible apply Blk.set_ne); rotate_left; (focus omega)) | ((with_reducible apply Blk.dr); rotate_left; (focus (with_reducible assumption)); (focus omega)) | ((with_reducible apply Blk.new); rotate_left; (focus (with_reducible assumption))))
    intro K5_3
    try simp only [List.setIfInBounds_toArray, List.set_cons_succ, List.set_cons_zero] at K5_3
    obtain ⟨c5_3, f5_3⟩ := K5_3.rules
    try clear c4_0 f4_0 K4_0
    try clear c4_1 f4_1 K4_1
    try clear c4_2 f4_2 K4_2
    try clear c4_3 f4_3 K4_3
    try clear c4_4 f4_4 K4_4
    try clear c4_5 f4_5 K4_5
    try clear c3_0 f3_0 K3_0
    try clear c3_1 f3_1 K3_1
    try clear c3_2 f3_2 K3_2
    try clear c3_3 f3_3 K3_3
    try clear c3_4 f3_4 K3_4
    try clear c3_5 f3_5 K3_5
    try clear c2_0 f2_0 K2_0
    try clear c2_1 f2_1 K2_1
    try clear c2_2 f2_2 K2_2
    try clear c2_3 f2_3 K2_3
    try clear c2_4 f2_4 K2_4
    try clear c2_5 f2_5 K2_5
    have y5 : S < w5.heap.size := by omega
    go_wp2_with fail
    · skip
      refine (l01Next_n S _ _ (Dr.src ?hs12 hs.out)).mono ?_
      case hs12 => exact (by repeat (first | with_reducible refine Dr.setCell ?_ (by first | (simp; done) | (simp; omega) | omega) _ | with_reducible refine Dr.alloc ?_ _ | with_reducible exact Dr.refl _ _ | with_reducible assumption | with_reducible refine Dr.trans ?_ (by with_reducible assumption) | with_reducible refine Dr.trans ?_ (Dr.of_new (by with_reducible assumption)) | with_reducible refine Dr.drewN ?_ _ | with_reducible refine Dr.drew ?_))
      rintro e w6 ⟨r6, rfl, b6⟩
      have z6 := b6.size
      try simp only [World.size_alloc, World.size_drew, World.heap_drewN, World.size_setCell] at z6
      have z6_0 : w.heap.size < w6.heap.size := by omega
      apply Blk.use (w := w6) (b := w.heap.size)
      · repeat (first | with_reducible assumption | with_reducible exact Blk.alloc_at (by first | rfl | (simp; done) | (simp; omega)) | with_reducible apply Blk.alloc | with_reducible apply Blk.drew | with_reducible apply Blk.drewN | with_reducible apply Blk.set | ((with_reducible apply Blk.set_ne); rotate_left; (focus omega)) | ((with_reducible apply Blk.dr); rotate_left; (focus (with_reducible assumption)); (focus omega)) | ((with_reducible apply Blk.new); rotate_left; (focus (with_reducible assumption))))
      intro K6_0
      try simp only [List.setIfInBounds_toArray, List.set_cons_succ, List.set_cons_zero] at K6_0
      obtain ⟨c6_0, f6_0⟩ := K6_0.rules
      have z6_1 : w.heap.size + 1 < w6.heap.size := by omega
      apply Blk.use (w := w6) (b := w.heap.size + 1)
      · repeat (first | with_reducible assumption | with_reducible exact Blk.alloc_at (by first | rfl | (simp; done) | (simp; omega)) | with_reducible apply Blk.alloc | with_reducible apply Blk.drew | with_reducible apply Blk.drewN | with_reducible apply Blk.set | ((with_reducible apply Blk.set_ne); rotate_left; (focus omega)) | ((with_reducible apply Blk.dr); rotate_left; (focus (with_reducible assumption)); (focus omega)) | ((with_reducible apply Blk.new); rotate_left; (focus (with_reducible assumption))))
      intro K6_1
      try simp only [List.setIfInBounds_toArray, List.set_cons_succ, List.set_cons_zero] at K6_1
      obtain ⟨c6_1, f6_1⟩ := K6_1.rules
      have z6_2 : w2.heap.size < w6.heap.size := by omega
      apply Blk.use (w := w6) (b := w2.heap.size)
      · repeat (first | with_reducible assumption | with_reducible exact Blk.alloc_at (by first | rfl | (simp; done) | (simp; omega)) | with_reducible apply Blk.alloc | with_reducible apply Blk.drew | with_reducible apply Blk.drewN | with_reducible apply Blk.set | ((with_reducible apply Blk.set_ne); rotate_left; (focus omega)) | ((with_reducible apply Blk.dr); rotate_left; (focus (with_reducible assumption)); (focus omega)) | ((with_reducible apply Blk.new); rotate_left; (focus (with_reducible assumption))))
      intro K6_2
      try simp only [List.setIfInBounds_toArray, List.set_cons_succ, List.set_cons_zero] at K6_2
      obtain ⟨c6_2, f6_2⟩ := K6_2.rules
      have z6_3 : w4.heap.size < w6.heap.size := by omega
      apply Blk.use (w := w6) (b := w4.heap.size)
      · repeat (first | with_reducible assumption | with_reducible exact Blk.alloc_at (by first | rfl | (simp; done) | (simp; omega)) | with_reducible apply Blk.alloc | with_reducible apply Blk.drew | with_reducible apply Blk.drewN | with_reducible apply Blk.set | ((with_reducible apply Blk.set_ne); rotate_left; (focus omega)) | ((with_reducible apply Blk.dr); rotate_left; (focus (with_reducible assumption)); (focus omega)) | ((with_reducible apply Blk.new); rotate_left; (focus (with_reducible assumption))))
      intro K6_3
      try simp only [List.setIfInBounds_toArray, List.set_cons_succ, List.set_cons_zero] at K6_3
      obtain ⟨c6_3, f6_3⟩ := K6_3.rules
      try clear c5_0 f5_0 K5_0
      try clear c5_1 f5_1 K5_1
      try clear c5_2 f5_2 K5_2
      try clear c5_3 f5_3 K5_3
      try clear c5_4 f5_4 K5_4
      try clear c5_5 f5_5 K5_5
      try clear c4_0 f4_0 K4_0
      try clear c4_1 f4_1 K4_1
      try clear c4_2 f4_2 K4_2
      try clear c4_3 f4_3 K4_3
      try clear c4_4 f4_4 K4_4
      try clear c4_5 f4_5 K4_5
      try clear c3_0 f3_0 K3_0
      try clear c3_1 f3_1 K3_1
      try clear c3_2 f3_2 K3_2
      try clear c3_3 f3_3 K3_3
      try clear c3_4 f3_4 K3_4
      try clear c3_5 f3_5 K3_5
      have y6 : S < w6.heap.size := by omega
      go_wp2_with fail
      · skip
        refine (l06ChangeW_any _ _ _ _ _ _ _ _).mono ?_
        rintro e w7 ⟨x7, y7, rfl, n7⟩
        have b7 := Dr.of_new (S := S) n7
        have z7 := b7.size
        try simp only [World.size_alloc, World.size_drew, World.heap_drewN, World.size_setCell] at z7
        have z7_0 : w.heap.size < w7.heap.size := by omega
        apply Blk.use (w := w7) (b := w.heap.size)
        · repeat (first | with_reducible assumption | with_reducible exact Blk.alloc_at (by first | rfl | (simp; done) | (simp; omega)) | with_reducible apply Blk.alloc | with_reducible apply Blk.drew | with_reducible apply Blk.drewN | with_reducible apply Blk.set | ((with_reducible apply Blk.set_ne); rotate_left; (focus omega)) | ((with_reducible apply Blk.dr); rotate_left; (focus (with_reducible assumption)); (focus omega)) | ((with_reducible apply Blk.new); rotate_left; (focus (with_reducible assumption))))
        intro K7_0
        try simp only [List.setIfInBounds_toArray, List.set_cons_succ, List.set_cons_zero] at K7_0
        obtain ⟨c7_0, f7_0⟩ := K7_0.rules
        have z7_1 : w.heap.size + 1 < w7.heap.size := by omega
        apply Blk.use (w := w7) (b := w.heap.size + 1)
        · repeat (first | with_reducible assumption | with_reducible exact Blk.alloc_at (by first | rfl | (simp; done) | (simp; omega)) | with_reducible apply Blk.alloc | with_reducible apply Blk.drew | with_reducible apply Blk.drewN | with_reducible apply Blk.set | ((with_reducible apply Blk.set_ne); rotate_left; (focus omega)) | ((with_reducible apply Blk.dr); rotate_left; (focus (with_reducible assumption)); (focus omega)) | ((with_reducible apply Blk.new); rotate_left; (focus (with_reducible assumption))))
        intro K7_1
        try simp only [List.setIfInBounds_toArray, List.set_cons_succ, List.set_cons_zero] at K7_1
        obtain ⟨c7_1, f7_1⟩ := K7_1.rules
        have z7_2 : w2.heap.size < w7.heap.size := by omega
        apply Blk.use (w := w7) (b := w2.heap.size)
        · repeat (first | with_reducible assumption | with_reducible exact Blk.alloc_at (by first | rfl | (simp; done) | (simp; omega)) | with_reducible apply Blk.alloc | with_reducible apply Blk.drew | with_reducible apply Blk.drewN | with_reducible apply Blk.set | ((with_reducible apply Blk.set_ne); rotate_left; (focus omega)) | ((with_reducible apply Blk.dr); rotate_left; (focus (with_reducible assumption)); (focus omega)) | ((with_reducible apply Blk.new); rotate_left; (focus (with_reducible assumption))))
        intro K7_2
        try simp only [List.setIfInBounds_toArray, List.set_cons_succ, List.set_cons_zero] at K7_2
        obtain ⟨c7_2, f7_2⟩ := K7_2.rules
        have z7_3 : w4.heap.size < w7.heap.size := by omega
        apply Blk.use (w := w7) (b := w4.heap.size)
        · repeat (first | with_reducible assumption | with_reducible exact Blk.alloc_at (by first | rfl | (simp; done) | (simp; omega)) | with_reducible apply Blk.alloc | with_reducible apply Blk.drew | with_reducible apply Blk.drewN | with_reducible apply Blk.set | ((with_reducible apply Blk.set_ne); rotate_left; (focus omega)) | ((with_reducible apply Blk.dr); rotate_left; (focus (with_reducible assumption)); (focus omega)) | ((with_reducible apply Blk.new); rotate_left; (focus (with_reducible assumption))))
        intro K7_3
        try simp only [List.setIfInBounds_toArray, List.set_cons_succ, List.set_cons_zero] at K7_3
        obtain ⟨c7_3, f7_3⟩ := K7_3.rules
        try clear c6_0 f6_0 K6_0
        try clear c6_1 f6_1 K6_1
        try clear c6_2 f6_2 K6_2
        try clear c6_3 f6_3 K6_3
        try clear c6_4 f6_4 K6_4
        try clear c6_5 f6_5 K6_5
        try clear c5_0 f5_0 K5_0
        try clear c5_1 f5_1 K5_1
        try clear c5_2 f5_2 K5_2
        try clear c5_3 f5_3 K5_3
        try clear c5_4 f5_4 K5_4
        try clear c5_5 f5_5 K5_5
        try clear c4_0 f4_0 K4_0
        try clear c4_1 f4_1 K4_1
        try clear c4_2 f4_2 K4_2
        try clear c4_3 f4_3 K4_3
        try clear c4_4 f4_4 K4_4
        try clear c4_5 f4_5 K4_5
        have y7 : S < w7.heap.size := by omega
        go_wp2_with fail
        all_goals
          refine (l01Next_n S _ _ (Dr.src ?hs13 hs.out)).mono ?_
          case hs13 => exact (by repeat (first | with_reducible refine Dr.setCell ?_ (by first | (simp; done) | (simp; omega) | omega) _ | with_reducible refine Dr.alloc ?_ _ | with_reducible exact Dr.refl _ _ | with_reducible assumption | with_reducible refine Dr.trans ?_ (by with_reducible assumption) | with_reducible refine Dr.trans ?_ (Dr.of_new (by with_reducible assumption)) | with_reducible refine Dr.drewN ?_ _ | with_reducible refine Dr.drew ?_))
          rintro e w8 ⟨r8, rfl, b8⟩
          have z8 := b8.size
          try simp only [World.size_alloc, World.size_drew, World.heap_drewN, World.size_setCell] at z8
          have z8_0 : w.heap.size < w8.heap.size := by omega
          apply Blk.use (w := w8) (b := w.heap.size)
          · repeat (first | with_reducible assumption | with_reducible exact Blk.alloc_at (by first | rfl | (simp; done) | (simp; omega)) | with_reducible apply Blk.alloc | with_reducible apply Blk.drew | with_reducible apply Blk.drewN | with_reducible apply Blk.set | ((with_reducible apply Blk.set_ne); rotate_left; (focus omega)) | ((with_reducible apply Blk.dr); rotate_left; (focus (with_reducible assumption)); (focus omega)) | ((with_reducible apply Blk.new); rotate_left; (focus (with_reducible assumption))))
          intro K8_0
          try simp only [List.setIfInBounds_toArray, List.set_cons_succ, List.set_cons_zero] at K8_0
          obtain ⟨c8_0, f8_0⟩ := K8_0.rules
          have z8_1 : w.heap.size + 1 < w8.heap.size := by omega
          apply Blk.use (w := w8) (b := w.heap.size + 1)
          · repeat (first | with_reducible assumption | with_reducible exact Blk.alloc_at (by first | rfl | (simp; done) | (simp; omega)) | with_reducible apply Blk.alloc | with_reducible apply Blk.drew | with_reducible apply Blk.drewN | with_reducible apply Blk.set | ((with_reducible apply Blk.set_ne); rotate_left; (focus omega)) | ((with_reducible apply Blk.dr); rotate_left; (focus (with_reducible assumption)); (focus omega)) | ((with_reducible apply Blk.new); rotate_left; (focus (with_reducible assumption))))
          intro K8_1
          try simp only [List.setIfInBounds_toArray, List.set_cons_succ, List.set_cons_zero] at K8_1
          obtain ⟨c8_1, f8_1⟩ := K8_1.rules
          have z8_2 : w2.heap.size < w8.heap.size := by omega
          apply Blk.use (w := w8) (b := w2.heap.size)
          · repeat (first | with_reducible assumption | with_reducible exact Blk.alloc_at (by first | rfl | (simp; done) | (simp; omega)) | with_reducible apply Blk.alloc | with_reducible apply Blk.drew | with_reducible apply Blk.drewN | with_reducible apply Blk.set | ((with_reducible apply Blk.set_ne); rotate_left; (focus omega)) | ((with_reducible apply Blk.dr); rotate_left; (focus (with_reducible assumption)); (focus omega)) | ((with_reducible apply Blk.new); rotate_left; (focus (with_reducible assumption))))
          intro K8_2
          try simp only [List.setIfInBounds_toArray, List.set_cons_succ, List.set_cons_zero] at K8_2
          obtain ⟨c8_2, f8_2⟩ := K8_2.rules
          have z8_3 : w4.heap.size < w8.heap.size := by omega
          apply Blk.use (w := w8) (b := w4.heap.size)
          · repeat (first | with_reducible assumption | with_reducible exact Blk.alloc_at (by first | rfl | (simp; done) | (simp; omega)) | with_reducible apply Blk.alloc | with_reducible apply Blk.drew | with_reducible apply Blk.drewN | with_reducible apply Blk.set | ((with_reducible apply Blk.set_ne); rotate_left; (focus omega)) | ((with_reducible apply Blk.dr); rotate_left; (focus (with_reducible assumption)); (focus omega)) | ((with_reducible apply Blk.new); rotate_left; (focus (with_reducible assumption))))
          intro K8_3
          try simp only [List.setIfInBounds_toArray, List.set_cons_succ, List.set_cons_zero] at K8_3
          obtain ⟨c8_3, f8_3⟩ := K8_3.rules
          try clear c7_0 f7_0 K7_0
          try clear c7_1 f7_1 K7_1
          try clear c7_2 f7_2 K7_2
          try clear c7_3 f7_3 K7_3
          try clear c7_4 f7_4 K7_4
          try clear c7_5 f7_5 K7_5
          try clear c6_0 f6_0 K6_0
          try clear c6_1 f6_1 K6_1
          try clear c6_2 f6_2 K6_2
          try clear c6_3 f6_3 K6_3
          try clear c6_4 f6_4 K6_4
          try clear c6_5 f6_5 K6_5
          try clear c5_0 f5_0 K5_0
          try clear c5_1 f5_1 K5_1
          try clear c5_2 f5_2 K5_2
          try clear c5_3 f5_3 K5_3
          try clear c5_4 f5_4 K5_4
          try clear c5_5 f5_5 K5_5
          have y8 : S < w8.heap.size := by omega
          go_wp2_with fail
          refine (l01Next_n S _ _ (Dr.src ?hs14 hs.out)).mono ?_
          case hs14 => exact (by repeat (first | with_reducible refine Dr.setCell ?_ (by first | (simp; done) | (simp; omega) | omega) _ | with_reducible refine Dr.alloc ?_ _ | with_reducible exact Dr.refl _ _ | with_reducible assumption | with_reducible refine Dr.trans ?_ (by with_reducible assumption) | with_reducible refine Dr.trans ?_ (Dr.of_new (by with_reducible assumption)) | with_reducible refine Dr.drewN ?_ _ | with_reducible refine Dr.drew ?_))
          rintro e w9 ⟨r9, rfl, b9⟩
          have z9 := b9.size
          try simp only [World.size_alloc, World.size_drew, World.heap_drewN, World.size_setCell] at z9
          have z9_0 : w.heap.size < w9.heap.size := by omega
          apply Blk.use (w := w9) (b := w.heap.size)
          · repeat (first | with_reducible assumption | with_reducible exact Blk.alloc_at (by first | rfl | (simp; done) | (simp; omega)) | with_reducible apply Blk.alloc | with_reducible apply Blk.drew | with_reducible apply Blk.drewN | with_reducible apply Blk.set | ((with_reducible apply Blk.set_ne); rotate_left; (focus omega)) | ((with_reducible apply Blk.dr); rotate_left; (focus (with_reducible assumption)); (focus omega)) | ((with_reducible apply Blk.new); rotate_left; (focus (with_reducible assumption))))
          intro K9_0
          try simp only [List.setIfInBounds_toArray, List.set_cons_succ, List.set_cons_zero] at K9_0
          obtain ⟨c9_0, f9_0⟩ := K9_0.rules
          have z9_1 : w.heap.size + 1 < w9.heap.size := by omega
          apply Blk.use (w := w9) (b := w.heap.size + 1)
          · repeat (first | with_reducible assumption | with_reducible exact Blk.alloc_at (by first | rfl | (simp; done) | (simp; omega)) | with_reducible apply Blk.alloc | with_reducible apply Blk.drew | with_reducible apply Blk.drewN | with_reducible apply Blk.set | ((with_reducible apply Blk.set_ne); rotate_left; (focus omega)) | ((with_reducible apply Blk.dr); rotate_left; (focus (with_reducible assumption)); (focus omega)) | ((with_reducible apply Blk.new); rotate_left; (focus (with_reducible assumption))))
          intro K9_1
          try simp only [List.setIfInBounds_toArray, List.set_cons_succ, List.set_cons_zero] at K9_1
          obtain ⟨c9_1, f9_1⟩ := K9_1.rules
          have z9_2 : w2.heap.size < w9.heap.size := by omega
          apply Blk.use (w := w9) (b := w2.heap.size)
          · repeat (first | with_reducible assumption | with_reducible exact Blk.alloc_at (by first | rfl | (simp; done) | (simp; omega)) | with_reducible apply Blk.alloc | with_reducible apply Blk.drew | with_reducible apply Blk.drewN | with_reducible apply Blk.set | ((with_reducible apply Blk.set_ne); rotate_left; (focus omega)) | ((with_reducible apply Blk.dr); rotate_left; (focus (with_reducible assumption)); (focus omega)) | ((with_reducible apply Blk.new); rotate_left; (focus (with_reducible assumption))))
          intro K9_2
          try simp only [List.setIfInBounds_toArray, List.set_cons_succ, List.set_cons_zero] at K9_2
          obtain ⟨c9_2, f9_2⟩ := K9_2.rules
          have z9_3 : w4.heap.size < w9.heap.size := by omega
          apply Blk.use (w := w9) (b := w4.heap.size)
          · repeat (first | with_reducible assumption | with_reducible exact Blk.alloc_at (by first | rfl | (simp; done) | (simp; omega)) | with_reducible apply Blk.alloc | with_reducible apply Blk.drew | with_reducible apply Blk.drewN | with_reducible apply Blk.set | ((with_reducible apply Blk.set_ne); rotate_left; (focus omega)) | ((with_reducible apply Blk.dr); rotate_left; (focus (with_reducible assumption)); (focus omega)) | ((with_reducible apply Blk.new); rotate_left; (focus (with_reducible assumption))))
          intro K9_3
          try simp only [List.setIfInBounds_toArray, List.set_cons_succ, List.set_cons_zero] at K9_3
          obtain ⟨c9_3, f9_3⟩ := K9_3.rules
          try clear c8_0 f8_0 K8_0
          try clear c8_1 f8_1 K8_1
          try clear c8_2 f8_2 K8_2
          try clear c8_3 f8_3 K8_3
          try clear c8_4 f8_4 K8_4
          try clear c8_5 f8_5 K8_5
          try clear c7_0 f7_0 K7_0
          try clear c7_1 f7_1 K7_1
          try clear c7_2 f7_2 K7_2
          try clear c7_3 f7_3 K7_3
          try clear c7_4 f7_4 K7_4
          try clear c7_5 f7_5 K7_5
          try clear c6_0 f6_0 K6_0
          try clear c6_1 f6_1 K6_1
          try clear c6_2 f6_2 K6_2
          try clear c6_3 f6_3 K6_3
          try clear c6_4 f6_4 K6_4
          try clear c6_5 f6_5 K6_5
          have y9 : S < w9.heap.size := by omega
          go_wp2_with fail
        all_goals
          have hL9 : LateOK S w9 [(w.heap.size, #[.int .i64 k, .int .i64 len, .int .i64 rise, .int .i64 rl, .int .i64 rh, .int .i64 fl, .int .i64 fh], 46)] := ⟨⟨by omega, by omega⟩, trivial⟩
          have hM9 : ∀ x ∈ ([(w.heap.size, #[.int .i64 k, .int .i64 len, .int .i64 rise, .int .i64 rl, .int .i64 rh, .int .i64 fl, .int .i64 fh], 46)] : Late), x.1 < w9.heap.size := fun x hx => (LateOK.get hL9 x hx).2
          refine RQ.wp_facts (Dq.ord S [(w.heap.size, #[.int .i64 k, .int .i64 len, .int .i64 rise, .int .i64 rl, .int .i64 rh, .int .i64 fl, .int .i64 fh], 46)]) [fun X _ => X = .agg #[.int .i64 k, .int .i64 len, .int .i64 rise, .int .i64 rl, .int .i64 rh, .int .i64 fl, .int .i64 fh], fun X W' => ∃ r : Int, X = .int .i64 r, fun X _ => X = .pointer (some ⟨S, 0, none⟩), fun X W' => ∃ r : Int, X = .int .i64 r, fun X W' => ∃ r : Int, X = .int .i64 r, fun X W' => ∃ r : Int, X = .int .i64 r, fun X W' => ∃ r : Int, X = .int .i64 r, fun X W' => ∃ r : Int, X = .int .i64 r, fun X _ => X = .pointer (some ⟨S, 0, none⟩), fun X W' => ∃ r : Int, X = .int .i64 r, fun X W' => ∃ r : Int, X = .int .i64 r, fun X W' => ∃ r : Int, X = .int .i64 r, fun X W' => ∃ r : Int, X = .int .i64 r, fun X W' => ∃ x y : Int, X = .agg #[.int .i64 x, .int .i64 y], fun X W' => Blk W' (w.heap.size) (#[.int .i64 k, .int .i64 len, .int .i64 rise, .int .i64 rl, .int .i64 rh, .int .i64 fl, .int .i64 fh]) (46)] (by kernel_rfl) (by kernel_rfl) ⟨RQ.stable_eq _, fun X w0 w1 hn ⟨r50, t50⟩ => ⟨r50, t50⟩, RQ.stable_eq _, fun X w0 w1 hn ⟨r52, t52⟩ => ⟨r52, t52⟩, fun X w0 w1 hn ⟨r53, t53⟩ => ⟨r53, t53⟩, fun X w0 w1 hn ⟨r54, t54⟩ => ⟨r54, t54⟩, fun X w0 w1 hn ⟨r55, t55⟩ => ⟨r55, t55⟩, fun X w0 w1 hn ⟨r56, t56⟩ => ⟨r56, t56⟩, RQ.stable_eq _, fun X w0 w1 hn ⟨r58, t58⟩ => ⟨r58, t58⟩, fun X w0 w1 hn ⟨r59, t59⟩ => ⟨r59, t59⟩, fun X w0 w1 hn ⟨r60, t60⟩ => ⟨r60, t60⟩, fun X w0 w1 hn ⟨r61, t61⟩ => ⟨r61, t61⟩, fun X w0 w1 hn ⟨x62, y62, t62⟩ => ⟨x62, y62, t62⟩, fun X w0 w1 hn kb0 => Blk.kept kb0 hn (by simp), trivial⟩ ?_ ?_
          · refine ⟨?_, ?_, ?_, ?_, ?_, ?_, ?_, ?_, ?_, ?_, ?_, ?_, ?_, ?_, ?_, trivial⟩
            · intro a w9 hw ho hk
              refine .inl ⟨by rfl, ?_⟩
              have s5 := ho 5 rfl
              dsimp at s5
              have K9 := Blk.dq K9_2 hw (by omega) ⟨by omega, trivial⟩
              obtain ⟨c9, f9⟩ := K9.rules
              go_simp
              exact Dq.refl _ _ _
            · intro a w9 hw ho hk
              refine .inl ⟨by rfl, ?_⟩
              have s8 := ho 8 rfl
              dsimp at s8
              go_simp
              first | exact ⟨Dq.refl _ _ _, _, rfl, _, rfl⟩ | exact ⟨Dq.refl _ _ _, _, by simp⟩
            · intro a w9 hw ho hk
              refine .inl ⟨by rfl, ?_⟩
              have s4 := ho 4 rfl
              dsimp at s4
              go_simp
              exact Dq.refl _ _ _
            · intro a w9 hw ho hk
              refine .inl ⟨by rfl, ?_⟩
              have s8 := ho 8 rfl
              dsimp at s8
              go_simp
              first | exact ⟨Dq.refl _ _ _, _, rfl, _, rfl⟩ | exact ⟨Dq.refl _ _ _, _, by simp⟩
            · intro a w9 hw ho hk
              refine .inl ⟨by rfl, ?_⟩
              obtain ⟨r52, t52⟩ : ∃ r : Int, (a.tmps[52]?.getD undef) = .int .i64 r := hk 3 52 (by kernel_rfl) rfl
              go_simp
              first | exact ⟨Dq.refl _ _ _, _, rfl, _, rfl⟩ | exact ⟨Dq.refl _ _ _, _, by simp⟩
            · intro a w9 hw ho hk
              refine .inl ⟨by rfl, ?_⟩
              have t51 : a.tmps[51]?.getD undef = .pointer (some ⟨S, 0, none⟩) := hk 2 51 (by kernel_rfl) rfl
              obtain ⟨r53, t53⟩ : ∃ r : Int, (a.tmps[53]?.getD undef) = .int .i64 r := hk 4 53 (by kernel_rfl) rfl
              go_simp
              refine (l01Next_n S _ _ (Dq.src hw (by intro x hx; simp at hx; rcases hx with rfl | rfl <;> first | (simp; done) | (simp; omega) | omega) (Dr.src (by repeat (first | with_reducible refine Dr.setCell ?_ (by first | (simp; done) | (simp; omega) | omega) _ | with_reducible refine Dr.alloc ?_ _ | with_reducible exact Dr.refl _ _ | with_reducible assumption | with_reducible refine Dr.trans ?_ (by with_reducible assumption) | with_reducible refine Dr.trans ?_ (Dr.of_new (by with_reducible assumption)) | with_reducible refine Dr.drewN ?_ _ | with_reducible refine Dr.drew ?_)) hs.out))).mono ?_; rintro e w2 ⟨r, rfl, hb⟩
              first | exact ⟨Dq.of_dr hb (hL9.mono hw.size), _, rfl, _, rfl⟩ | exact ⟨Dq.of_dr hb (hL9.mono hw.size), _, by simp⟩
            · intro a w9 hw ho hk
              refine .inl ⟨by rfl, ?_⟩
              obtain ⟨r50, t50⟩ : ∃ r : Int, (a.tmps[50]?.getD undef) = .int .i64 r := hk 1 50 (by kernel_rfl) rfl
              obtain ⟨r54, t54⟩ : ∃ r : Int, (a.tmps[54]?.getD undef) = .int .i64 r := hk 5 54 (by kernel_rfl) rfl
              go_simp
              first | exact ⟨Dq.refl _ _ _, _, rfl, _, rfl⟩ | exact ⟨Dq.refl _ _ _, _, by simp⟩
            · intro a w9 hw ho hk
              refine .inl ⟨by rfl, ?_⟩
              have s8 := ho 8 rfl
              dsimp at s8
              go_simp
              first | exact ⟨Dq.refl _ _ _, _, rfl, _, rfl⟩ | exact ⟨Dq.refl _ _ _, _, by simp⟩
            · intro a w9 hw ho hk
              refine .inl ⟨by rfl, ?_⟩
              have s4 := ho 4 rfl
              dsimp at s4
              go_simp
              exact Dq.refl _ _ _
            · intro a w9 hw ho hk
              refine .inl ⟨by rfl, ?_⟩
              have t57 : a.tmps[57]?.getD undef = .pointer (some ⟨S, 0, none⟩) := hk 8 57 (by kernel_rfl) rfl
              go_simp
              refine (l01Next_n S _ _ (Dq.src hw (by intro x hx; simp at hx; rcases hx with rfl | rfl <;> first | (simp; done) | (simp; omega) | omega) (Dr.src (by repeat (first | with_reducible refine Dr.setCell ?_ (by first | (simp; done) | (simp; omega) | omega) _ | with_reducible refine Dr.alloc ?_ _ | with_reducible exact Dr.refl _ _ | with_reducible assumption | with_reducible refine Dr.trans ?_ (by with_reducible assumption) | with_reducible refine Dr.trans ?_ (Dr.of_new (by with_reducible assumption)) | with_reducible refine Dr.drewN ?_ _ | with_reducible refine Dr.drew ?_)) hs.out))).mono ?_; rintro e w2 ⟨r, rfl, hb⟩
              first | exact ⟨Dq.of_dr hb (hL9.mono hw.size), _, rfl, _, rfl⟩ | exact ⟨Dq.of_dr hb (hL9.mono hw.size), _, by simp⟩
            · intro a w9 hw ho hk
              refine .inl ⟨by rfl, ?_⟩
              obtain ⟨r58, t58⟩ : ∃ r : Int, (a.tmps[58]?.getD undef) = .int .i64 r := hk 9 58 (by kernel_rfl) rfl
              go_simp
              first | exact ⟨Dq.refl _ _ _, _, rfl, _, rfl⟩ | exact ⟨Dq.refl _ _ _, _, by simp⟩
            · intro a w9 hw ho hk
              refine .inl ⟨by rfl, ?_⟩
              obtain ⟨r56, t56⟩ : ∃ r : Int, (a.tmps[56]?.getD undef) = .int .i64 r := hk 7 56 (by kernel_rfl) rfl
              obtain ⟨r59, t59⟩ : ∃ r : Int, (a.tmps[59]?.getD undef) = .int .i64 r := hk 10 59 (by kernel_rfl) rfl
              go_simp
              first | exact ⟨Dq.refl _ _ _, _, rfl, _, rfl⟩ | exact ⟨Dq.refl _ _ _, _, by simp⟩
            · intro a w9 hw ho hk
              refine .inl ⟨by rfl, ?_⟩
              obtain ⟨r60, t60⟩ : ∃ r : Int, (a.tmps[60]?.getD undef) = .int .i64 r := hk 11 60 (by kernel_rfl) rfl
              go_simp
              first | exact ⟨Dq.refl _ _ _, _, rfl, _, rfl⟩ | exact ⟨Dq.refl _ _ _, _, by simp⟩
            · intro a w9 hw ho hk
              refine .inl ⟨by rfl, ?_⟩
              obtain ⟨r55, t55⟩ : ∃ r : Int, (a.tmps[55]?.getD undef) = .int .i64 r := hk 6 55 (by kernel_rfl) rfl
              obtain ⟨r61, t61⟩ : ∃ r : Int, (a.tmps[61]?.getD undef) = .int .i64 r := hk 12 61 (by kernel_rfl) rfl
              go_simp
              first | exact ⟨Dq.refl _ _ _, _, rfl, _, _, rfl⟩ | exact ⟨Dq.refl _ _ _, _, by simp⟩
            · intro a w9 hw ho hk
              refine .inl ⟨by rfl, ?_⟩
              have s2 := ho 2 rfl
              dsimp at s2
              have t49 : a.tmps[49]?.getD undef = .agg #[.int .i64 k, .int .i64 len, .int .i64 rise, .int .i64 rl, .int .i64 rh, .int .i64 fl, .int .i64 fh] := hk 0 49 (by kernel_rfl) rfl
              rcases Blk.late K9_0 hw (by simp : ((w.heap.size, #[.int .i64 k, .int .i64 len, .int .i64 rise, .int .i64 rl, .int .i64 rh, .int .i64 fl, .int .i64 fh], 46) : Nat × Array Value × TypeId) ∈ ([(w.heap.size, #[.int .i64 k, .int .i64 len, .int .i64 rise, .int .i64 rl, .int .i64 rh, .int .i64 fl, .int .i64 fh], 46)] : Late)) with K9 | K9
              all_goals obtain ⟨c9, f9⟩ := K9.rules
              all_goals go_simp
              all_goals refine Dq.stored2 (b := w.heap.size) (F := #[.int .i64 k, .int .i64 len, .int .i64 rise, .int .i64 rl, .int .i64 rh, .int .i64 fl, .int .i64 fh]) (T := 46) (by repeat (first | with_reducible exact Same1.refl _ _ | with_reducible refine Same1.set ?_ _ _)) ?_ (by simp) (by intro x hx; simp at hx; rcases hx with rfl <;> first | (intro _; rfl) | (intro h; exfalso; simp at h; done) | (intro h; exfalso; simp at h; omega)) (by omega)
              all_goals
                apply blk_cast
                · repeat (first | with_reducible exact K9 | with_reducible apply Blk.set)
                · rfl
          intro w10 b10
          rintro _ rfl
          rintro _ ⟨r50, rfl⟩
          rintro _ rfl
          rintro _ ⟨r52, rfl⟩
          rintro _ ⟨r53, rfl⟩
          rintro _ ⟨r54, rfl⟩
          rintro _ ⟨r55, rfl⟩
          rintro _ ⟨r56, rfl⟩
          rintro _ rfl
          rintro _ ⟨r58, rfl⟩
          rintro _ ⟨r59, rfl⟩
          rintro _ ⟨r60, rfl⟩
          rintro _ ⟨r61, rfl⟩
          rintro _ ⟨x62, y62, rfl⟩
          rintro _ kb0
          obtain ⟨cl0, fl0⟩ := kb0.rules
          have K10_0 := Blk.dq K9_1 b10 (by omega) ⟨by omega, trivial⟩
          obtain ⟨c10_0, f10_0⟩ := K10_0.rules
          simp only [RQ.EndAll, List.nil_append, List.cons_append, List.length_cons, List.length_nil, Nat.zero_add, Nat.reduceAdd, List.take_succ_cons, List.take_zero, List.drop_succ_cons, List.drop_zero, RQ.putAll, Act.put, List.setIfInBounds_toArray, List.set_cons_succ, List.set_cons_zero]
          have n10 : New w w10 := Dq.new (w0 := w) (Dr.new (S := S) (w0 := w) (w := w1) (by repeat (first | with_reducible exact New.refl _ | with_reducible assumption | with_reducible refine New.drew ?_ | with_reducible refine New.drewN ?_ _ | with_reducible refine New.alloc ?_ _ | with_reducible refine New.setCell ?_ (by first | (simp; done) | (simp; omega) | omega) _ | with_reducible refine New.trans ?_ (by with_reducible assumption))) (by repeat (first | with_reducible refine Dr.setCell ?_ (by first | (simp; done) | (simp; omega) | omega) _ | with_reducible refine Dr.alloc ?_ _ | with_reducible exact Dr.refl _ _ | with_reducible assumption | with_reducible refine Dr.trans ?_ (by with_reducible assumption) | with_reducible refine Dr.trans ?_ (Dr.of_new (by with_reducible assumption)) | with_reducible refine Dr.drewN ?_ _ | with_reducible refine Dr.drew ?_)) (by omega)) b10 (by omega) (by intro x hx; simp at hx; subst hx; simp)
          go_wp2_with fail
          apply ret_td rfl (by repeat (first | with_reducible exact New.refl _ | with_reducible assumption | with_reducible refine New.drew ?_ | with_reducible refine New.drewN ?_ _ | with_reducible refine New.alloc ?_ _ | with_reducible refine New.setCell ?_ (by first | (simp; done) | (simp; omega) | omega) _ | with_reducible refine New.trans ?_ (by with_reducible assumption)))
          simp [results, Try.results37, go_sem, cl0, c10_0]
          exact ⟨⟨rfl, rfl, rfl, rfl, rfl, rfl, rfl⟩, rfl, rfl⟩
      · skip
        have hL9 : LateOK S w6 [(w.heap.size, #[.int .i64 k, .int .i64 len, .int .i64 rise, .int .i64 rl, .int .i64 rh, .int .i64 fl, .int .i64 fh], 46), (w.heap.size + 1, #[.int .i64 lo, .int .i64 hi], 42)] := ⟨⟨by omega, by omega⟩, ⟨by omega, by omega⟩, trivial⟩
        have hM9 : ∀ x ∈ ([(w.heap.size, #[.int .i64 k, .int .i64 len, .int .i64 rise, .int .i64 rl, .int .i64 rh, .int .i64 fl, .int .i64 fh], 46), (w.heap.size + 1, #[.int .i64 lo, .int .i64 hi], 42)] : Late), x.1 < w6.heap.size := fun x hx => (LateOK.get hL9 x hx).2
        refine RQ.wp_facts (Dq.ord S [(w.heap.size, #[.int .i64 k, .int .i64 len, .int .i64 rise, .int .i64 rl, .int .i64 rh, .int .i64 fl, .int .i64 fh], 46), (w.heap.size + 1, #[.int .i64 lo, .int .i64 hi], 42)]) [fun X _ => X = .agg #[.int .i64 k, .int .i64 len, .int .i64 rise, .int .i64 rl, .int .i64 rh, .int .i64 fl, .int .i64 fh], fun X _ => X = .agg #[.int .i64 lo, .int .i64 hi], fun X W' => Blk W' (w.heap.size) (#[.int .i64 k, .int .i64 len, .int .i64 rise, .int .i64 rl, .int .i64 rh, .int .i64 fl, .int .i64 fh]) (46), fun X W' => Blk W' (w.heap.size + 1) (#[.int .i64 lo, .int .i64 hi]) (42)] (by kernel_rfl) (by kernel_rfl) ⟨RQ.stable_eq _, RQ.stable_eq _, fun X w0 w1 hn kb0 => Blk.kept kb0 hn (by simp), fun X w0 w1 hn kb1 => Blk.kept kb1 hn (by simp), trivial⟩ ?_ ?_
        · refine ⟨?_, ?_, ?_, ?_, trivial⟩
          · intro a w9 hw ho hk
            refine .inl ⟨by rfl, ?_⟩
            have s5 := ho 5 rfl
            dsimp at s5
            have K9 := Blk.dq K6_2 hw (by omega) ⟨by omega, by omega, trivial⟩
            obtain ⟨c9, f9⟩ := K9.rules
            go_simp
            exact Dq.refl _ _ _
          · intro a w9 hw ho hk
            refine .inl ⟨by rfl, ?_⟩
            have s6 := ho 6 rfl
            dsimp at s6
            have K9 := Blk.dq K6_3 hw (by omega) ⟨by omega, by omega, trivial⟩
            obtain ⟨c9, f9⟩ := K9.rules
            go_simp
            exact Dq.refl _ _ _
          · intro a w9 hw ho hk
            refine .inl ⟨by rfl, ?_⟩
            have s2 := ho 2 rfl
            dsimp at s2
            have t63 : a.tmps[63]?.getD undef = .agg #[.int .i64 k, .int .i64 len, .int .i64 rise, .int .i64 rl, .int .i64 rh, .int .i64 fl, .int .i64 fh] := hk 0 63 (by kernel_rfl) rfl
            rcases Blk.late K6_0 hw (by simp : ((w.heap.size, #[.int .i64 k, .int .i64 len, .int .i64 rise, .int .i64 rl, .int .i64 rh, .int .i64 fl, .int .i64 fh], 46) : Nat × Array Value × TypeId) ∈ ([(w.heap.size, #[.int .i64 k, .int .i64 len, .int .i64 rise, .int .i64 rl, .int .i64 rh, .int .i64 fl, .int .i64 fh], 46), (w.heap.size + 1, #[.int .i64 lo, .int .i64 hi], 42)] : Late)) with K9 | K9
            all_goals obtain ⟨c9, f9⟩ := K9.rules
            all_goals go_simp
            all_goals refine Dq.stored2 (b := w.heap.size) (F := #[.int .i64 k, .int .i64 len, .int .i64 rise, .int .i64 rl, .int .i64 rh, .int .i64 fl, .int .i64 fh]) (T := 46) (by repeat (first | with_reducible exact Same1.refl _ _ | with_reducible refine Same1.set ?_ _ _)) ?_ (by simp) (by intro x hx; simp at hx; rcases hx with rfl | rfl <;> first | (intro _; rfl) | (intro h; exfalso; simp at h; done) | (intro h; exfalso; simp at h; omega)) (by omega)
            all_goals
              apply blk_cast
              · repeat (first | with_reducible exact K9 | with_reducible apply Blk.set)
              · rfl
          · intro a w9 hw ho hk
            refine .inl ⟨by rfl, ?_⟩
            have s3 := ho 3 rfl
            dsimp at s3
            have t64 : a.tmps[64]?.getD undef = .agg #[.int .i64 lo, .int .i64 hi] := hk 1 64 (by kernel_rfl) rfl
            rcases Blk.late K6_1 hw (by simp : ((w.heap.size + 1, #[.int .i64 lo, .int .i64 hi], 42) : Nat × Array Value × TypeId) ∈ ([(w.heap.size, #[.int .i64 k, .int .i64 len, .int .i64 rise, .int .i64 rl, .int .i64 rh, .int .i64 fl, .int .i64 fh], 46), (w.heap.size + 1, #[.int .i64 lo, .int .i64 hi], 42)] : Late)) with K9 | K9
            all_goals obtain ⟨c9, f9⟩ := K9.rules
            all_goals go_simp
            all_goals refine Dq.stored2 (b := w.heap.size + 1) (F := #[.int .i64 lo, .int .i64 hi]) (T := 42) (by repeat (first | with_reducible exact Same1.refl _ _ | with_reducible refine Same1.set ?_ _ _)) ?_ (by simp) (by intro x hx; simp at hx; rcases hx with rfl | rfl <;> first | (intro _; rfl) | (intro h; exfalso; simp at h; done) | (intro h; exfalso; simp at h; omega)) (by omega)
            all_goals
              apply blk_cast
              · repeat (first | with_reducible exact K9 | with_reducible apply Blk.set)
              · rfl
        intro w9 b9
        rintro _ rfl
        rintro _ rfl
        rintro _ kb0
        rintro _ kb1
        obtain ⟨cl0, fl0⟩ := kb0.rules
        obtain ⟨cl1, fl1⟩ := kb1.rules
        simp only [RQ.EndAll, List.nil_append, List.cons_append, List.length_cons, List.length_nil, Nat.zero_add, Nat.reduceAdd, List.take_succ_cons, List.take_zero, List.drop_succ_cons, List.drop_zero, RQ.putAll, Act.put, List.setIfInBounds_toArray, List.set_cons_succ, List.set_cons_zero]
        go_wp2_with fail
        apply ret_td rfl (Dq.new (w0 := w) (Dr.new (S := S) (w0 := w) (w := w1) (by repeat (first | with_reducible exact New.refl _ | with_reducible assumption | with_reducible refine New.drew ?_ | with_reducible refine New.drewN ?_ _ | with_reducible refine New.alloc ?_ _ | with_reducible refine New.setCell ?_ (by first | (simp; done) | (simp; omega) | omega) _ | with_reducible refine New.trans ?_ (by with_reducible assumption))) (by repeat (first | with_reducible refine Dr.setCell ?_ (by first | (simp; done) | (simp; omega) | omega) _ | with_reducible refine Dr.alloc ?_ _ | with_reducible exact Dr.refl _ _ | with_reducible assumption | with_reducible refine Dr.trans ?_ (by with_reducible assumption) | with_reducible refine Dr.trans ?_ (Dr.of_new (by with_reducible assumption)) | with_reducible refine Dr.drewN ?_ _ | with_reducible refine Dr.drew ?_)) (by omega)) b9 (by omega) (by intro x hx; simp at hx; rcases hx with rfl | rfl <;> simp))
        simp [results, Try.results37, go_sem, cl0, cl1]
        exact ⟨⟨rfl, rfl, rfl, rfl, rfl, rfl, rfl⟩, rfl, rfl⟩
    · skip
      have hL9 : LateOK S w5 [(w.heap.size, #[.int .i64 k, .int .i64 len, .int .i64 rise, .int .i64 rl, .int .i64 rh, .int .i64 fl, .int .i64 fh], 46), (w.heap.size + 1, #[.int .i64 lo, .int .i64 hi], 42)] := ⟨⟨by omega, by omega⟩, ⟨by omega, by omega⟩, trivial⟩
      have hM9 : ∀ x ∈ ([(w.heap.size, #[.int .i64 k, .int .i64 len, .int .i64 rise, .int .i64 rl, .int .i64 rh, .int .i64 fl, .int .i64 fh], 46), (w.heap.size + 1, #[.int .i64 lo, .int .i64 hi], 42)] : Late), x.1 < w5.heap.size := fun x hx => (LateOK.get hL9 x hx).2
      refine RQ.wp_facts (Dq.ord S [(w.heap.size, #[.int .i64 k, .int .i64 len, .int .i64 rise, .int .i64 rl, .int .i64 rh, .int .i64 fl, .int .i64 fh], 46), (w.heap.size + 1, #[.int .i64 lo, .int .i64 hi], 42)]) [fun X _ => X = .agg #[.int .i64 k, .int .i64 len, .int .i64 rise, .int .i64 rl, .int .i64 rh, .int .i64 fl, .int .i64 fh], fun X _ => X = .agg #[.int .i64 lo, .int .i64 hi], fun X W' => Blk W' (w.heap.size) (#[.int .i64 k, .int .i64 len, .int .i64 rise, .int .i64 rl, .int .i64 rh, .int .i64 fl, .int .i64 fh]) (46), fun X W' => Blk W' (w.heap.size + 1) (#[.int .i64 lo, .int .i64 hi]) (42)] (by kernel_rfl) (by kernel_rfl) ⟨RQ.stable_eq _, RQ.stable_eq _, fun X w0 w1 hn kb0 => Blk.kept kb0 hn (by simp), fun X w0 w1 hn kb1 => Blk.kept kb1 hn (by simp), trivial⟩ ?_ ?_
      · refine ⟨?_, ?_, ?_, ?_, trivial⟩
        · intro a w9 hw ho hk
          refine .inl ⟨by rfl, ?_⟩
          have s5 := ho 5 rfl
          dsimp at s5
          have K9 := Blk.dq K5_2 hw (by omega) ⟨by omega, by omega, trivial⟩
          obtain ⟨c9, f9⟩ := K9.rules
          go_simp
          exact Dq.refl _ _ _
        · intro a w9 hw ho hk
          refine .inl ⟨by rfl, ?_⟩
          have s6 := ho 6 rfl
          dsimp at s6
          have K9 := Blk.dq K5_3 hw (by omega) ⟨by omega, by omega, trivial⟩
          obtain ⟨c9, f9⟩ := K9.rules
          go_simp
          exact Dq.refl _ _ _
        · intro a w9 hw ho hk
          refine .inl ⟨by rfl, ?_⟩
          have s2 := ho 2 rfl
          dsimp at s2
          have t63 : a.tmps[63]?.getD undef = .agg #[.int .i64 k, .int .i64 len, .int .i64 rise, .int .i64 rl, .int .i64 rh, .int .i64 fl, .int .i64 fh] := hk 0 63 (by kernel_rfl) rfl
          rcases Blk.late K5_0 hw (by simp : ((w.heap.size, #[.int .i64 k, .int .i64 len, .int .i64 rise, .int .i64 rl, .int .i64 rh, .int .i64 fl, .int .i64 fh], 46) : Nat × Array Value × TypeId) ∈ ([(w.heap.size, #[.int .i64 k, .int .i64 len, .int .i64 rise, .int .i64 rl, .int .i64 rh, .int .i64 fl, .int .i64 fh], 46), (w.heap.size + 1, #[.int .i64 lo, .int .i64 hi], 42)] : Late)) with K9 | K9
          all_goals obtain ⟨c9, f9⟩ := K9.rules
          all_goals go_simp
          all_goals refine Dq.stored2 (b := w.heap.size) (F := #[.int .i64 k, .int .i64 len, .int .i64 rise, .int .i64 rl, .int .i64 rh, .int .i64 fl, .int .i64 fh]) (T := 46) (by repeat (first | with_reducible exact Same1.refl _ _ | with_reducible refine Same1.set ?_ _ _)) ?_ (by simp) (by intro x hx; simp at hx; rcases hx with rfl | rfl <;> first | (intro _; rfl) | (intro h; exfalso; simp at h; done) | (intro h; exfalso; simp at h; omega)) (by omega)
          all_goals
            apply blk_cast
            · repeat (first | with_reducible exact K9 | with_reducible apply Blk.set)
            · rfl
        · intro a w9 hw ho hk
          refine .inl ⟨by rfl, ?_⟩
          have s3 := ho 3 rfl
          dsimp at s3
          have t64 : a.tmps[64]?.getD undef = .agg #[.int .i64 lo, .int .i64 hi] := hk 1 64 (by kernel_rfl) rfl
          rcases Blk.late K5_1 hw (by simp : ((w.heap.size + 1, #[.int .i64 lo, .int .i64 hi], 42) : Nat × Array Value × TypeId) ∈ ([(w.heap.size, #[.int .i64 k, .int .i64 len, .int .i64 rise, .int .i64 rl, .int .i64 rh, .int .i64 fl, .int .i64 fh], 46), (w.heap.size + 1, #[.int .i64 lo, .int .i64 hi], 42)] : Late)) with K9 | K9
          all_goals obtain ⟨c9, f9⟩ := K9.rules
          all_goals go_simp
          all_goals refine Dq.stored2 (b := w.heap.size + 1) (F := #[.int .i64 lo, .int .i64 hi]) (T := 42) (by repeat (first | with_reducible exact Same1.refl _ _ | with_reducible refine Same1.set ?_ _ _)) ?_ (by simp) (by intro x hx; simp at hx; rcases hx with rfl | rfl <;> first | (intro _; rfl) | (intro h; exfalso; simp at h; done) | (intro h; exfalso; simp at h; omega)) (by omega)
          all_goals
            apply blk_cast
            · repeat (first | with_reducible exact K9 | with_reducible apply Blk.set)
            · rfl
      intro w9 b9
      rintro _ rfl
      rintro _ rfl
      rintro _ kb0
      rintro _ kb1
      obtain ⟨cl0, fl0⟩ := kb0.rules
      obtain ⟨cl1, fl1⟩ := kb1.rules
      simp only [RQ.EndAll, List.nil_append, List.cons_append, List.length_cons, List.length_nil, Nat.zero_add, Nat.reduceAdd, List.take_succ_cons, List.take_zero, List.drop_succ_cons, List.drop_zero, RQ.putAll, Act.put, List.setIfInBounds_toArray, List.set_cons_succ, List.set_cons_zero]
      go_wp2_with fail
      apply ret_td rfl (Dq.new (w0 := w) (Dr.new (S := S) (w0 := w) (w := w1) (by repeat (first | with_reducible exact New.refl _ | with_reducible assumption | with_reducible refine New.drew ?_ | with_reducible refine New.drewN ?_ _ | with_reducible refine New.alloc ?_ _ | with_reducible refine New.setCell ?_ (by first | (simp; done) | (simp; omega) | omega) _ | with_reducible refine New.trans ?_ (by with_reducible assumption))) (by repeat (first | with_reducible refine Dr.setCell ?_ (by first | (simp; done) | (simp; omega) | omega) _ | with_reducible refine Dr.alloc ?_ _ | with_reducible exact Dr.refl _ _ | with_reducible assumption | with_reducible refine Dr.trans ?_ (by with_reducible assumption) | with_reducible refine Dr.trans ?_ (Dr.of_new (by with_reducible assumption)) | with_reducible refine Dr.drewN ?_ _ | with_reducible refine Dr.drew ?_)) (by omega)) b9 (by omega) (by intro x hx; simp at hx; rcases hx with rfl | rfl <;> simp))
      simp [results, Try.results37, go_sem, cl0, cl1]
      exact ⟨⟨rfl, rfl, rfl, rfl, rfl, rfl, rfl⟩, rfl, rfl⟩
end Go.Proofs.Ytdhmngmclbaieaa
