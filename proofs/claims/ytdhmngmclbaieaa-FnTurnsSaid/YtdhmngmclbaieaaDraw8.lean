/- Contracts: the draws of launches, lifts and of turning back. -/
import Derived.Test.YtdhmngmclbaieaaProg
import Derived.Test.YtdhmngmclbaieaaDraw3
import Derived.Test.YtdhmngmclbaieaaDrawQ
import Derived.Test.YtdhmngmclbaieaaLaunch
namespace Go.Proofs.Ytdhmngmclbaieaa
open Go Go.Proofs Go.RowKit
set_option linter.unusedVariables false
set_option linter.unusedSimpArgs false
set_option maxRecDepth 100000
theorem rdB_new {w w' : World} {v : Value} {n : Nat} {cs : List Value} (h : Rd w v n cs) (hn : New w w') : RdB w.heap.size w' v n cs := (Rd.toB h).same hn.block
def RetIvN (w : World) (e : Ending) (w' : World) : Prop := ∃ a b : Int, e = .returned (.agg #[.int .i64 a, .int .i64 b]) ∧ New w w'
theorem ret_ivn {P : Program} {fn : Func} {w0 w : World} {a : Act} {x y : Int} (hd : a.defers = []) (hR : New w0 w) (hr : (results fn a.tmps).run P w = .ok (.agg #[.int .i64 x, .int .i64 y]) w) : bodyPost P fn (RetIvN w0) .ret a w := ⟨hd, _, hr, x, y, rfl, hR⟩
theorem l06ChangeW_any (k len rise rl rh fl fh : Int) (w : World) :
    Calls Try.prog 80 #[.agg #[.int .i64 k, .int .i64 len, .int .i64 rise, .int .i64 rl, .int .i64 rh, .int .i64 fl, .int .i64 fh]] w (RetIvN w) := by
  go_enter Try.func80, Try.ntmps80
  go_wp2_with fail
  apply ret_ivn rfl (by repeat (first | with_reducible exact New.refl _ | with_reducible assumption | with_reducible refine New.drew ?_ | with_reducible refine New.drewN ?_ _ | with_reducible refine New.alloc ?_ _ | with_reducible refine New.setCell ?_ (by first | (simp; done) | (simp; omega) | omega) _ | with_reducible refine New.trans ?_ (by with_reducible assumption)))
  simp [results, Try.results80, go_sem]
  exact ⟨rfl, rfl⟩
def DrawLF (w : World) (e : Ending) (w' : World) : Prop := ∃ k len rise rl rh fl fh lo hi t : Int, e = .returned (.tuple #[.agg #[.int .i64 k, .int .i64 len, .int .i64 rise, .int .i64 rl, .int .i64 rh, .int .i64 fl, .int .i64 fh], .agg #[.int .i64 lo, .int .i64 hi], .int .i64 t]) ∧ New w w'
theorem ret_lf {P : Program} {fn : Func} {w0 w : World} {a : Act} {k len rise rl rh fl fh lo hi t : Int} (hd : a.defers = []) (hR : New w0 w) (hr : (results fn a.tmps).run P w = .ok (.tuple #[.agg #[.int .i64 k, .int .i64 len, .int .i64 rise, .int .i64 rl, .int .i64 rh, .int .i64 fl, .int .i64 fh], .agg #[.int .i64 lo, .int .i64 hi], .int .i64 t]) w) : bodyPost P fn (DrawLF w0) .ret a w := ⟨hd, _, hr, k, len, rise, rl, rh, fl, fh, lo, hi, t, rfl, hR⟩
set_option maxHeartbeats 8000000 in
theorem drawLaunchForce_any (v : Value) (bs : List Int) (w : World) (hv : Rd w v bs.length (bs.map (Value.int .u8))) (hl : bs.length ≤ 4096) (hb : ∀ c ∈ bs, 0 ≤ c ∧ c ≤ 255) :
    Calls Try.prog 35 #[v] w (DrawLF w) := by
  have HV := Lib.hid hv
  have HB := Lib.hid hb
  clear hv hb
  go_enter Try.func35, Try.ntmps35
  go_wp2_with fail
  refine (l01From_any w.heap.size v bs _ (rdB_new HV.out (by repeat (first | with_reducible exact New.refl _ | with_reducible assumption | with_reducible refine New.drew ?_ | with_reducible refine New.drewN ?_ _ | with_reducible refine New.alloc ?_ _ | with_reducible refine New.setCell ?_ (by first | (simp; done) | (simp; omega) | omega) _ | with_reducible refine New.trans ?_ (by with_reducible assumption)))) (by first | (simp; done) | (simp; omega)) hl HB.out).mono ?_
  rintro e w1 ⟨S, rfl, hS0, n1, hs⟩
  have b1 := Dr.of_new (S := S) n1; have hS := hs.lt; replace hs := Lib.hid hs; simp only [World.size_alloc] at hS0
  have z1 := b1.size
  try simp only [World.size_alloc, World.size_drew, World.heap_drewN, World.size_setCell] at z1
  have z1_0 : w.heap.size < w1.heap.size := by omega
  apply Blk.use (w := w1) (b := w.heap.size)
  · repeat (first | with_reducible assumption | with_reducible exact Blk.alloc_at (by first | rfl | (simp; done) | (simp; omega)) | with_reducible apply Blk.alloc | with_reducible apply Blk.drew | with_reducible apply Blk.drewN | with_reducible apply Blk.set | ((with_reducible apply Blk.set_ne); rotate_left; (focus omega)) | ((with_reducible apply Blk.dr); rotate_left; (focus (with_reducible assumption)); (focus omega)) | ((with_reducible apply Blk.new); rotate_left; (focus (with_reducible assumption))))
  intro K1_0
  try simp only [List.setIfInBounds_toArray, List.set_cons_succ, List.set_cons_zero] at K1_0
  obtain ⟨c1_0, f1_0⟩ := K1_0.rules
  have z1_1 : w.heap.size + 1 < w1.heap.size := by omega
  apply Blk.use (w := w1) (b := w.heap.size + 1)
  · repeat (first | with_reducible assumption | with_reducible exact Blk.alloc_at (by first | rfl | (simp; done) | (simp; omega)) | with_reducible apply Blk.alloc | with_reducible apply Blk.drew | with_reducible apply Blk.drewN | with_reducible apply Blk.set | ((with_reducible apply Blk.set_ne); rotate_left; (focus omega)) | ((with_reducible apply Blk.dr); rotate_left; (focus (with_reducible assumption)); (focus omega)) | ((with_reducible apply Blk.new); rotate_left; (focus (with_reducible assumption))))
  intro K1_1
  try simp only [List.setIfInBounds_toArray, List.set_cons_succ, List.set_cons_zero] at K1_1
  obtain ⟨c1_1, f1_1⟩ := K1_1.rules
  have y1 : S < w1.heap.size := by omega
  go_wp2_with fail
  refine (l03DrawSegment_any S _ _ (Dr.src ?hs15 hs.out)).mono ?_
  case hs15 => exact (by repeat (first | with_reducible refine Dr.setCell ?_ (by first | (simp; done) | (simp; omega) | omega) _ | with_reducible refine Dr.alloc ?_ _ | with_reducible exact Dr.refl _ _ | with_reducible assumption | with_reducible refine Dr.trans ?_ (by with_reducible assumption) | with_reducible refine Dr.trans ?_ (Dr.of_new (by with_reducible assumption)) | with_reducible refine Dr.drewN ?_ _ | with_reducible refine Dr.drew ?_))
  rintro e w2 ⟨k, len, rise, rl, rh, fl, fh, rfl, b2⟩
  have z2 := b2.size
  try simp only [World.size_alloc, World.size_drew, World.heap_drewN, World.size_setCell] at z2
  have z2_0 : w.heap.size < w2.heap.size := by omega
  apply Blk.use (w := w2) (b := w.heap.size)
  · repeat (first | with_reducible assumption | with_reducible exact Blk.alloc_at (by first | rfl | (simp; done) | (simp; omega)) | with_reducible apply Blk.alloc | with_reducible apply Blk.drew | with_reducible apply Blk.drewN | with_reducible apply Blk.set | ((with_reducible apply Blk.set_ne); rotate_left; (focus omega)) | ((with_reducible apply Blk.dr); rotate_left; (focus (with_reducible assumption)); (focus omega)) | ((with_reducible apply Blk.new); rotate_left; (focus (with_reducible assumption))))
  intro K2_0
  try simp only [List.setIfInBounds_toArray, List.set_cons_succ, List.set_cons_zero] at K2_0
  obtain ⟨c2_0, f2_0⟩ := K2_0.rules
  have z2_1 : w.heap.size + 1 < w2.heap.size := by omega
  apply Blk.use (w := w2) (b := w.heap.size + 1)
  · repeat (first | with_reducible assumption | with_reducible exact Blk.alloc_at (by first | rfl | (simp; done) | (simp; omega)) | with_reducible apply Blk.alloc | with_reducible apply Blk.drew | with_reducible apply Blk.drewN | with_reducible apply Blk.set | ((with_reducible apply Blk.set_ne); rotate_left; (focus omega)) | ((with_reducible apply Blk.dr); rotate_left; (focus (with_reducible assumption)); (focus omega)) | ((with_reducible apply Blk.new); rotate_left; (focus (with_reducible assumption))))
  intro K2_1
  try simp only [List.setIfInBounds_toArray, List.set_cons_succ, List.set_cons_zero] at K2_1
  obtain ⟨c2_1, f2_1⟩ := K2_1.rules
  try clear c1_0 f1_0 K1_0
  try clear c1_1 f1_1 K1_1
  try clear c1_2 f1_2 K1_2
  try clear c1_3 f1_3 K1_3
  try clear c1_4 f1_4 K1_4
  try clear c1_5 f1_5 K1_5
  have y2 : S < w2.heap.size := by omega
  go_wp2_with fail
  refine (l01Next_n S _ _ (Dr.src ?hs16 hs.out)).mono ?_
  case hs16 => exact (by repeat (first | with_reducible refine Dr.setCell ?_ (by first | (simp; done) | (simp; omega) | omega) _ | with_reducible refine Dr.alloc ?_ _ | with_reducible exact Dr.refl _ _ | with_reducible assumption | with_reducible refine Dr.trans ?_ (by with_reducible assumption) | with_reducible refine Dr.trans ?_ (Dr.of_new (by with_reducible assumption)) | with_reducible refine Dr.drewN ?_ _ | with_reducible refine Dr.drew ?_))
  rintro e w3 ⟨r3, rfl, b3⟩
  have z3 := b3.size
  try simp only [World.size_alloc, World.size_drew, World.heap_drewN, World.size_setCell] at z3
  have z3_0 : w.heap.size < w3.heap.size := by omega
  apply Blk.use (w := w3) (b := w.heap.size)
  · repeat (first | with_reducible assumption | with_reducible exact Blk.alloc_at (by first | rfl | (simp; done) | (simp; omega)) | with_reducible apply Blk.alloc | with_reducible apply Blk.drew | with_reducible apply Blk.drewN | with_reducible apply Blk.set | ((with_reducible apply Blk.set_ne); rotate_left; (focus omega)) | ((with_reducible apply Blk.dr); rotate_left; (focus (with_reducible assumption)); (focus omega)) | ((with_reducible apply Blk.new); rotate_left; (focus (with_reducible assumption))))
  intro K3_0
  try simp only [List.setIfInBounds_toArray, List.set_cons_succ, List.set_cons_zero] at K3_0
  obtain ⟨c3_0, f3_0⟩ := K3_0.rules
  have z3_1 : w.heap.size + 1 < w3.heap.size := by omega
  apply Blk.use (w := w3) (b := w.heap.size + 1)
  · repeat (first | with_reducible assumption | with_reducible exact Blk.alloc_at (by first | rfl | (simp; done) | (simp; omega)) | with_reducible apply Blk.alloc | with_reducible apply Blk.drew | with_reducible apply Blk.drewN | with_reducible apply Blk.set | ((with_reducible apply Blk.set_ne); rotate_left; (focus omega)) | ((with_reducible apply Blk.dr); rotate_left; (focus (with_reducible assumption)); (focus omega)) | ((with_reducible apply Blk.new); rotate_left; (focus (with_reducible assumption))))
  intro K3_1
  try simp only [List.setIfInBounds_toArray, List.set_cons_succ, List.set_cons_zero] at K3_1
  obtain ⟨c3_1, f3_1⟩ := K3_1.rules
  have z3_2 : w2.heap.size < w3.heap.size := by omega
  apply Blk.use (w := w3) (b := w2.heap.size)
  · repeat (first | with_reducible assumption | with_reducible exact Blk.alloc_at (by first | rfl | (simp; done) | (simp; omega)) | with_reducible apply Blk.alloc | with_reducible apply Blk.drew | with_reducible apply Blk.drewN | with_reducible apply Blk.set | ((with_reducible apply Blk.set_ne); rotate_left; (focus omega)) | ((with_reducible apply Blk.dr); rotate_left; (focus (with_reducible assumption)); (focus omega)) | ((with_reducible apply Blk.new); rotate_left; (focus (with_reducible assumption))))
  intro K3_2
  try simp only [List.setIfInBounds_toArray, List.set_cons_succ, List.set_cons_zero] at K3_2
  obtain ⟨c3_2, f3_2⟩ := K3_2.rules
  try clear c2_0 f2_0 K2_0
  try clear c2_1 f2_1 K2_1
  try clear c2_2 f2_2 K2_2
  try clear c2_3 f2_3 K2_3
  try clear c2_4 f2_4 K2_4
  try clear c2_5 f2_5 K2_5
  try clear c1_0 f1_0 K1_0
  try clear c1_1 f1_1 K1_1
  try clear c1_2 f1_2 K1_2
  try clear c1_3 f1_3 K1_3
  try clear c1_4 f1_4 K1_4
  try clear c1_5 f1_5 K1_5
  have y3 : S < w3.heap.size := by omega
  go_wp2_with fail
  · skip
    refine (l03DrawAny_any S _ (Dr.src ?hs17 hs.out)).mono ?_
    case hs17 => exact (by repeat (first | with_reducible refine Dr.setCell ?_ (by first | (simp; done) | (simp; omega) | omega) _ | with_reducible refine Dr.alloc ?_ _ | with_reducible exact Dr.refl _ _ | with_reducible assumption | with_reducible refine Dr.trans ?_ (by with_reducible assumption) | with_reducible refine Dr.trans ?_ (Dr.of_new (by with_reducible assumption)) | with_reducible refine Dr.drewN ?_ _ | with_reducible refine Dr.drew ?_))
    rintro e w4 ⟨k', len', rise', rl', rh', fl', fh', rfl, b4⟩
    have z4 := b4.size
    try simp only [World.size_alloc, World.size_drew, World.heap_drewN, World.size_setCell] at z4
    have z4_0 : w.heap.size < w4.heap.size := by omega
    apply Blk.use (w := w4) (b := w.heap.size)
    · repeat (first | with_reducible assumption | with_reducible exact Blk.alloc_at (by first | rfl | (simp; done) | (simp; omega)) | with_reducible apply Blk.alloc | with_reducible apply Blk.drew | with_reducible apply Blk.drewN | with_reducible apply Blk.set | ((with_reducible apply Blk.set_ne); rotate_left; (focus omega)) | ((with_reducible apply Blk.dr); rotate_left; (focus (with_reducible assumption)); (focus omega)) | ((with_reducible apply Blk.new); rotate_left; (focus (with_reducible assumption))))
    intro K4_0
    try simp only [List.setIfInBounds_toArray, List.set_cons_succ, List.set_cons_zero] at K4_0
    obtain ⟨c4_0, f4_0⟩ := K4_0.rules
    have z4_1 : w.heap.size + 1 < w4.heap.size := by omega
    apply Blk.use (w := w4) (b := w.heap.size + 1)
    · repeat (first | with_reducible assumption | with_reducible exact Blk.alloc_at (by first | rfl | (simp; done) | (simp; omega)) | with_reducible apply Blk.alloc | with_reducible apply Blk.drew | with_reducible apply Blk.drewN | with_reducible apply Blk.set | ((with_reducible apply Blk.set_ne); rotate_left; (focus omega)) | ((with_reducible apply Blk.dr); rotate_left; (focus (with_reducible assumption)); (focus omega)) | ((with_reducible apply Blk.new); rotate_left; (focus (with_reducible assumption))))
    intro K4_1
    try simp only [List.setIfInBounds_toArray, List.set_cons_succ, List.set_cons_zero] at K4_1
    obtain ⟨c4_1, f4_1⟩ := K4_1.rules
    have z4_2 : w2.heap.size < w4.heap.size := by omega
    apply Blk.use (w := w4) (b := w2.heap.size)
    · repeat (first | with_reducible assumption | with_reducible exact Blk.alloc_at (by first | rfl | (simp; done) | (simp; omega)) | with_reducible apply Blk.alloc | with_reducible apply Blk.drew | with_reducible apply Blk.drewN | with_reducible apply Blk.set | ((with_reducible apply Blk.set_ne); rotate_left; (focus omega)) | ((with_reducible apply Blk.dr); rotate_left; (focus (with_reducible assumption)); (focus omega)) | ((with_reducible apply Blk.new); rotate_left; (focus (with_reducible assumption))))
    intro K4_2
    try simp only [List.setIfInBounds_toArray, List.set_cons_succ, List.set_cons_zero] at K4_2
    obtain ⟨c4_2, f4_2⟩ := K4_2.rules
    try clear c3_0 f3_0 K3_0
    try clear c3_1 f3_1 K3_1
    try clear c3_2 f3_2 K3_2
    try clear c3_3 f3_3 K3_3
    try clear c3_4 f3_4 K3_4
    try clear c3_5 f3_5 K3_5
    try clear c2_0 f2_0 K2_0
    try clear c2_1 f2_1 K2_1
    try clear c2_2 f2_2 K2_2
    try clear c2_3 f2_3 K2_3
    try clear c2_4 f2_4 K2_4
    try clear c2_5 f2_5 K2_5
    try clear c1_0 f1_0 K1_0
    try clear c1_1 f1_1 K1_1
    try clear c1_2 f1_2 K1_2
    try clear c1_3 f1_3 K1_3
    try clear c1_4 f1_4 K1_4
    try clear c1_5 f1_5 K1_5
    have y4 : S < w4.heap.size := by omega
    go_wp2_with fail
    refine (l06Draw_any S _ (Dr.src ?hs18 hs.out)).mono ?_
    case hs18 => exact (by repeat (first | with_reducible refine Dr.setCell ?_ (by first | (simp; done) | (simp; omega) | omega) _ | with_reducible refine Dr.alloc ?_ _ | with_reducible exact Dr.refl _ _ | with_reducible assumption | with_reducible refine Dr.trans ?_ (by with_reducible assumption) | with_reducible refine Dr.trans ?_ (Dr.of_new (by with_reducible assumption)) | with_reducible refine Dr.drewN ?_ _ | with_reducible refine Dr.drew ?_))
    rintro e w5 ⟨lo, hi, rfl, b5⟩
    have z5 := b5.size
    try simp only [World.size_alloc, World.size_drew, World.heap_drewN, World.size_setCell] at z5
    have z5_0 : w.heap.size < w5.heap.size := by omega
    apply Blk.use (w := w5) (b := w.heap.size)
    · repeat (first | with_reducible assumption | with_reducible exact Blk.alloc_at (by first | rfl | (simp; done) | (simp; omega)) | with_reducible apply Blk.alloc | with_reducible apply Blk.drew | with_reducible apply Blk.drewN | with_reducible apply Blk.set | ((with_reducible apply Blk.set_ne); rotate_left; (focus omega)) | ((with_reducible apply Blk.dr); rotate_left; (focus (with_reducible assumption)); (focus omega)) | ((with_reducible apply Blk.new); rotate_left; (focus (with_reducible assumption))))
    intro K5_0
    try simp only [List.setIfInBounds_toArray, List.set_cons_succ, List.set_cons_zero] at K5_0
    obtain ⟨c5_0, f5_0⟩ := K5_0.rules
    have z5_1 : w.heap.size + 1 < w5.heap.size := by omega
    apply Blk.use (w := w5) (b := w.heap.size + 1)
    · repeat (first | with_reducible assumption | with_reducible exact Blk.alloc_at (by first | rfl | (simp; done) | (simp; omega)) | with_reducible apply Blk.alloc | with_reducible apply Blk.drew | with_reducible apply Blk.drewN | with_reducible apply Blk.set | ((with_reducible apply Blk.set_ne); rotate_left; (focus omega)) | ((with_reducible apply Blk.dr); rotate_left; (focus (with_reducible assumption)); (focus omega)) | ((with_reducible apply Blk.new); rotate_left; (focus (with_reducible assumption))))
    intro K5_1
    try simp only [List.setIfInBounds_toArray, List.set_cons_succ, List.set_cons_zero] at K5_1
    obtain ⟨c5_1, f5_1⟩ := K5_1.rules
    have z5_2 : w2.heap.size < w5.heap.size := by omega
    apply Blk.use (w := w5) (b := w2.heap.size)
    · repeat (first | with_reducible assumption | with_reducible exact Blk.alloc_at (by first | rfl | (simp; done) | (simp; omega)) | with_reducible apply Blk.alloc | with_reducible apply Blk.drew | with_reducible apply Blk.drewN | with_reducible apply Blk.set | ((with_reducible apply Blk.set_ne); rotate_left; (focus omega)) | ((with_reducible apply Blk.dr); rotate_left; (focus (with_reducible assumption)); (focus omega)) | ((with_reducible apply Blk.new); rotate_left; (focus (with_reducible assumption))))
    intro K5_2
    try simp only [List.setIfInBounds_toArray, List.set_cons_succ, List.set_cons_zero] at K5_2
    obtain ⟨c5_2, f5_2⟩ := K5_2.rules
    try clear c4_0 f4_0 K4_0
    try clear c4_1 f4_1 K4_1
    try clear c4_2 f4_2 K4_2
    try clear c4_3 f4_3 K4_3
    try clear c4_4 f4_4 K4_4
    try clear c4_5 f4_5 K4_5
    try clear c3_0 f3_0 K3_0
    try clear c3_1 f3_1 K3_1
    try clear c3_2 f3_2 K3_2
    try clear c3_3 f3_3 K3_3
    try clear c3_4 f3_4 K3_4
    try clear c3_5 f3_5 K3_5
    try clear c2_0 f2_0 K2_0
    try clear c2_1 f2_1 K2_1
    try clear c2_2 f2_2 K2_2
    try clear c2_3 f2_3 K2_3
    try clear c2_4 f2_4 K2_4
    try clear c2_5 f2_5 K2_5
    have y5 : S < w5.heap.size := by omega
    go_wp2_with fail
    refine (l01Next_n S _ _ (Dr.src ?hs19 hs.out)).mono ?_
    case hs19 => exact (by repeat (first | with_reducible refine Dr.setCell ?_ (by first | (simp; done) | (simp; omega) | omega) _ | with_reducible refine Dr.alloc ?_ _ | with_reducible exact Dr.refl _ _ | with_reducible assumption | with_reducible refine Dr.trans ?_ (by with_reducible assumption) | with_reducible refine Dr.trans ?_ (Dr.of_new (by with_reducible assumption)) | with_reducible refine Dr.drewN ?_ _ | with_reducible refine Dr.drew ?_))
    rintro e w6 ⟨r6, rfl, b6⟩
    have z6 := b6.size
    try simp only [World.size_alloc, World.size_drew, World.heap_drewN, World.size_setCell] at z6
    have z6_0 : w.heap.size < w6.heap.size := by omega
    apply Blk.use (w := w6) (b := w.heap.size)
    · repeat (first | with_reducible assumption | with_reducible exact Blk.alloc_at (by first | rfl | (simp; done) | (simp; omega)) | with_reducible apply Blk.alloc | with_reducible apply Blk.drew | with_reducible apply Blk.drewN | with_reducible apply Blk.set | ((with_reducible apply Blk.set_ne); rotate_left; (focus omega)) | ((with_reducible apply Blk.dr); rotate_left; (focus (with_reducible assumption)); (focus omega)) | ((with_reducible apply Blk.new); rotate_left; (focus (with_reducible assumption))))
    intro K6_0
    try simp only [List.setIfInBounds_toArray, List.set_cons_succ, List.set_cons_zero] at K6_0
    obtain ⟨c6_0, f6_0⟩ := K6_0.rules
    have z6_1 : w.heap.size + 1 < w6.heap.size := by omega
    apply Blk.use (w := w6) (b := w.heap.size + 1)
    · repeat (first | with_reducible assumption | with_reducible exact Blk.alloc_at (by first | rfl | (simp; done) | (simp; omega)) | with_reducible apply Blk.alloc | with_reducible apply Blk.drew | with_reducible apply Blk.drewN | with_reducible apply Blk.set | ((with_reducible apply Blk.set_ne); rotate_left; (focus omega)) | ((with_reducible apply Blk.dr); rotate_left; (focus (with_reducible assumption)); (focus omega)) | ((with_reducible apply Blk.new); rotate_left; (focus (with_reducible assumption))))
    intro K6_1
    try simp only [List.setIfInBounds_toArray, List.set_cons_succ, List.set_cons_zero] at K6_1
    obtain ⟨c6_1, f6_1⟩ := K6_1.rules
    have z6_2 : w2.heap.size < w6.heap.size := by omega
    apply Blk.use (w := w6) (b := w2.heap.size)
    · repeat (first | with_reducible assumption | with_reducible exact Blk.alloc_at (by first | rfl | (simp; done) | (simp; omega)) | with_reducible apply Blk.alloc | with_reducible apply Blk.drew | with_reducible apply Blk.drewN | with_reducible apply Blk.set | ((with_reducible apply Blk.set_ne); rotate_left; (focus omega)) | ((with_reducible apply Blk.dr); rotate_left; (focus (with_reducible assumption)); (focus omega)) | ((with_reducible apply Blk.new); rotate_left; (focus (with_reducible assumption))))
    intro K6_2
    try simp only [List.setIfInBounds_toArray, List.set_cons_succ, List.set_cons_zero] at K6_2
    obtain ⟨c6_2, f6_2⟩ := K6_2.rules
    have z6_3 : w5.heap.size < w6.heap.size := by omega
    apply Blk.use (w := w6) (b := w5.heap.size)
    · repeat (first | with_reducible assumption | with_reducible exact Blk.alloc_at (by first | rfl | (simp; done) | (simp; omega)) | with_reducible apply Blk.alloc | with_reducible apply Blk.drew | with_reducible apply Blk.drewN | with_reducible apply Blk.set | ((with_reducible apply Blk.set_ne); rotate_left; (focus omega)) | ((with_reducible apply Blk.dr); rotate_left; (focus (with_reducible assumption)); (focus omega)) | ((with_reducible apply Blk.new); rotate_left; (focus (with_reducible assumption))))
    intro K6_3
    try simp only [List.setIfInBounds_toArray, List.set_cons_succ, List.set_cons_zero] at K6_3
    obtain ⟨c6_3, f6_3⟩ := K6_3.rules
    try clear c5_0 f5_0 K5_0
    try clear c5_1 f5_1 K5_1
    try clear c5_2 f5_2 K5_2
    try clear c5_3 f5_3 K5_3
    try clear c5_4 f5_4 K5_4
    try clear c5_5 f5_5 K5_5
    try clear c4_0 f4_0 K4_0
    try clear c4_1 f4_1 K4_1
    try clear c4_2 f4_2 K4_2
    try clear c4_3 f4_3 K4_3
    try clear c4_4 f4_4 K4_4
    try clear c4_5 f4_5 K4_5
    try clear c3_0 f3_0 K3_0
    try clear c3_1 f3_1 K3_1
    try clear c3_2 f3_2 K3_2
    try clear c3_3 f3_3 K3_3
    try clear c3_4 f3_4 K3_4
    try clear c3_5 f3_5 K3_5
    have y6 : S < w6.heap.size := by omega
    go_wp2_with fail
    · skip
      have hL9 : LateOK S w6 [(w.heap.size, (#[.int .i64 k', .int .i64 len', .int .i64 rise', .int .i64 rl', .int .i64 rh', .int .i64 fl', .int .i64 fh']), 46), (w.heap.size + 1, #[.int .i64 lo, .int .i64 hi], 42)] := ⟨⟨by omega, by omega⟩, ⟨by omega, by omega⟩, trivial⟩
      have hM9 : ∀ x ∈ ([(w.heap.size, (#[.int .i64 k', .int .i64 len', .int .i64 rise', .int .i64 rl', .int .i64 rh', .int .i64 fl', .int .i64 fh']), 46), (w.heap.size + 1, #[.int .i64 lo, .int .i64 hi], 42)] : Late), x.1 < w6.heap.size := fun x hx => (LateOK.get hL9 x hx).2
      refine RQ.wp_facts (Dq.ord S [(w.heap.size, (#[.int .i64 k', .int .i64 len', .int .i64 rise', .int .i64 rl', .int .i64 rh', .int .i64 fl', .int .i64 fh']), 46), (w.heap.size + 1, #[.int .i64 lo, .int .i64 hi], 42)]) [fun X _ => X = .agg #[.int .i64 k', .int .i64 len', .int .i64 rise', .int .i64 rl', .int .i64 rh', .int .i64 fl', .int .i64 fh'], fun X _ => X = .agg #[.int .i64 lo, .int .i64 hi], fun X _ => X = .pointer (some ⟨S, 0, none⟩), fun X W' => RdM S w6.heap.size W' X [-1, 0, 10000000000, 10000000001], fun X W' => ∃ r : Int, X = .int .i64 r, fun X W' => Blk W' (w.heap.size) ((#[.int .i64 k', .int .i64 len', .int .i64 rise', .int .i64 rl', .int .i64 rh', .int .i64 fl', .int .i64 fh'])) (46), fun X W' => Blk W' (w.heap.size + 1) (#[.int .i64 lo, .int .i64 hi]) (42)] (by kernel_rfl) (by kernel_rfl) ⟨RQ.stable_eq _, RQ.stable_eq _, RQ.stable_eq _, fun X w0 w1 hn k25 => RdM.dq k25 hn hM9, fun X w0 w1 hn ⟨r26, t26⟩ => ⟨r26, t26⟩, fun X w0 w1 hn kb0 => Blk.kept kb0 hn (by simp), fun X w0 w1 hn kb1 => Blk.kept kb1 hn (by simp), trivial⟩ ?_ ?_
      · refine ⟨?_, ?_, ?_, ?_, ?_, ?_, ?_, trivial⟩
        · intro a w9 hw ho hk
          refine .inl ⟨by rfl, ?_⟩
          have s6 := ho 6 rfl
          dsimp at s6
          have K9 := Blk.dq K6_2 hw (by omega) ⟨by omega, by omega, trivial⟩
          obtain ⟨c9, f9⟩ := K9.rules
          go_simp
          exact Dq.refl _ _ _
        · intro a w9 hw ho hk
          refine .inl ⟨by rfl, ?_⟩
          have s7 := ho 7 rfl
          dsimp at s7
          have K9 := Blk.dq K6_3 hw (by omega) ⟨by omega, by omega, trivial⟩
          obtain ⟨c9, f9⟩ := K9.rules
          go_simp
          exact Dq.refl _ _ _
        · intro a w9 hw ho hk
          refine .inl ⟨by rfl, ?_⟩
          have s5 := ho 5 rfl
          dsimp at s5
          go_simp
          exact Dq.refl _ _ _
        · intro a w9 hw ho hk
          refine .inl ⟨by rfl, ?_⟩
          go_simp
          have hl9 : S < w9.heap.size := by have := hw.size; first | omega | (simp at this; omega)
          have hm9 : w6.heap.size ≤ w9.heap.size := by have := hw.size; first | omega | (simp at this; omega)
          first | exact ⟨Dq.of_dr ((Dr.refl _ _).alloc _) (hL9.mono hw.size), _, rfl, rdM_lit [-1, 0, 10000000000, 10000000001] hl9 hm9⟩ | exact ⟨Dq.of_dr ((Dr.refl _ _).alloc _) (hL9.mono hw.size), rdM_lit [-1, 0, 10000000000, 10000000001] hl9 hm9⟩
        · intro a w9 hw ho hk
          refine .inl ⟨by rfl, ?_⟩
          have t24 : a.tmps[24]?.getD undef = .pointer (some ⟨S, 0, none⟩) := hk 2 24 (by kernel_rfl) rfl
          obtain k25 : RdM S w6.heap.size w9 (a.tmps[25]?.getD undef) [-1, 0, 10000000000, 10000000001] := hk 3 25 (by kernel_rfl) rfl
          go_simp
          refine (l01Pick_n S _ [-1, 0, 10000000000, 10000000001] _ k25.1 (Dq.src hw (by intro x hx; simp at hx; rcases hx with rfl | rfl <;> first | (simp; done) | (simp; omega) | omega) (Dr.src (by repeat (first | with_reducible refine Dr.setCell ?_ (by first | (simp; done) | (simp; omega) | omega) _ | with_reducible refine Dr.alloc ?_ _ | with_reducible exact Dr.refl _ _ | with_reducible assumption | with_reducible refine Dr.trans ?_ (by with_reducible assumption) | with_reducible refine Dr.trans ?_ (Dr.of_new (by with_reducible assumption)) | with_reducible refine Dr.drewN ?_ _ | with_reducible refine Dr.drew ?_)) hs.out))).mono ?_; rintro e w2 ⟨r, rfl, hb⟩
          first | exact ⟨Dq.of_dr hb (hL9.mono hw.size), _, rfl, _, rfl⟩ | exact ⟨Dq.of_dr hb (hL9.mono hw.size), _, by simp⟩
        · intro a w9 hw ho hk
          refine .inl ⟨by rfl, ?_⟩
          have s2 := ho 2 rfl
          dsimp at s2
          have t22 : a.tmps[22]?.getD undef = .agg #[.int .i64 k', .int .i64 len', .int .i64 rise', .int .i64 rl', .int .i64 rh', .int .i64 fl', .int .i64 fh'] := hk 0 22 (by kernel_rfl) rfl
          rcases Blk.late K6_0 hw (by simp : ((w.heap.size, (#[.int .i64 k', .int .i64 len', .int .i64 rise', .int .i64 rl', .int .i64 rh', .int .i64 fl', .int .i64 fh']), 46) : Nat × Array Value × TypeId) ∈ ([(w.heap.size, (#[.int .i64 k', .int .i64 len', .int .i64 rise', .int .i64 rl', .int .i64 rh', .int .i64 fl', .int .i64 fh']), 46), (w.heap.size + 1, #[.int .i64 lo, .int .i64 hi], 42)] : Late)) with K9 | K9
          all_goals obtain ⟨c9, f9⟩ := K9.rules
          all_goals go_simp
          all_goals refine Dq.stored2 (b := w.heap.size) (F := (#[.int .i64 k', .int .i64 len', .int .i64 rise', .int .i64 rl', .int .i64 rh', .int .i64 fl', .int .i64 fh'])) (T := 46) (by repeat (first | with_reducible exact Same1.refl _ _ | with_reducible refine Same1.set ?_ _ _)) ?_ (by simp) (by intro x hx; simp at hx; rcases hx with rfl | rfl <;> first | (intro _; rfl) | (intro h; exfalso; simp at h; done) | (intro h; exfalso; simp at h; omega)) (by omega)
          all_goals
            apply blk_cast
            · repeat (first | with_reducible exact K9 | with_reducible apply Blk.set)
            · rfl
        · intro a w9 hw ho hk
          refine .inl ⟨by rfl, ?_⟩
          have s3 := ho 3 rfl
          dsimp at s3
          have t23 : a.tmps[23]?.getD undef = .agg #[.int .i64 lo, .int .i64 hi] := hk 1 23 (by kernel_rfl) rfl
          rcases Blk.late K6_1 hw (by simp : ((w.heap.size + 1, #[.int .i64 lo, .int .i64 hi], 42) : Nat × Array Value × TypeId) ∈ ([(w.heap.size, (#[.int .i64 k', .int .i64 len', .int .i64 rise', .int .i64 rl', .int .i64 rh', .int .i64 fl', .int .i64 fh']), 46), (w.heap.size + 1, #[.int .i64 lo, .int .i64 hi], 42)] : Late)) with K9 | K9
          all_goals obtain ⟨c9, f9⟩ := K9.rules
          all_goals go_simp
          all_goals refine Dq.stored2 (b := w.heap.size + 1) (F := #[.int .i64 lo, .int .i64 hi]) (T := 42) (by repeat (first | with_reducible exact Same1.refl _ _ | with_reducible refine Same1.set ?_ _ _)) ?_ (by simp) (by intro x hx; simp at hx; rcases hx with rfl | rfl <;> first | (intro _; rfl) | (intro h; exfalso; simp at h; done) | (intro h; exfalso; simp at h; omega)) (by omega)
          all_goals
            apply blk_cast
            · repeat (first | with_reducible exact K9 | with_reducible apply Blk.set)
            · rfl
      intro w7 b7
      rintro _ rfl
      rintro _ rfl
      rintro _ rfl
      rintro _ k25
      rintro _ ⟨r26, rfl⟩
      rintro _ kb0
      rintro _ kb1
      obtain ⟨cl0, fl0⟩ := kb0.rules
      obtain ⟨cl1, fl1⟩ := kb1.rules
      simp only [RQ.EndAll, List.nil_append, List.cons_append, List.length_cons, List.length_nil, Nat.zero_add, Nat.reduceAdd, List.take_succ_cons, List.take_zero, List.drop_succ_cons, List.drop_zero, RQ.putAll, Act.put, List.setIfInBounds_toArray, List.set_cons_succ, List.set_cons_zero]
      go_wp2_with fail
      apply ret_lf rfl (Dq.new (w0 := w) (Dr.new (S := S) (w0 := w) (w := w1) (by repeat (first | with_reducible exact New.refl _ | with_reducible assumption | with_reducible refine New.drew ?_ | with_reducible refine New.drewN ?_ _ | with_reducible refine New.alloc ?_ _ | with_reducible refine New.setCell ?_ (by first | (simp; done) | (simp; omega) | omega) _ | with_reducible refine New.trans ?_ (by with_reducible assumption))) (by repeat (first | with_reducible refine Dr.setCell ?_ (by first | (simp; done) | (simp; omega) | omega) _ | with_reducible refine Dr.alloc ?_ _ | with_reducible exact Dr.refl _ _ | with_reducible assumption | with_reducible refine Dr.trans ?_ (by with_reducible assumption) | with_reducible refine Dr.trans ?_ (Dr.of_new (by with_reducible assumption)) | with_reducible refine Dr.drewN ?_ _ | with_reducible refine Dr.drew ?_)) (by omega)) b7 (by omega) (by intro x hx; simp at hx; rcases hx with rfl | rfl <;> simp))
      simp [results, Try.results35, go_sem, cl0, cl1]
      exact ⟨⟨rfl, rfl, rfl, rfl, rfl, rfl, rfl⟩, ⟨rfl, rfl⟩, rfl⟩
    · skip
      have hL9 : LateOK S w6 [(w.heap.size, (#[.int .i64 k', .int .i64 len', .int .i64 rise', .int .i64 rl', .int .i64 rh', .int .i64 fl', .int .i64 fh']), 46), (w.heap.size + 1, #[.int .i64 lo, .int .i64 hi], 42)] := ⟨⟨by omega, by omega⟩, ⟨by omega, by omega⟩, trivial⟩
      have hM9 : ∀ x ∈ ([(w.heap.size, (#[.int .i64 k', .int .i64 len', .int .i64 rise', .int .i64 rl', .int .i64 rh', .int .i64 fl', .int .i64 fh']), 46), (w.heap.size + 1, #[.int .i64 lo, .int .i64 hi], 42)] : Late), x.1 < w6.heap.size := fun x hx => (LateOK.get hL9 x hx).2
      refine RQ.wp_facts (Dq.ord S [(w.heap.size, (#[.int .i64 k', .int .i64 len', .int .i64 rise', .int .i64 rl', .int .i64 rh', .int .i64 fl', .int .i64 fh']), 46), (w.heap.size + 1, #[.int .i64 lo, .int .i64 hi], 42)]) [fun X _ => X = .agg #[.int .i64 k', .int .i64 len', .int .i64 rise', .int .i64 rl', .int .i64 rh', .int .i64 fl', .int .i64 fh'], fun X _ => X = .agg #[.int .i64 lo, .int .i64 hi], fun X _ => X = .pointer (some ⟨w5.heap.size, 0, none⟩), fun X _ => X = .int .i64 lo, fun X _ => X = .agg #[.int .i64 k', .int .i64 len', .int .i64 rise', .int .i64 rl', .int .i64 rh', .int .i64 fl', .int .i64 fh'], fun X W' => ∃ x y : Int, X = .agg #[.int .i64 x, .int .i64 y], fun X W' => ∃ r : Int, X = .int .i64 r, fun X W' => ∃ r : Int, X = .int .i64 r, fun X _ => X = .pointer (some ⟨w2.heap.size, 1, none⟩), fun X _ => X = .int .i64 len', fun X W' => ∃ r : Int, X = .int .i64 r, fun X _ => X = .pointer (some ⟨S, 0, none⟩), fun X W' => ∃ r : Int, X = .int .i64 r, fun X W' => ∃ r : Int, X = .int .i64 r, fun X W' => ∃ r : Int, X = .int .i64 r, fun X _ => X = .pointer (some ⟨S, 0, none⟩), fun X W' => ∃ r : Int, X = .int .i64 r, fun X W' => ∃ r : Int, X = .int .i64 r, fun X W' => ∃ r : Int, X = .int .i64 r, fun X W' => ∃ r : Int, X = .int .i64 r, fun X W' => Blk W' (w.heap.size) ((#[.int .i64 k', .int .i64 len', .int .i64 rise', .int .i64 rl', .int .i64 rh', .int .i64 fl', .int .i64 fh'])) (46), fun X W' => Blk W' (w.heap.size + 1) (#[.int .i64 lo, .int .i64 hi]) (42)] (by kernel_rfl) (by kernel_rfl) ⟨RQ.stable_eq _, RQ.stable_eq _, RQ.stable_eq _, RQ.stable_eq _, RQ.stable_eq _, fun X w0 w1 hn ⟨p32, q32, t32⟩ => ⟨p32, q32, t32⟩, fun X w0 w1 hn ⟨r33, t33⟩ => ⟨r33, t33⟩, fun X w0 w1 hn ⟨r34, t34⟩ => ⟨r34, t34⟩, RQ.stable_eq _, RQ.stable_eq _, fun X w0 w1 hn ⟨r37, t37⟩ => ⟨r37, t37⟩, RQ.stable_eq _, fun X w0 w1 hn ⟨r39, t39⟩ => ⟨r39, t39⟩, fun X w0 w1 hn ⟨r40, t40⟩ => ⟨r40, t40⟩, fun X w0 w1 hn ⟨r41, t41⟩ => ⟨r41, t41⟩, RQ.stable_eq _, fun X w0 w1 hn ⟨r43, t43⟩ => ⟨r43, t43⟩, fun X w0 w1 hn ⟨r44, t44⟩ => ⟨r44, t44⟩, fun X w0 w1 hn ⟨r45, t45⟩ => ⟨r45, t45⟩, fun X w0 w1 hn ⟨r46, t46⟩ => ⟨r46, t46⟩, fun X w0 w1 hn kb0 => Blk.kept kb0 hn (by simp), fun X w0 w1 hn kb1 => Blk.kept kb1 hn (by simp), trivial⟩ ?_ ?_
      · refine ⟨?_, ?_, ?_, ?_, ?_, ?_, ?_, ?_, ?_, ?_, ?_, ?_, ?_, ?_, ?_, ?_, ?_, ?_, ?_, ?_, ?_, ?_, trivial⟩
        · intro a w9 hw ho hk
          refine .inl ⟨by rfl, ?_⟩
          have s6 := ho 6 rfl
          dsimp at s6
          have K9 := Blk.dq K6_2 hw (by omega) ⟨by omega, by omega, trivial⟩
          obtain ⟨c9, f9⟩ := K9.rules
          go_simp
          exact Dq.refl _ _ _
        · intro a w9 hw ho hk
          refine .inl ⟨by rfl, ?_⟩
          have s7 := ho 7 rfl
          dsimp at s7
          have K9 := Blk.dq K6_3 hw (by omega) ⟨by omega, by omega, trivial⟩
          obtain ⟨c9, f9⟩ := K9.rules
          go_simp
          exact Dq.refl _ _ _
        · intro a w9 hw ho hk
          refine .inl ⟨by rfl, ?_⟩
          have s7 := ho 7 rfl
          dsimp at s7
          go_simp
          exact Dq.refl _ _ _
        · intro a w9 hw ho hk
          refine .inl ⟨by rfl, ?_⟩
          have t29 : a.tmps[29]?.getD undef = .pointer (some ⟨w5.heap.size, 0, none⟩) := hk 2 29 (by kernel_rfl) rfl
          have K9 := Blk.dq K6_3 hw (by omega) ⟨by omega, by omega, trivial⟩
          obtain ⟨c9, f9⟩ := K9.rules
          go_simp
          exact Dq.refl _ _ _
        · intro a w9 hw ho hk
          refine .inl ⟨by rfl, ?_⟩
          have s6 := ho 6 rfl
          dsimp at s6
          have K9 := Blk.dq K6_2 hw (by omega) ⟨by omega, by omega, trivial⟩
          obtain ⟨c9, f9⟩ := K9.rules
          go_simp
          exact Dq.refl _ _ _
        · intro a w9 hw ho hk
          refine .inl ⟨by rfl, ?_⟩
          have t31 : a.tmps[31]?.getD undef = .agg #[.int .i64 k', .int .i64 len', .int .i64 rise', .int .i64 rl', .int .i64 rh', .int .i64 fl', .int .i64 fh'] := hk 4 31 (by kernel_rfl) rfl
          go_simp
          refine (l06ChangeW_any _ _ _ _ _ _ _ _).mono ?_; rintro e w2 ⟨x, y, rfl, hb⟩
          replace hb := Dr.of_new (S := S) hb
          replace hb := Dq.of_dr hb (hL9.mono hw.size)
          first | exact ⟨hb, _, rfl, _, _, rfl⟩ | exact ⟨hb, _, by simp⟩
        · intro a w9 hw ho hk
          refine .inl ⟨by rfl, ?_⟩
          obtain ⟨p32, q32, t32⟩ : ∃ x y : Int, (a.tmps[32]?.getD undef) = .agg #[.int .i64 x, .int .i64 y] := hk 5 32 (by kernel_rfl) rfl
          go_simp
          first | exact ⟨Dq.refl _ _ _, _, rfl, _, rfl⟩ | exact ⟨Dq.refl _ _ _, _, by simp⟩
        · intro a w9 hw ho hk
          refine .inl ⟨by rfl, ?_⟩
          have t30 : a.tmps[30]?.getD undef = .int .i64 lo := hk 3 30 (by kernel_rfl) rfl
          obtain ⟨r33, t33⟩ : ∃ r : Int, (a.tmps[33]?.getD undef) = .int .i64 r := hk 6 33 (by kernel_rfl) rfl
          go_simp
          first | exact ⟨Dq.refl _ _ _, _, rfl, _, rfl⟩ | exact ⟨Dq.refl _ _ _, _, by simp⟩
        · intro a w9 hw ho hk
          refine .inl ⟨by rfl, ?_⟩
          have s6 := ho 6 rfl
          dsimp at s6
          go_simp
          exact Dq.refl _ _ _
        · intro a w9 hw ho hk
          refine .inl ⟨by rfl, ?_⟩
          have t35 : a.tmps[35]?.getD undef = .pointer (some ⟨w2.heap.size, 1, none⟩) := hk 8 35 (by kernel_rfl) rfl
          have K9 := Blk.dq K6_2 hw (by omega) ⟨by omega, by omega, trivial⟩
          obtain ⟨c9, f9⟩ := K9.rules
          go_simp
          exact Dq.refl _ _ _
        · intro a w9 hw ho hk
          refine .inl ⟨by rfl, ?_⟩
          have t36 : a.tmps[36]?.getD undef = .int .i64 len' := hk 9 36 (by kernel_rfl) rfl
          go_simp
          first | exact ⟨Dq.refl _ _ _, _, rfl, _, rfl⟩ | exact ⟨Dq.refl _ _ _, _, by simp⟩
        · intro a w9 hw ho hk
          refine .inl ⟨by rfl, ?_⟩
          have s5 := ho 5 rfl
          dsimp at s5
          go_simp
          exact Dq.refl _ _ _
        · intro a w9 hw ho hk
          refine .inl ⟨by rfl, ?_⟩
          have t38 : a.tmps[38]?.getD undef = .pointer (some ⟨S, 0, none⟩) := hk 11 38 (by kernel_rfl) rfl
          go_simp
          refine (l01Next_n S _ _ (Dq.src hw (by intro x hx; simp at hx; rcases hx with rfl | rfl <;> first | (simp; done) | (simp; omega) | omega) (Dr.src (by repeat (first | with_reducible refine Dr.setCell ?_ (by first | (simp; done) | (simp; omega) | omega) _ | with_reducible refine Dr.alloc ?_ _ | with_reducible exact Dr.refl _ _ | with_reducible assumption | with_reducible refine Dr.trans ?_ (by with_reducible assumption) | with_reducible refine Dr.trans ?_ (Dr.of_new (by with_reducible assumption)) | with_reducible refine Dr.drewN ?_ _ | with_reducible refine Dr.drew ?_)) hs.out))).mono ?_; rintro e w2 ⟨r, rfl, hb⟩
          first | exact ⟨Dq.of_dr hb (hL9.mono hw.size), _, rfl, _, rfl⟩ | exact ⟨Dq.of_dr hb (hL9.mono hw.size), _, by simp⟩
        · intro a w9 hw ho hk
          refine .inl ⟨by rfl, ?_⟩
          obtain ⟨r37, t37⟩ : ∃ r : Int, (a.tmps[37]?.getD undef) = .int .i64 r := hk 10 37 (by kernel_rfl) rfl
          obtain ⟨r39, t39⟩ : ∃ r : Int, (a.tmps[39]?.getD undef) = .int .i64 r := hk 12 39 (by kernel_rfl) rfl
          go_simp
          first | exact ⟨Dq.refl _ _ _, _, rfl, _, rfl⟩ | exact ⟨Dq.refl _ _ _, _, by simp⟩
        · intro a w9 hw ho hk
          refine .inl ⟨by rfl, ?_⟩
          obtain ⟨r34, t34⟩ : ∃ r : Int, (a.tmps[34]?.getD undef) = .int .i64 r := hk 7 34 (by kernel_rfl) rfl
          obtain ⟨r40, t40⟩ : ∃ r : Int, (a.tmps[40]?.getD undef) = .int .i64 r := hk 13 40 (by kernel_rfl) rfl
          go_simp
          first | exact ⟨Dq.refl _ _ _, _, rfl, _, rfl⟩ | exact ⟨Dq.refl _ _ _, _, by simp⟩
        · intro a w9 hw ho hk
          refine .inl ⟨by rfl, ?_⟩
          have s5 := ho 5 rfl
          dsimp at s5
          go_simp
          exact Dq.refl _ _ _
        · intro a w9 hw ho hk
          refine .inl ⟨by rfl, ?_⟩
          have t42 : a.tmps[42]?.getD undef = .pointer (some ⟨S, 0, none⟩) := hk 15 42 (by kernel_rfl) rfl
          go_simp
          refine (l01Next_n S _ _ (Dq.src hw (by intro x hx; simp at hx; rcases hx with rfl | rfl <;> first | (simp; done) | (simp; omega) | omega) (Dr.src (by repeat (first | with_reducible refine Dr.setCell ?_ (by first | (simp; done) | (simp; omega) | omega) _ | with_reducible refine Dr.alloc ?_ _ | with_reducible exact Dr.refl _ _ | with_reducible assumption | with_reducible refine Dr.trans ?_ (by with_reducible assumption) | with_reducible refine Dr.trans ?_ (Dr.of_new (by with_reducible assumption)) | with_reducible refine Dr.drewN ?_ _ | with_reducible refine Dr.drew ?_)) hs.out))).mono ?_; rintro e w2 ⟨r, rfl, hb⟩
          first | exact ⟨Dq.of_dr hb (hL9.mono hw.size), _, rfl, _, rfl⟩ | exact ⟨Dq.of_dr hb (hL9.mono hw.size), _, by simp⟩
        · intro a w9 hw ho hk
          refine .inl ⟨by rfl, ?_⟩
          obtain ⟨r41, t41⟩ : ∃ r : Int, (a.tmps[41]?.getD undef) = .int .i64 r := hk 14 41 (by kernel_rfl) rfl
          obtain ⟨r43, t43⟩ : ∃ r : Int, (a.tmps[43]?.getD undef) = .int .i64 r := hk 16 43 (by kernel_rfl) rfl
          go_simp
          first | exact ⟨Dq.refl _ _ _, _, rfl, _, rfl⟩ | exact ⟨Dq.refl _ _ _, _, by simp⟩
        · intro a w9 hw ho hk
          refine .inl ⟨by rfl, ?_⟩
          obtain ⟨r44, t44⟩ : ∃ r : Int, (a.tmps[44]?.getD undef) = .int .i64 r := hk 17 44 (by kernel_rfl) rfl
          go_simp
          first | exact ⟨Dq.refl _ _ _, _, rfl, _, rfl⟩ | exact ⟨Dq.refl _ _ _, _, by simp⟩
        · intro a w9 hw ho hk
          refine .inl ⟨by rfl, ?_⟩
          obtain ⟨r45, t45⟩ : ∃ r : Int, (a.tmps[45]?.getD undef) = .int .i64 r := hk 18 45 (by kernel_rfl) rfl
          go_simp
          first | exact ⟨Dq.refl _ _ _, _, rfl, _, rfl⟩ | exact ⟨Dq.refl _ _ _, _, by simp⟩
        · intro a w9 hw ho hk
          refine .inl ⟨by rfl, ?_⟩
          have s2 := ho 2 rfl
          dsimp at s2
          have t27 : a.tmps[27]?.getD undef = .agg #[.int .i64 k', .int .i64 len', .int .i64 rise', .int .i64 rl', .int .i64 rh', .int .i64 fl', .int .i64 fh'] := hk 0 27 (by kernel_rfl) rfl
          rcases Blk.late K6_0 hw (by simp : ((w.heap.size, (#[.int .i64 k', .int .i64 len', .int .i64 rise', .int .i64 rl', .int .i64 rh', .int .i64 fl', .int .i64 fh']), 46) : Nat × Array Value × TypeId) ∈ ([(w.heap.size, (#[.int .i64 k', .int .i64 len', .int .i64 rise', .int .i64 rl', .int .i64 rh', .int .i64 fl', .int .i64 fh']), 46), (w.heap.size + 1, #[.int .i64 lo, .int .i64 hi], 42)] : Late)) with K9 | K9
          all_goals obtain ⟨c9, f9⟩ := K9.rules
          all_goals go_simp
          all_goals refine Dq.stored2 (b := w.heap.size) (F := (#[.int .i64 k', .int .i64 len', .int .i64 rise', .int .i64 rl', .int .i64 rh', .int .i64 fl', .int .i64 fh'])) (T := 46) (by repeat (first | with_reducible exact Same1.refl _ _ | with_reducible refine Same1.set ?_ _ _)) ?_ (by simp) (by intro x hx; simp at hx; rcases hx with rfl | rfl <;> first | (intro _; rfl) | (intro h; exfalso; simp at h; done) | (intro h; exfalso; simp at h; omega)) (by omega)
          all_goals
            apply blk_cast
            · repeat (first | with_reducible exact K9 | with_reducible apply Blk.set)
            · rfl
        · intro a w9 hw ho hk
          refine .inl ⟨by rfl, ?_⟩
          have s3 := ho 3 rfl
          dsimp at s3
          have t28 : a.tmps[28]?.getD undef = .agg #[.int .i64 lo, .int .i64 hi] := hk 1 28 (by kernel_rfl) rfl
          rcases Blk.late K6_1 hw (by simp : ((w.heap.size + 1, #[.int .i64 lo, .int .i64 hi], 42) : Nat × Array Value × TypeId) ∈ ([(w.heap.size, (#[.int .i64 k', .int .i64 len', .int .i64 rise', .int .i64 rl', .int .i64 rh', .int .i64 fl', .int .i64 fh']), 46), (w.heap.size + 1, #[.int .i64 lo, .int .i64 hi], 42)] : Late)) with K9 | K9
          all_goals obtain ⟨c9, f9⟩ := K9.rules
          all_goals go_simp
          all_goals refine Dq.stored2 (b := w.heap.size + 1) (F := #[.int .i64 lo, .int .i64 hi]) (T := 42) (by repeat (first | with_reducible exact Same1.refl _ _ | with_reducible refine Same1.set ?_ _ _)) ?_ (by simp) (by intro x hx; simp at hx; rcases hx with rfl | rfl <;> first | (intro _; rfl) | (intro h; exfalso; simp at h; done) | (intro h; exfalso; simp at h; omega)) (by omega)
          all_goals
            apply blk_cast
            · repeat (first | with_reducible exact K9 | with_reducible apply Blk.set)
            · rfl
      intro w7 b7
      rintro _ rfl
      rintro _ rfl
      rintro _ rfl
      rintro _ rfl
      rintro _ rfl
      rintro _ ⟨p32, q32, rfl⟩
      rintro _ ⟨r33, rfl⟩
      rintro _ ⟨r34, rfl⟩
      rintro _ rfl
      rintro _ rfl
      rintro _ ⟨r37, rfl⟩
      rintro _ rfl
      rintro _ ⟨r39, rfl⟩
      rintro _ ⟨r40, rfl⟩
      rintro _ ⟨r41, rfl⟩
      rintro _ rfl
      rintro _ ⟨r43, rfl⟩
      rintro _ ⟨r44, rfl⟩
      rintro _ ⟨r45, rfl⟩
      rintro _ ⟨r46, rfl⟩
      rintro _ kb0
      rintro _ kb1
      obtain ⟨cl0, fl0⟩ := kb0.rules
      obtain ⟨cl1, fl1⟩ := kb1.rules
      simp only [RQ.EndAll, List.nil_append, List.cons_append, List.length_cons, List.length_nil, Nat.zero_add, Nat.reduceAdd, List.take_succ_cons, List.take_zero, List.drop_succ_cons, List.drop_zero, RQ.putAll, Act.put, List.setIfInBounds_toArray, List.set_cons_succ, List.set_cons_zero]
      go_wp2_with fail
      apply ret_lf rfl (Dq.new (w0 := w) (Dr.new (S := S) (w0 := w) (w := w1) (by repeat (first | with_reducible exact New.refl _ | with_reducible assumption | with_reducible refine New.drew ?_ | with_reducible refine New.drewN ?_ _ | with_reducible refine New.alloc ?_ _ | with_reducible refine New.setCell ?_ (by first | (simp; done) | (simp; omega) | omega) _ | with_reducible refine New.trans ?_ (by with_reducible assumption))) (by repeat (first | with_reducible refine Dr.setCell ?_ (by first | (simp; done) | (simp; omega) | omega) _ | with_reducible refine Dr.alloc ?_ _ | with_reducible exact Dr.refl _ _ | with_reducible assumption | with_reducible refine Dr.trans ?_ (by with_reducible assumption) | with_reducible refine Dr.trans ?_ (Dr.of_new (by with_reducible assumption)) | with_reducible refine Dr.drewN ?_ _ | with_reducible refine Dr.drew ?_)) (by omega)) b7 (by omega) (by intro x hx; simp at hx; rcases hx with rfl | rfl <;> simp))
      simp [results, Try.results35, go_sem, cl0, cl1]
      exact ⟨⟨rfl, rfl, rfl, rfl, rfl, rfl, rfl⟩, ⟨rfl, rfl⟩, rfl⟩
  · skip
    refine (l06Draw_any S _ (Dr.src ?hs20 hs.out)).mono ?_
    case hs20 => exact (by repeat (first | with_reducible refine Dr.setCell ?_ (by first | (simp; done) | (simp; omega) | omega) _ | with_reducible refine Dr.alloc ?_ _ | with_reducible exact Dr.refl _ _ | with_reducible assumption | with_reducible refine Dr.trans ?_ (by with_reducible assumption) | with_reducible refine Dr.trans ?_ (Dr.of_new (by with_reducible assumption)) | with_reducible refine Dr.drewN ?_ _ | with_reducible refine Dr.drew ?_))
    rintro e w5 ⟨lo, hi, rfl, b5⟩
    have z5 := b5.size
    try simp only [World.size_alloc, World.size_drew, World.heap_drewN, World.size_setCell] at z5
    have z5_0 : w.heap.size < w5.heap.size := by omega
    apply Blk.use (w := w5) (b := w.heap.size)
    · repeat (first | with_reducible assumption | with_reducible exact Blk.alloc_at (by first | rfl | (simp; done) | (simp; omega)) | with_reducible apply Blk.alloc | with_reducible apply Blk.drew | with_reducible apply Blk.drewN | with_reducible apply Blk.set | ((with_reducible apply Blk.set_ne); rotate_left; (focus omega)) | ((with_reducible apply Blk.dr); rotate_left; (focus (with_reducible assumption)); (focus omega)) | ((with_reducible apply Blk.new); rotate_left; (focus (with_reducible assumption))))
    intro K5_0
    try simp only [List.setIfInBounds_toArray, List.set_cons_succ, List.set_cons_zero] at K5_0
    obtain ⟨c5_0, f5_0⟩ := K5_0.rules
    have z5_1 : w.heap.size + 1 < w5.heap.size := by omega
    apply Blk.use (w := w5) (b := w.heap.size + 1)
    · repeat (first | with_reducible assumption | with_reducible exact Blk.alloc_at (by first | rfl | (simp; done) | (simp; omega)) | with_reducible apply Blk.alloc | with_reducible apply Blk.drew | with_reducible apply Blk.drewN | with_reducible apply Blk.set | ((with_reducible apply Blk.set_ne); rotate_left; (focus omega)) | ((with_reducible apply Blk.dr); rotate_left; (focus (with_reducible assumption)); (focus omega)) | ((with_reducible apply Blk.new); rotate_left; (focus (with_reducible assumption))))
    intro K5_1
    try simp only [List.setIfInBounds_toArray, List.set_cons_succ, List.set_cons_zero] at K5_1
    obtain ⟨c5_1, f5_1⟩ := K5_1.rules
    have z5_2 : w2.heap.size < w5.heap.size := by omega
    apply Blk.use (w := w5) (b := w2.heap.size)
    · repeat (first | with_reducible assumption | with_reducible exact Blk.alloc_at (by first | rfl | (simp; done) | (simp; omega)) | with_reducible apply Blk.alloc | with_reducible apply Blk.drew | with_reducible apply Blk.drewN | with_reducible apply Blk.set | ((with_reducible apply Blk.set_ne); rotate_left; (focus omega)) | ((with_reducible apply Blk.dr); rotate_left; (focus (with_reducible assumption)); (focus omega)) | ((with_reducible apply Blk.new); rotate_left; (focus (with_reducible assumption))))
    intro K5_2
    try simp only [List.setIfInBounds_toArray, List.set_cons_succ, List.set_cons_zero] at K5_2
    obtain ⟨c5_2, f5_2⟩ := K5_2.rules
    try clear c4_0 f4_0 K4_0
    try clear c4_1 f4_1 K4_1
    try clear c4_2 f4_2 K4_2
    try clear c4_3 f4_3 K4_3
    try clear c4_4 f4_4 K4_4
    try clear c4_5 f4_5 K4_5
    try clear c3_0 f3_0 K3_0
    try clear c3_1 f3_1 K3_1
    try clear c3_2 f3_2 K3_2
    try clear c3_3 f3_3 K3_3
    try clear c3_4 f3_4 K3_4
    try clear c3_5 f3_5 K3_5
    try clear c2_0 f2_0 K2_0
    try clear c2_1 f2_1 K2_1
    try clear c2_2 f2_2 K2_2
    try clear c2_3 f2_3 K2_3
    try clear c2_4 f2_4 K2_4
    try clear c2_5 f2_5 K2_5
    have y5 : S < w5.heap.size := by omega
    go_wp2_with fail
    refine (l01Next_n S _ _ (Dr.src ?hs21 hs.out)).mono ?_
    case hs21 => exact (by repeat (first | with_reducible refine Dr.setCell ?_ (by first | (simp; done) | (simp; omega) | omega) _ | with_reducible refine Dr.alloc ?_ _ | with_reducible exact Dr.refl _ _ | with_reducible assumption | with_reducible refine Dr.trans ?_ (by with_reducible assumption) | with_reducible refine Dr.trans ?_ (Dr.of_new (by with_reducible assumption)) | with_reducible refine Dr.drewN ?_ _ | with_reducible refine Dr.drew ?_))
    rintro e w6 ⟨r6, rfl, b6⟩
    have z6 := b6.size
    try simp only [World.size_alloc, World.size_drew, World.heap_drewN, World.size_setCell] at z6
    have z6_0 : w.heap.size < w6.heap.size := by omega
    apply Blk.use (w := w6) (b := w.heap.size)
    · repeat (first | with_reducible assumption | with_reducible exact Blk.alloc_at (by first | rfl | (simp; done) | (simp; omega)) | with_reducible apply Blk.alloc | with_reducible apply Blk.drew | with_reducible apply Blk.drewN | with_reducible apply Blk.set | ((with_reducible apply Blk.set_ne); rotate_left; (focus omega)) | ((with_reducible apply Blk.dr); rotate_left; (focus (with_reducible assumption)); (focus omega)) | ((with_reducible apply Blk.new); rotate_left; (focus (with_reducible assumption))))
    intro K6_0
    try simp only [List.setIfInBounds_toArray, List.set_cons_succ, List.set_cons_zero] at K6_0
    obtain ⟨c6_0, f6_0⟩ := K6_0.rules
    have z6_1 : w.heap.size + 1 < w6.heap.size := by omega
    apply Blk.use (w := w6) (b := w.heap.size + 1)
    · repeat (first | with_reducible assumption | with_reducible exact Blk.alloc_at (by first | rfl | (simp; done) | (simp; omega)) | with_reducible apply Blk.alloc | with_reducible apply Blk.drew | with_reducible apply Blk.drewN | with_reducible apply Blk.set | ((with_reducible apply Blk.set_ne); rotate_left; (focus omega)) | ((with_reducible apply Blk.dr); rotate_left; (focus (with_reducible assumption)); (focus omega)) | ((with_reducible apply Blk.new); rotate_left; (focus (with_reducible assumption))))
    intro K6_1
    try simp only [List.setIfInBounds_toArray, List.set_cons_succ, List.set_cons_zero] at K6_1
    obtain ⟨c6_1, f6_1⟩ := K6_1.rules
    have z6_2 : w2.heap.size < w6.heap.size := by omega
    apply Blk.use (w := w6) (b := w2.heap.size)
    · repeat (first | with_reducible assumption | with_reducible exact Blk.alloc_at (by first | rfl | (simp; done) | (simp; omega)) | with_reducible apply Blk.alloc | with_reducible apply Blk.drew | with_reducible apply Blk.drewN | with_reducible apply Blk.set | ((with_reducible apply Blk.set_ne); rotate_left; (focus omega)) | ((with_reducible apply Blk.dr); rotate_left; (focus (with_reducible assumption)); (focus omega)) | ((with_reducible apply Blk.new); rotate_left; (focus (with_reducible assumption))))
    intro K6_2
    try simp only [List.setIfInBounds_toArray, List.set_cons_succ, List.set_cons_zero] at K6_2
    obtain ⟨c6_2, f6_2⟩ := K6_2.rules
    have z6_3 : w5.heap.size < w6.heap.size := by omega
    apply Blk.use (w := w6) (b := w5.heap.size)
    · repeat (first | with_reducible assumption | with_reducible exact Blk.alloc_at (by first | rfl | (simp; done) | (simp; omega)) | with_reducible apply Blk.alloc | with_reducible apply Blk.drew | with_reducible apply Blk.drewN | with_reducible apply Blk.set | ((with_reducible apply Blk.set_ne); rotate_left; (focus omega)) | ((with_reducible apply Blk.dr); rotate_left; (focus (with_reducible assumption)); (focus omega)) | ((with_reducible apply Blk.new); rotate_left; (focus (with_reducible assumption))))
    intro K6_3
    try simp only [List.setIfInBounds_toArray, List.set_cons_succ, List.set_cons_zero] at K6_3
    obtain ⟨c6_3, f6_3⟩ := K6_3.rules
    try clear c5_0 f5_0 K5_0
    try clear c5_1 f5_1 K5_1
    try clear c5_2 f5_2 K5_2
    try clear c5_3 f5_3 K5_3
    try clear c5_4 f5_4 K5_4
    try clear c5_5 f5_5 K5_5
    try clear c4_0 f4_0 K4_0
    try clear c4_1 f4_1 K4_1
    try clear c4_2 f4_2 K4_2
    try clear c4_3 f4_3 K4_3
    try clear c4_4 f4_4 K4_4
    try clear c4_5 f4_5 K4_5
    try clear c3_0 f3_0 K3_0
    try clear c3_1 f3_1 K3_1
    try clear c3_2 f3_2 K3_2
    try clear c3_3 f3_3 K3_3
    try clear c3_4 f3_4 K3_4
    try clear c3_5 f3_5 K3_5
    have y6 : S < w6.heap.size := by omega
    go_wp2_with fail
    · skip
      have hL9 : LateOK S w6 [(w.heap.size, (#[.int .i64 k, .int .i64 len, .int .i64 rise, .int .i64 rl, .int .i64 rh, .int .i64 fl, .int .i64 fh]), 46), (w.heap.size + 1, #[.int .i64 lo, .int .i64 hi], 42)] := ⟨⟨by omega, by omega⟩, ⟨by omega, by omega⟩, trivial⟩
      have hM9 : ∀ x ∈ ([(w.heap.size, (#[.int .i64 k, .int .i64 len, .int .i64 rise, .int .i64 rl, .int .i64 rh, .int .i64 fl, .int .i64 fh]), 46), (w.heap.size + 1, #[.int .i64 lo, .int .i64 hi], 42)] : Late), x.1 < w6.heap.size := fun x hx => (LateOK.get hL9 x hx).2
      refine RQ.wp_facts (Dq.ord S [(w.heap.size, (#[.int .i64 k, .int .i64 len, .int .i64 rise, .int .i64 rl, .int .i64 rh, .int .i64 fl, .int .i64 fh]), 46), (w.heap.size + 1, #[.int .i64 lo, .int .i64 hi], 42)]) [fun X _ => X = .agg #[.int .i64 k, .int .i64 len, .int .i64 rise, .int .i64 rl, .int .i64 rh, .int .i64 fl, .int .i64 fh], fun X _ => X = .agg #[.int .i64 lo, .int .i64 hi], fun X _ => X = .pointer (some ⟨S, 0, none⟩), fun X W' => RdM S w6.heap.size W' X [-1, 0, 10000000000, 10000000001], fun X W' => ∃ r : Int, X = .int .i64 r, fun X W' => Blk W' (w.heap.size) ((#[.int .i64 k, .int .i64 len, .int .i64 rise, .int .i64 rl, .int .i64 rh, .int .i64 fl, .int .i64 fh])) (46), fun X W' => Blk W' (w.heap.size + 1) (#[.int .i64 lo, .int .i64 hi]) (42)] (by kernel_rfl) (by kernel_rfl) ⟨RQ.stable_eq _, RQ.stable_eq _, RQ.stable_eq _, fun X w0 w1 hn k25 => RdM.dq k25 hn hM9, fun X w0 w1 hn ⟨r26, t26⟩ => ⟨r26, t26⟩, fun X w0 w1 hn kb0 => Blk.kept kb0 hn (by simp), fun X w0 w1 hn kb1 => Blk.kept kb1 hn (by simp), trivial⟩ ?_ ?_
      · refine ⟨?_, ?_, ?_, ?_, ?_, ?_, ?_, trivial⟩
        · intro a w9 hw ho hk
          refine .inl ⟨by rfl, ?_⟩
          have s6 := ho 6 rfl
          dsimp at s6
          have K9 := Blk.dq K6_2 hw (by omega) ⟨by omega, by omega, trivial⟩
          obtain ⟨c9, f9⟩ := K9.rules
          go_simp
          exact Dq.refl _ _ _
        · intro a w9 hw ho hk
          refine .inl ⟨by rfl, ?_⟩
          have s7 := ho 7 rfl
          dsimp at s7
          have K9 := Blk.dq K6_3 hw (by omega) ⟨by omega, by omega, trivial⟩
          obtain ⟨c9, f9⟩ := K9.rules
          go_simp
          exact Dq.refl _ _ _
        · intro a w9 hw ho hk
          refine .inl ⟨by rfl, ?_⟩
          have s5 := ho 5 rfl
          dsimp at s5
          go_simp
          exact Dq.refl _ _ _
        · intro a w9 hw ho hk
          refine .inl ⟨by rfl, ?_⟩
          go_simp
          have hl9 : S < w9.heap.size := by have := hw.size; first | omega | (simp at this; omega)
          have hm9 : w6.heap.size ≤ w9.heap.size := by have := hw.size; first | omega | (simp at this; omega)
          first | exact ⟨Dq.of_dr ((Dr.refl _ _).alloc _) (hL9.mono hw.size), _, rfl, rdM_lit [-1, 0, 10000000000, 10000000001] hl9 hm9⟩ | exact ⟨Dq.of_dr ((Dr.refl _ _).alloc _) (hL9.mono hw.size), rdM_lit [-1, 0, 10000000000, 10000000001] hl9 hm9⟩
        · intro a w9 hw ho hk
          refine .inl ⟨by rfl, ?_⟩
          have t24 : a.tmps[24]?.getD undef = .pointer (some ⟨S, 0, none⟩) := hk 2 24 (by kernel_rfl) rfl
          obtain k25 : RdM S w6.heap.size w9 (a.tmps[25]?.getD undef) [-1, 0, 10000000000, 10000000001] := hk 3 25 (by kernel_rfl) rfl
          go_simp
          refine (l01Pick_n S _ [-1, 0, 10000000000, 10000000001] _ k25.1 (Dq.src hw (by intro x hx; simp at hx; rcases hx with rfl | rfl <;> first | (simp; done) | (simp; omega) | omega) (Dr.src (by repeat (first | with_reducible refine Dr.setCell ?_ (by first | (simp; done) | (simp; omega) | omega) _ | with_reducible refine Dr.alloc ?_ _ | with_reducible exact Dr.refl _ _ | with_reducible assumption | with_reducible refine Dr.trans ?_ (by with_reducible assumption) | with_reducible refine Dr.trans ?_ (Dr.of_new (by with_reducible assumption)) | with_reducible refine Dr.drewN ?_ _ | with_reducible refine Dr.drew ?_)) hs.out))).mono ?_; rintro e w2 ⟨r, rfl, hb⟩
          first | exact ⟨Dq.of_dr hb (hL9.mono hw.size), _, rfl, _, rfl⟩ | exact ⟨Dq.of_dr hb (hL9.mono hw.size), _, by simp⟩
        · intro a w9 hw ho hk
          refine .inl ⟨by rfl, ?_⟩
          have s2 := ho 2 rfl
          dsimp at s2
          have t22 : a.tmps[22]?.getD undef = .agg #[.int .i64 k, .int .i64 len, .int .i64 rise, .int .i64 rl, .int .i64 rh, .int .i64 fl, .int .i64 fh] := hk 0 22 (by kernel_rfl) rfl
          rcases Blk.late K6_0 hw (by simp : ((w.heap.size, (#[.int .i64 k, .int .i64 len, .int .i64 rise, .int .i64 rl, .int .i64 rh, .int .i64 fl, .int .i64 fh]), 46) : Nat × Array Value × TypeId) ∈ ([(w.heap.size, (#[.int .i64 k, .int .i64 len, .int .i64 rise, .int .i64 rl, .int .i64 rh, .int .i64 fl, .int .i64 fh]), 46), (w.heap.size + 1, #[.int .i64 lo, .int .i64 hi], 42)] : Late)) with K9 | K9
          all_goals obtain ⟨c9, f9⟩ := K9.rules
          all_goals go_simp
          all_goals refine Dq.stored2 (b := w.heap.size) (F := (#[.int .i64 k, .int .i64 len, .int .i64 rise, .int .i64 rl, .int .i64 rh, .int .i64 fl, .int .i64 fh])) (T := 46) (by repeat (first | with_reducible exact Same1.refl _ _ | with_reducible refine Same1.set ?_ _ _)) ?_ (by simp) (by intro x hx; simp at hx; rcases hx with rfl | rfl <;> first | (intro _; rfl) | (intro h; exfalso; simp at h; done) | (intro h; exfalso; simp at h; omega)) (by omega)
          all_goals
            apply blk_cast
            · repeat (first | with_reducible exact K9 | with_reducible apply Blk.set)
            · rfl
        · intro a w9 hw ho hk
          refine .inl ⟨by rfl, ?_⟩
          have s3 := ho 3 rfl
          dsimp at s3
          have t23 : a.tmps[23]?.getD undef = .agg #[.int .i64 lo, .int .i64 hi] := hk 1 23 (by kernel_rfl) rfl
          rcases Blk.late K6_1 hw (by simp : ((w.heap.size + 1, #[.int .i64 lo, .int .i64 hi], 42) : Nat × Array Value × TypeId) ∈ ([(w.heap.size, (#[.int .i64 k, .int .i64 len, .int .i64 rise, .int .i64 rl, .int .i64 rh, .int .i64 fl, .int .i64 fh]), 46), (w.heap.size + 1, #[.int .i64 lo, .int .i64 hi], 42)] : Late)) with K9 | K9
          all_goals obtain ⟨c9, f9⟩ := K9.rules
          all_goals go_simp
          all_goals refine Dq.stored2 (b := w.heap.size + 1) (F := #[.int .i64 lo, .int .i64 hi]) (T := 42) (by repeat (first | with_reducible exact Same1.refl _ _ | with_reducible refine Same1.set ?_ _ _)) ?_ (by simp) (by intro x hx; simp at hx; rcases hx with rfl | rfl <;> first | (intro _; rfl) | (intro h; exfalso; simp at h; done) | (intro h; exfalso; simp at h; omega)) (by omega)
          all_goals
            apply blk_cast
            · repeat (first | with_reducible exact K9 | with_reducible apply Blk.set)
            · rfl
      intro w7 b7
      rintro _ rfl
      rintro _ rfl
      rintro _ rfl
      rintro _ k25
      rintro _ ⟨r26, rfl⟩
      rintro _ kb0
      rintro _ kb1
      obtain ⟨cl0, fl0⟩ := kb0.rules
      obtain ⟨cl1, fl1⟩ := kb1.rules
      simp only [RQ.EndAll, List.nil_append, List.cons_append, List.length_cons, List.length_nil, Nat.zero_add, Nat.reduceAdd, List.take_succ_cons, List.take_zero, List.drop_succ_cons, List.drop_zero, RQ.putAll, Act.put, List.setIfInBounds_toArray, List.set_cons_succ, List.set_cons_zero]
      go_wp2_with fail
      apply ret_lf rfl (Dq.new (w0 := w) (Dr.new (S := S) (w0 := w) (w := w1) (by repeat (first | with_reducible exact New.refl _ | with_reducible assumption | with_reducible refine New.drew ?_ | with_reducible refine New.drewN ?_ _ | with_reducible refine New.alloc ?_ _ | with_reducible refine New.setCell ?_ (by first | (simp; done) | (simp; omega) | omega) _ | with_reducible refine New.trans ?_ (by with_reducible assumption))) (by repeat (first | with_reducible refine Dr.setCell ?_ (by first | (simp; done) | (simp; omega) | omega) _ | with_reducible refine Dr.alloc ?_ _ | with_reducible exact Dr.refl _ _ | with_reducible assumption | with_reducible refine Dr.trans ?_ (by with_reducible assumption) | with_reducible refine Dr.trans ?_ (Dr.of_new (by with_reducible assumption)) | with_reducible refine Dr.drewN ?_ _ | with_reducible refine Dr.drew ?_)) (by omega)) b7 (by omega) (by intro x hx; simp at hx; rcases hx with rfl | rfl <;> simp))
      simp [results, Try.results35, go_sem, cl0, cl1]
      exact ⟨⟨rfl, rfl, rfl, rfl, rfl, rfl, rfl⟩, ⟨rfl, rfl⟩, rfl⟩
    · skip
      have hL9 : LateOK S w6 [(w.heap.size, (#[.int .i64 k, .int .i64 len, .int .i64 rise, .int .i64 rl, .int .i64 rh, .int .i64 fl, .int .i64 fh]), 46), (w.heap.size + 1, #[.int .i64 lo, .int .i64 hi], 42)] := ⟨⟨by omega, by omega⟩, ⟨by omega, by omega⟩, trivial⟩
      have hM9 : ∀ x ∈ ([(w.heap.size, (#[.int .i64 k, .int .i64 len, .int .i64 rise, .int .i64 rl, .int .i64 rh, .int .i64 fl, .int .i64 fh]), 46), (w.heap.size + 1, #[.int .i64 lo, .int .i64 hi], 42)] : Late), x.1 < w6.heap.size := fun x hx => (LateOK.get hL9 x hx).2
      refine RQ.wp_facts (Dq.ord S [(w.heap.size, (#[.int .i64 k, .int .i64 len, .int .i64 rise, .int .i64 rl, .int .i64 rh, .int .i64 fl, .int .i64 fh]), 46), (w.heap.size + 1, #[.int .i64 lo, .int .i64 hi], 42)]) [fun X _ => X = .agg #[.int .i64 k, .int .i64 len, .int .i64 rise, .int .i64 rl, .int .i64 rh, .int .i64 fl, .int .i64 fh], fun X _ => X = .agg #[.int .i64 lo, .int .i64 hi], fun X _ => X = .pointer (some ⟨w5.heap.size, 0, none⟩), fun X _ => X = .int .i64 lo, fun X _ => X = .agg #[.int .i64 k, .int .i64 len, .int .i64 rise, .int .i64 rl, .int .i64 rh, .int .i64 fl, .int .i64 fh], fun X W' => ∃ x y : Int, X = .agg #[.int .i64 x, .int .i64 y], fun X W' => ∃ r : Int, X = .int .i64 r, fun X W' => ∃ r : Int, X = .int .i64 r, fun X _ => X = .pointer (some ⟨w2.heap.size, 1, none⟩), fun X _ => X = .int .i64 len, fun X W' => ∃ r : Int, X = .int .i64 r, fun X _ => X = .pointer (some ⟨S, 0, none⟩), fun X W' => ∃ r : Int, X = .int .i64 r, fun X W' => ∃ r : Int, X = .int .i64 r, fun X W' => ∃ r : Int, X = .int .i64 r, fun X _ => X = .pointer (some ⟨S, 0, none⟩), fun X W' => ∃ r : Int, X = .int .i64 r, fun X W' => ∃ r : Int, X = .int .i64 r, fun X W' => ∃ r : Int, X = .int .i64 r, fun X W' => ∃ r : Int, X = .int .i64 r, fun X W' => Blk W' (w.heap.size) ((#[.int .i64 k, .int .i64 len, .int .i64 rise, .int .i64 rl, .int .i64 rh, .int .i64 fl, .int .i64 fh])) (46), fun X W' => Blk W' (w.heap.size + 1) (#[.int .i64 lo, .int .i64 hi]) (42)] (by kernel_rfl) (by kernel_rfl) ⟨RQ.stable_eq _, RQ.stable_eq _, RQ.stable_eq _, RQ.stable_eq _, RQ.stable_eq _, fun X w0 w1 hn ⟨p32, q32, t32⟩ => ⟨p32, q32, t32⟩, fun X w0 w1 hn ⟨r33, t33⟩ => ⟨r33, t33⟩, fun X w0 w1 hn ⟨r34, t34⟩ => ⟨r34, t34⟩, RQ.stable_eq _, RQ.stable_eq _, fun X w0 w1 hn ⟨r37, t37⟩ => ⟨r37, t37⟩, RQ.stable_eq _, fun X w0 w1 hn ⟨r39, t39⟩ => ⟨r39, t39⟩, fun X w0 w1 hn ⟨r40, t40⟩ => ⟨r40, t40⟩, fun X w0 w1 hn ⟨r41, t41⟩ => ⟨r41, t41⟩, RQ.stable_eq _, fun X w0 w1 hn ⟨r43, t43⟩ => ⟨r43, t43⟩, fun X w0 w1 hn ⟨r44, t44⟩ => ⟨r44, t44⟩, fun X w0 w1 hn ⟨r45, t45⟩ => ⟨r45, t45⟩, fun X w0 w1 hn ⟨r46, t46⟩ => ⟨r46, t46⟩, fun X w0 w1 hn kb0 => Blk.kept kb0 hn (by simp), fun X w0 w1 hn kb1 => Blk.kept kb1 hn (by simp), trivial⟩ ?_ ?_
      · refine ⟨?_, ?_, ?_, ?_, ?_, ?_, ?_, ?_, ?_, ?_, ?_, ?_, ?_, ?_, ?_, ?_, ?_, ?_, ?_, ?_, ?_, ?_, trivial⟩
        · intro a w9 hw ho hk
          refine .inl ⟨by rfl, ?_⟩
          have s6 := ho 6 rfl
          dsimp at s6
          have K9 := Blk.dq K6_2 hw (by omega) ⟨by omega, by omega, trivial⟩
          obtain ⟨c9, f9⟩ := K9.rules
          go_simp
          exact Dq.refl _ _ _
        · intro a w9 hw ho hk
          refine .inl ⟨by rfl, ?_⟩
          have s7 := ho 7 rfl
          dsimp at s7
          have K9 := Blk.dq K6_3 hw (by omega) ⟨by omega, by omega, trivial⟩
          obtain ⟨c9, f9⟩ := K9.rules
          go_simp
          exact Dq.refl _ _ _
        · intro a w9 hw ho hk
          refine .inl ⟨by rfl, ?_⟩
          have s7 := ho 7 rfl
          dsimp at s7
          go_simp
          exact Dq.refl _ _ _
        · intro a w9 hw ho hk
          refine .inl ⟨by rfl, ?_⟩
          have t29 : a.tmps[29]?.getD undef = .pointer (some ⟨w5.heap.size, 0, none⟩) := hk 2 29 (by kernel_rfl) rfl
          have K9 := Blk.dq K6_3 hw (by omega) ⟨by omega, by omega, trivial⟩
          obtain ⟨c9, f9⟩ := K9.rules
          go_simp
          exact Dq.refl _ _ _
        · intro a w9 hw ho hk
          refine .inl ⟨by rfl, ?_⟩
          have s6 := ho 6 rfl
          dsimp at s6
          have K9 := Blk.dq K6_2 hw (by omega) ⟨by omega, by omega, trivial⟩
          obtain ⟨c9, f9⟩ := K9.rules
          go_simp
          exact Dq.refl _ _ _
        · intro a w9 hw ho hk
          refine .inl ⟨by rfl, ?_⟩
          have t31 : a.tmps[31]?.getD undef = .agg #[.int .i64 k, .int .i64 len, .int .i64 rise, .int .i64 rl, .int .i64 rh, .int .i64 fl, .int .i64 fh] := hk 4 31 (by kernel_rfl) rfl
          go_simp
          refine (l06ChangeW_any _ _ _ _ _ _ _ _).mono ?_; rintro e w2 ⟨x, y, rfl, hb⟩
          replace hb := Dr.of_new (S := S) hb
          replace hb := Dq.of_dr hb (hL9.mono hw.size)
          first | exact ⟨hb, _, rfl, _, _, rfl⟩ | exact ⟨hb, _, by simp⟩
        · intro a w9 hw ho hk
          refine .inl ⟨by rfl, ?_⟩
          obtain ⟨p32, q32, t32⟩ : ∃ x y : Int, (a.tmps[32]?.getD undef) = .agg #[.int .i64 x, .int .i64 y] := hk 5 32 (by kernel_rfl) rfl
          go_simp
          first | exact ⟨Dq.refl _ _ _, _, rfl, _, rfl⟩ | exact ⟨Dq.refl _ _ _, _, by simp⟩
        · intro a w9 hw ho hk
          refine .inl ⟨by rfl, ?_⟩
          have t30 : a.tmps[30]?.getD undef = .int .i64 lo := hk 3 30 (by kernel_rfl) rfl
          obtain ⟨r33, t33⟩ : ∃ r : Int, (a.tmps[33]?.getD undef) = .int .i64 r := hk 6 33 (by kernel_rfl) rfl
          go_simp
          first | exact ⟨Dq.refl _ _ _, _, rfl, _, rfl⟩ | exact ⟨Dq.refl _ _ _, _, by simp⟩
        · intro a w9 hw ho hk
          refine .inl ⟨by rfl, ?_⟩
          have s6 := ho 6 rfl
          dsimp at s6
          go_simp
          exact Dq.refl _ _ _
        · intro a w9 hw ho hk
          refine .inl ⟨by rfl, ?_⟩
          have t35 : a.tmps[35]?.getD undef = .pointer (some ⟨w2.heap.size, 1, none⟩) := hk 8 35 (by kernel_rfl) rfl
          have K9 := Blk.dq K6_2 hw (by omega) ⟨by omega, by omega, trivial⟩
          obtain ⟨c9, f9⟩ := K9.rules
          go_simp
          exact Dq.refl _ _ _
        · intro a w9 hw ho hk
          refine .inl ⟨by rfl, ?_⟩
          have t36 : a.tmps[36]?.getD undef = .int .i64 len := hk 9 36 (by kernel_rfl) rfl
          go_simp
          first | exact ⟨Dq.refl _ _ _, _, rfl, _, rfl⟩ | exact ⟨Dq.refl _ _ _, _, by simp⟩
        · intro a w9 hw ho hk
          refine .inl ⟨by rfl, ?_⟩
          have s5 := ho 5 rfl
          dsimp at s5
          go_simp
          exact Dq.refl _ _ _
        · intro a w9 hw ho hk
          refine .inl ⟨by rfl, ?_⟩
          have t38 : a.tmps[38]?.getD undef = .pointer (some ⟨S, 0, none⟩) := hk 11 38 (by kernel_rfl) rfl
          go_simp
          refine (l01Next_n S _ _ (Dq.src hw (by intro x hx; simp at hx; rcases hx with rfl | rfl <;> first | (simp; done) | (simp; omega) | omega) (Dr.src (by repeat (first | with_reducible refine Dr.setCell ?_ (by first | (simp; done) | (simp; omega) | omega) _ | with_reducible refine Dr.alloc ?_ _ | with_reducible exact Dr.refl _ _ | with_reducible assumption | with_reducible refine Dr.trans ?_ (by with_reducible assumption) | with_reducible refine Dr.trans ?_ (Dr.of_new (by with_reducible assumption)) | with_reducible refine Dr.drewN ?_ _ | with_reducible refine Dr.drew ?_)) hs.out))).mono ?_; rintro e w2 ⟨r, rfl, hb⟩
          first | exact ⟨Dq.of_dr hb (hL9.mono hw.size), _, rfl, _, rfl⟩ | exact ⟨Dq.of_dr hb (hL9.mono hw.size), _, by simp⟩
        · intro a w9 hw ho hk
          refine .inl ⟨by rfl, ?_⟩
          obtain ⟨r37, t37⟩ : ∃ r : Int, (a.tmps[37]?.getD undef) = .int .i64 r := hk 10 37 (by kernel_rfl) rfl
          obtain ⟨r39, t39⟩ : ∃ r : Int, (a.tmps[39]?.getD undef) = .int .i64 r := hk 12 39 (by kernel_rfl) rfl
          go_simp
          first | exact ⟨Dq.refl _ _ _, _, rfl, _, rfl⟩ | exact ⟨Dq.refl _ _ _, _, by simp⟩
        · intro a w9 hw ho hk
          refine .inl ⟨by rfl, ?_⟩
          obtain ⟨r34, t34⟩ : ∃ r : Int, (a.tmps[34]?.getD undef) = .int .i64 r := hk 7 34 (by kernel_rfl) rfl
          obtain ⟨r40, t40⟩ : ∃ r : Int, (a.tmps[40]?.getD undef) = .int .i64 r := hk 13 40 (by kernel_rfl) rfl
          go_simp
          first | exact ⟨Dq.refl _ _ _, _, rfl, _, rfl⟩ | exact ⟨Dq.refl _ _ _, _, by simp⟩
        · intro a w9 hw ho hk
          refine .inl ⟨by rfl, ?_⟩
          have s5 := ho 5 rfl
          dsimp at s5
          go_simp
          exact Dq.refl _ _ _
        · intro a w9 hw ho hk
          refine .inl ⟨by rfl, ?_⟩
          have t42 : a.tmps[42]?.getD undef = .pointer (some ⟨S, 0, none⟩) := hk 15 42 (by kernel_rfl) rfl
          go_simp
          refine (l01Next_n S _ _ (Dq.src hw (by intro x hx; simp at hx; rcases hx with rfl | rfl <;> first | (simp; done) | (simp; omega) | omega) (Dr.src (by repeat (first | with_reducible refine Dr.setCell ?_ (by first | (simp; done) | (simp; omega) | omega) _ | with_reducible refine Dr.alloc ?_ _ | with_reducible exact Dr.refl _ _ | with_reducible assumption | with_reducible refine Dr.trans ?_ (by with_reducible assumption) | with_reducible refine Dr.trans ?_ (Dr.of_new (by with_reducible assumption)) | with_reducible refine Dr.drewN ?_ _ | with_reducible refine Dr.drew ?_)) hs.out))).mono ?_; rintro e w2 ⟨r, rfl, hb⟩
          first | exact ⟨Dq.of_dr hb (hL9.mono hw.size), _, rfl, _, rfl⟩ | exact ⟨Dq.of_dr hb (hL9.mono hw.size), _, by simp⟩
        · intro a w9 hw ho hk
          refine .inl ⟨by rfl, ?_⟩
          obtain ⟨r41, t41⟩ : ∃ r : Int, (a.tmps[41]?.getD undef) = .int .i64 r := hk 14 41 (by kernel_rfl) rfl
          obtain ⟨r43, t43⟩ : ∃ r : Int, (a.tmps[43]?.getD undef) = .int .i64 r := hk 16 43 (by kernel_rfl) rfl
          go_simp
          first | exact ⟨Dq.refl _ _ _, _, rfl, _, rfl⟩ | exact ⟨Dq.refl _ _ _, _, by simp⟩
        · intro a w9 hw ho hk
          refine .inl ⟨by rfl, ?_⟩
          obtain ⟨r44, t44⟩ : ∃ r : Int, (a.tmps[44]?.getD undef) = .int .i64 r := hk 17 44 (by kernel_rfl) rfl
          go_simp
          first | exact ⟨Dq.refl _ _ _, _, rfl, _, rfl⟩ | exact ⟨Dq.refl _ _ _, _, by simp⟩
        · intro a w9 hw ho hk
          refine .inl ⟨by rfl, ?_⟩
          obtain ⟨r45, t45⟩ : ∃ r : Int, (a.tmps[45]?.getD undef) = .int .i64 r := hk 18 45 (by kernel_rfl) rfl
          go_simp
          first | exact ⟨Dq.refl _ _ _, _, rfl, _, rfl⟩ | exact ⟨Dq.refl _ _ _, _, by simp⟩
        · intro a w9 hw ho hk
          refine .inl ⟨by rfl, ?_⟩
          have s2 := ho 2 rfl
          dsimp at s2
          have t27 : a.tmps[27]?.getD undef = .agg #[.int .i64 k, .int .i64 len, .int .i64 rise, .int .i64 rl, .int .i64 rh, .int .i64 fl, .int .i64 fh] := hk 0 27 (by kernel_rfl) rfl
          rcases Blk.late K6_0 hw (by simp : ((w.heap.size, (#[.int .i64 k, .int .i64 len, .int .i64 rise, .int .i64 rl, .int .i64 rh, .int .i64 fl, .int .i64 fh]), 46) : Nat × Array Value × TypeId) ∈ ([(w.heap.size, (#[.int .i64 k, .int .i64 len, .int .i64 rise, .int .i64 rl, .int .i64 rh, .int .i64 fl, .int .i64 fh]), 46), (w.heap.size + 1, #[.int .i64 lo, .int .i64 hi], 42)] : Late)) with K9 | K9
          all_goals obtain ⟨c9, f9⟩ := K9.rules
          all_goals go_simp
          all_goals refine Dq.stored2 (b := w.heap.size) (F := (#[.int .i64 k, .int .i64 len, .int .i64 rise, .int .i64 rl, .int .i64 rh, .int .i64 fl, .int .i64 fh])) (T := 46) (by repeat (first | with_reducible exact Same1.refl _ _ | with_reducible refine Same1.set ?_ _ _)) ?_ (by simp) (by intro x hx; simp at hx; rcases hx with rfl | rfl <;> first | (intro _; rfl) | (intro h; exfalso; simp at h; done) | (intro h; exfalso; simp at h; omega)) (by omega)
          all_goals
            apply blk_cast
            · repeat (first | with_reducible exact K9 | with_reducible apply Blk.set)
            · rfl
        · intro a w9 hw ho hk
          refine .inl ⟨by rfl, ?_⟩
          have s3 := ho 3 rfl
          dsimp at s3
          have t28 : a.tmps[28]?.getD undef = .agg #[.int .i64 lo, .int .i64 hi] := hk 1 28 (by kernel_rfl) rfl
          rcases Blk.late K6_1 hw (by simp : ((w.heap.size + 1, #[.int .i64 lo, .int .i64 hi], 42) : Nat × Array Value × TypeId) ∈ ([(w.heap.size, (#[.int .i64 k, .int .i64 len, .int .i64 rise, .int .i64 rl, .int .i64 rh, .int .i64 fl, .int .i64 fh]), 46), (w.heap.size + 1, #[.int .i64 lo, .int .i64 hi], 42)] : Late)) with K9 | K9
          all_goals obtain ⟨c9, f9⟩ := K9.rules
          all_goals go_simp
          all_goals refine Dq.stored2 (b := w.heap.size + 1) (F := #[.int .i64 lo, .int .i64 hi]) (T := 42) (by repeat (first | with_reducible exact Same1.refl _ _ | with_reducible refine Same1.set ?_ _ _)) ?_ (by simp) (by intro x hx; simp at hx; rcases hx with rfl | rfl <;> first | (intro _; rfl) | (intro h; exfalso; simp at h; done) | (intro h; exfalso; simp at h; omega)) (by omega)
          all_goals
            apply blk_cast
            · repeat (first | with_reducible exact K9 | with_reducible apply Blk.set)
            · rfl
      intro w7 b7
      rintro _ rfl
      rintro _ rfl
      rintro _ rfl
      rintro _ rfl
      rintro _ rfl
      rintro _ ⟨p32, q32, rfl⟩
      rintro _ ⟨r33, rfl⟩
      rintro _ ⟨r34, rfl⟩
      rintro _ rfl
      rintro _ rfl
      rintro _ ⟨r37, rfl⟩
      rintro _ rfl
      rintro _ ⟨r39, rfl⟩
      rintro _ ⟨r40, rfl⟩
      rintro _ ⟨r41, rfl⟩
      rintro _ rfl
      rintro _ ⟨r43, rfl⟩
      rintro _ ⟨r44, rfl⟩
      rintro _ ⟨r45, rfl⟩
      rintro _ ⟨r46, rfl⟩
      rintro _ kb0
      rintro _ kb1
      obtain ⟨cl0, fl0⟩ := kb0.rules
      obtain ⟨cl1, fl1⟩ := kb1.rules
      simp only [RQ.EndAll, List.nil_append, List.cons_append, List.length_cons, List.length_nil, Nat.zero_add, Nat.reduceAdd, List.take_succ_cons, List.take_zero, List.drop_succ_cons, List.drop_zero, RQ.putAll, Act.put, List.setIfInBounds_toArray, List.set_cons_succ, List.set_cons_zero]
      go_wp2_with fail
      apply ret_lf rfl (Dq.new (w0 := w) (Dr.new (S := S) (w0 := w) (w := w1) (by repeat (first | with_reducible exact New.refl _ | with_reducible assumption | with_reducible refine New.drew ?_ | with_reducible refine New.drewN ?_ _ | with_reducible refine New.alloc ?_ _ | with_reducible refine New.setCell ?_ (by first | (simp; done) | (simp; omega) | omega) _ | with_reducible refine New.trans ?_ (by with_reducible assumption))) (by repeat (first | with_reducible refine Dr.setCell ?_ (by first | (simp; done) | (simp; omega) | omega) _ | with_reducible refine Dr.alloc ?_ _ | with_reducible exact Dr.refl _ _ | with_reducible assumption | with_reducible refine Dr.trans ?_ (by with_reducible assumption) | with_reducible refine Dr.trans ?_ (Dr.of_new (by with_reducible assumption)) | with_reducible refine Dr.drewN ?_ _ | with_reducible refine Dr.drew ?_)) (by omega)) b7 (by omega) (by intro x hx; simp at hx; rcases hx with rfl | rfl <;> simp))
      simp [results, Try.results35, go_sem, cl0, cl1]
      exact ⟨⟨rfl, rfl, rfl, rfl, rfl, rfl, rfl⟩, ⟨rfl, rfl⟩, rfl⟩
def DrawSegN (w : World) (e : Ending) (w' : World) : Prop := ∃ k len rise rl rh fl fh : Int, e = .returned (.agg #[.int .i64 k, .int .i64 len, .int .i64 rise, .int .i64 rl, .int .i64 rh, .int .i64 fl, .int .i64 fh]) ∧ New w w'
theorem ret_segn {P : Program} {fn : Func} {w0 w : World} {a : Act} {k len rise rl rh fl fh : Int} (hd : a.defers = []) (hR : New w0 w) (hr : (results fn a.tmps).run P w = .ok (.agg #[.int .i64 k, .int .i64 len, .int .i64 rise, .int .i64 rl, .int .i64 rh, .int .i64 fl, .int .i64 fh]) w) : bodyPost P fn (DrawSegN w0) .ret a w := ⟨hd, _, hr, k, len, rise, rl, rh, fl, fh, rfl, hR⟩
set_option maxHeartbeats 2000000 in
theorem drawLiftTime_any (v : Value) (bs : List Int) (w : World) (hv : Rd w v bs.length (bs.map (Value.int .u8))) (hl : bs.length ≤ 4096) (hb : ∀ c ∈ bs, 0 ≤ c ∧ c ≤ 255) :
    Calls Try.prog 38 #[v] w (DrawSegN w) := by
  have HV := Lib.hid hv
  have HB := Lib.hid hb
  clear hv hb
  go_enter Try.func38, Try.ntmps38
  go_wp2_with fail
  refine (l01From_any w.heap.size v bs _ (rdB_new HV.out (by repeat (first | with_reducible exact New.refl _ | with_reducible assumption | with_reducible refine New.drew ?_ | with_reducible refine New.drewN ?_ _ | with_reducible refine New.alloc ?_ _ | with_reducible refine New.setCell ?_ (by first | (simp; done) | (simp; omega) | omega) _ | with_reducible refine New.trans ?_ (by with_reducible assumption)))) (by first | (simp; done) | (simp; omega)) hl HB.out).mono ?_
  rintro e w1 ⟨S, rfl, hS0, n1, hs⟩
  have b1 := Dr.of_new (S := S) n1; have hS := hs.lt; replace hs := Lib.hid hs; simp only [World.size_alloc] at hS0
  have z1 := b1.size
  try simp only [World.size_alloc, World.size_drew, World.heap_drewN, World.size_setCell] at z1
  have z1_0 : w.heap.size < w1.heap.size := by omega
  apply Blk.use (w := w1) (b := w.heap.size)
  · repeat (first | with_reducible assumption | with_reducible exact Blk.alloc_at (by first | rfl | (simp; done) | (simp; omega)) | with_reducible apply Blk.alloc | with_reducible apply Blk.drew | with_reducible apply Blk.drewN | with_reducible apply Blk.set | ((with_reducible apply Blk.set_ne); rotate_left; (focus omega)) | ((with_reducible apply Blk.dr); rotate_left; (focus (with_reducible assumption)); (focus omega)) | ((with_reducible apply Blk.new); rotate_left; (focus (with_reducible assumption))))
  intro K1_0
  try simp only [List.setIfInBounds_toArray, List.set_cons_succ, List.set_cons_zero] at K1_0
  obtain ⟨c1_0, f1_0⟩ := K1_0.rules
  have y1 : S < w1.heap.size := by omega
  go_wp2_with fail
  refine (l01Next_n S _ _ (Dr.src ?hs22 hs.out)).mono ?_
  case hs22 => exact (by repeat (first | with_reducible refine Dr.setCell ?_ (by first | (simp; done) | (simp; omega) | omega) _ | with_reducible refine Dr.alloc ?_ _ | with_reducible exact Dr.refl _ _ | with_reducible assumption | with_reducible refine Dr.trans ?_ (by with_reducible assumption) | with_reducible refine Dr.trans ?_ (Dr.of_new (by with_reducible assumption)) | with_reducible refine Dr.drewN ?_ _ | with_reducible refine Dr.drew ?_))
  rintro e w2 ⟨r2, rfl, b2⟩
  have z2 := b2.size
  try simp only [World.size_alloc, World.size_drew, World.heap_drewN, World.size_setCell] at z2
  have z2_0 : w.heap.size < w2.heap.size := by omega
  apply Blk.use (w := w2) (b := w.heap.size)
  · repeat (first | with_reducible assumption | with_reducible exact Blk.alloc_at (by first | rfl | (simp; done) | (simp; omega)) | with_reducible apply Blk.alloc | with_reducible apply Blk.drew | with_reducible apply Blk.drewN | with_reducible apply Blk.set | ((with_reducible apply Blk.set_ne); rotate_left; (focus omega)) | ((with_reducible apply Blk.dr); rotate_left; (focus (with_reducible assumption)); (focus omega)) | ((with_reducible apply Blk.new); rotate_left; (focus (with_reducible assumption))))
  intro K2_0
  try simp only [List.setIfInBounds_toArray, List.set_cons_succ, List.set_cons_zero] at K2_0
  obtain ⟨c2_0, f2_0⟩ := K2_0.rules
  try clear c1_0 f1_0 K1_0
  try clear c1_1 f1_1 K1_1
  try clear c1_2 f1_2 K1_2
  try clear c1_3 f1_3 K1_3
  try clear c1_4 f1_4 K1_4
  try clear c1_5 f1_5 K1_5
  have y2 : S < w2.heap.size := by omega
  go_wp2_with fail
  · skip
    refine (l03DrawAny_any S _ (Dr.src ?hs23 hs.out)).mono ?_
    case hs23 => exact (by repeat (first | with_reducible refine Dr.setCell ?_ (by first | (simp; done) | (simp; omega) | omega) _ | with_reducible refine Dr.alloc ?_ _ | with_reducible exact Dr.refl _ _ | with_reducible assumption | with_reducible refine Dr.trans ?_ (by with_reducible assumption) | with_reducible refine Dr.trans ?_ (Dr.of_new (by with_reducible assumption)) | with_reducible refine Dr.drewN ?_ _ | with_reducible refine Dr.drew ?_))
    rintro e w3 ⟨k, len, rise, rl, rh, fl, fh, rfl, b3⟩
    have z3 := b3.size
    try simp only [World.size_alloc, World.size_drew, World.heap_drewN, World.size_setCell] at z3
    have z3_0 : w.heap.size < w3.heap.size := by omega
    apply Blk.use (w := w3) (b := w.heap.size)
    · repeat (first | with_reducible assumption | with_reducible exact Blk.alloc_at (by first | rfl | (simp; done) | (simp; omega)) | with_reducible apply Blk.alloc | with_reducible apply Blk.drew | with_reducible apply Blk.drewN | with_reducible apply Blk.set | ((with_reducible apply Blk.set_ne); rotate_left; (focus omega)) | ((with_reducible apply Blk.dr); rotate_left; (focus (with_reducible assumption)); (focus omega)) | ((with_reducible apply Blk.new); rotate_left; (focus (with_reducible assumption))))
    intro K3_0
    try simp only [List.setIfInBounds_toArray, List.set_cons_succ, List.set_cons_zero] at K3_0
    obtain ⟨c3_0, f3_0⟩ := K3_0.rules
    try clear c2_0 f2_0 K2_0
    try clear c2_1 f2_1 K2_1
    try clear c2_2 f2_2 K2_2
    try clear c2_3 f2_3 K2_3
    try clear c2_4 f2_4 K2_4
    try clear c2_5 f2_5 K2_5
    try clear c1_0 f1_0 K1_0
    try clear c1_1 f1_1 K1_1
    try clear c1_2 f1_2 K1_2
    try clear c1_3 f1_3 K1_3
    try clear c1_4 f1_4 K1_4
    try clear c1_5 f1_5 K1_5
    have y3 : S < w3.heap.size := by omega
    go_wp2_with fail
    have n3 : New w w3 := Dr.new (S := S) (w0 := w) (w := w1) (by repeat (first | with_reducible exact New.refl _ | with_reducible assumption | with_reducible refine New.drew ?_ | with_reducible refine New.drewN ?_ _ | with_reducible refine New.alloc ?_ _ | with_reducible refine New.setCell ?_ (by first | (simp; done) | (simp; omega) | omega) _ | with_reducible refine New.trans ?_ (by with_reducible assumption))) (by repeat (first | with_reducible refine Dr.setCell ?_ (by first | (simp; done) | (simp; omega) | omega) _ | with_reducible refine Dr.alloc ?_ _ | with_reducible exact Dr.refl _ _ | with_reducible assumption | with_reducible refine Dr.trans ?_ (by with_reducible assumption) | with_reducible refine Dr.trans ?_ (Dr.of_new (by with_reducible assumption)) | with_reducible refine Dr.drewN ?_ _ | with_reducible refine Dr.drew ?_)) (by omega)
    apply ret_segn rfl (by repeat (first | with_reducible exact New.refl _ | with_reducible assumption | with_reducible refine New.drew ?_ | with_reducible refine New.drewN ?_ _ | with_reducible refine New.alloc ?_ _ | with_reducible refine New.setCell ?_ (by first | (simp; done) | (simp; omega) | omega) _ | with_reducible refine New.trans ?_ (by with_reducible assumption)))
    simp [results, Try.results38, go_sem, c3_0]
    exact ⟨rfl, rfl, rfl, rfl, rfl, rfl, rfl⟩
  · skip
    refine (l03DrawSegment_any S _ _ (Dr.src ?hs24 hs.out)).mono ?_
    case hs24 => exact (by repeat (first | with_reducible refine Dr.setCell ?_ (by first | (simp; done) | (simp; omega) | omega) _ | with_reducible refine Dr.alloc ?_ _ | with_reducible exact Dr.refl _ _ | with_reducible assumption | with_reducible refine Dr.trans ?_ (by with_reducible assumption) | with_reducible refine Dr.trans ?_ (Dr.of_new (by with_reducible assumption)) | with_reducible refine Dr.drewN ?_ _ | with_reducible refine Dr.drew ?_))
    rintro e w3 ⟨k, len, rise, rl, rh, fl, fh, rfl, b3⟩
    have z3 := b3.size
    try simp only [World.size_alloc, World.size_drew, World.heap_drewN, World.size_setCell] at z3
    have z3_0 : w.heap.size < w3.heap.size := by omega
    apply Blk.use (w := w3) (b := w.heap.size)
    · repeat (first | with_reducible assumption | with_reducible exact Blk.alloc_at (by first | rfl | (simp; done) | (simp; omega)) | with_reducible apply Blk.alloc | with_reducible apply Blk.drew | with_reducible apply Blk.drewN | with_reducible apply Blk.set | ((with_reducible apply Blk.set_ne); rotate_left; (focus omega)) | ((with_reducible apply Blk.dr); rotate_left; (focus (with_reducible assumption)); (focus omega)) | ((with_reducible apply Blk.new); rotate_left; (focus (with_reducible assumption))))
    intro K3_0
    try simp only [List.setIfInBounds_toArray, List.set_cons_succ, List.set_cons_zero] at K3_0
    obtain ⟨c3_0, f3_0⟩ := K3_0.rules
    try clear c2_0 f2_0 K2_0
    try clear c2_1 f2_1 K2_1
    try clear c2_2 f2_2 K2_2
    try clear c2_3 f2_3 K2_3
    try clear c2_4 f2_4 K2_4
    try clear c2_5 f2_5 K2_5
    try clear c1_0 f1_0 K1_0
    try clear c1_1 f1_1 K1_1
    try clear c1_2 f1_2 K1_2
    try clear c1_3 f1_3 K1_3
    try clear c1_4 f1_4 K1_4
    try clear c1_5 f1_5 K1_5
    have y3 : S < w3.heap.size := by omega
    go_wp2_with fail
    have n3 : New w w3 := Dr.new (S := S) (w0 := w) (w := w1) (by repeat (first | with_reducible exact New.refl _ | with_reducible assumption | with_reducible refine New.drew ?_ | with_reducible refine New.drewN ?_ _ | with_reducible refine New.alloc ?_ _ | with_reducible refine New.setCell ?_ (by first | (simp; done) | (simp; omega) | omega) _ | with_reducible refine New.trans ?_ (by with_reducible assumption))) (by repeat (first | with_reducible refine Dr.setCell ?_ (by first | (simp; done) | (simp; omega) | omega) _ | with_reducible refine Dr.alloc ?_ _ | with_reducible exact Dr.refl _ _ | with_reducible assumption | with_reducible refine Dr.trans ?_ (by with_reducible assumption) | with_reducible refine Dr.trans ?_ (Dr.of_new (by with_reducible assumption)) | with_reducible refine Dr.drewN ?_ _ | with_reducible refine Dr.drew ?_)) (by omega)
    apply ret_segn rfl (by repeat (first | with_reducible exact New.refl _ | with_reducible assumption | with_reducible refine New.drew ?_ | with_reducible refine New.drewN ?_ _ | with_reducible refine New.alloc ?_ _ | with_reducible refine New.setCell ?_ (by first | (simp; done) | (simp; omega) | omega) _ | with_reducible refine New.trans ?_ (by with_reducible assumption)))
    simp [results, Try.results38, go_sem, c3_0]
    exact ⟨rfl, rfl, rfl, rfl, rfl, rfl, rfl⟩
end Go.Proofs.Ytdhmngmclbaieaa
