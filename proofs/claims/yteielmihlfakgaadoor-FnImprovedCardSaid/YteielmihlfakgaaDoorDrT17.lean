/- Contracts: expression lists with many constants, drawn from a code. -/
import Derived.WalkSpells
import Derived.Test.YteielmihlfakgaaDoorProg
import Derived.Test.YteielmihlfakgaaDoorDrTerm
namespace Go.Proofs.YteielmihlfakgaaDoor
open Go Go.Proofs Go.RowKit
set_option linter.unusedVariables false
set_option linter.unusedSimpArgs false
set_option maxRecDepth 100000
theorem drawT_lit {S n : Nat} {w0 w : World} {fn : Func} {a : Act} {k : Int} {s : ByteArray} {z : Int} (hd : a.defers = []) (hD : Dr S w0 w) (hn : 1 ≤ n) (hs : s.size ≤ 1048576)
    (hr : (results fn a.tmps).run Tryd.prog (w.alloc (.cells #[.int .i64 k, .string s, .int .i64 z] 43)) = .ok (.slice (some ⟨w.heap.size, 0, none⟩) 1 1) (w.alloc (.cells #[.int .i64 k, .string s, .int .i64 z] 43))) :
    bodyPost Tryd.prog fn (DrawT S n w0) .ret a (w.alloc (.cells #[.int .i64 k, .string s, .int .i64 z] 43)) :=
  ⟨hd, _, hr, _, [⟨k, s, z⟩], rfl, hD.alloc _, own_lit1 (cs := [.int .i64 k, .string s, .int .i64 z]) hD.size rfl, Nat.le_refl _, hn, fun x hx => by obtain rfl := List.mem_singleton.1 hx; exact hs⟩
set_option maxHeartbeats 2000000 in
theorem drT17_any {B : Nat} (S : Nat) : ∀ (d : Nat), d ≤ 10 → ∀ (w : World) (hs : Src B S w),
    Calls Tryd.prog 68 #[.pointer (some ⟨S, 0, none⟩), .int .i64 (d : Int)] w (DrawT S (2 ^ (d + 1) - 1) w) := by
  intro d
  induction d with
  | zero =>
    intro _ w hs
    have HS := Lib.hid hs; clear hs
    go_enter Tryd.func68, Tryd.ntmps68
    go_wp2_with fail
    exact drawT_lit rfl (Dr.refl _ _) (by omega) (show (1 : Nat) ≤ 1048576 by omega) (by simp [results, Tryd.results68, go_sem])
  | succ d ih =>
    intro hd w hs
    have hS := hs.lt
    have HS := Lib.hid hs; clear hs
    have HP2 := Lib.hid (show 2 ^ (d + 1 + 1) = 2 ^ (d + 1) + 2 ^ (d + 1) by rw [Nat.pow_succ]; omega)
    have hp2 : 2 ≤ 2 ^ (d + 1) := by have := Nat.pow_le_pow_right (show 0 < 2 by omega) (show 1 ≤ d + 1 by omega); omega
    have hp3 : 2 ^ (d + 1) ≤ 2048 := by have := Nat.pow_le_pow_right (show 0 < 2 by omega) (show d + 1 ≤ 11 by omega); omega
    have HIH := Lib.hid (fun (w0 : World) (D : Dr S w w0) => ih (by omega) w0 (D.src HS.out))
    clear ih
    rw [HP2.out]
    generalize 2 ^ (d + 1) = m at *
    obtain ⟨i0, hi, hz0, hz1, hz2⟩ := info_parts infoTerm
    go_enter Tryd.func68, Tryd.ntmps68
    go_wp2_with fail
    refine (l01Next_any S 6 _ (Dr.src ?hs13 HS.out)).mono ?_
    case hs13 => exact (by repeat (first | with_reducible refine Dr.setCell ?_ (by first | (simp; done) | (simp; omega) | omega) _ | with_reducible refine Dr.alloc ?_ _ | with_reducible exact Dr.refl _ _ | with_reducible assumption | with_reducible refine Dr.trans ?_ (by with_reducible assumption) | with_reducible refine Dr.trans ?_ (Dr.of_new (by with_reducible assumption)) | with_reducible refine Dr.drewN ?_ _ | with_reducible refine Dr.drew ?_))
    rintro e w1 ⟨r1, rfl, p1, q1, b1⟩
    have z1 := b1.size
    try simp only [World.size_alloc, World.size_drew, World.heap_drewN, World.size_setCell] at z1
    have y1 : S < w1.heap.size := by omega
    rcases (by omega : r1 = 0 ∨ r1 = 1 ∨ r1 = 2 ∨ r1 = 3 ∨ 4 ≤ r1) with rfl | rfl | rfl | rfl | h4
    · go_wp2_with fail
      refine (l01Next_any S 2 _ (Dr.src ?hs14 HS.out)).mono ?_
      case hs14 => exact (by repeat (first | with_reducible refine Dr.setCell ?_ (by first | (simp; done) | (simp; omega) | omega) _ | with_reducible refine Dr.alloc ?_ _ | with_reducible exact Dr.refl _ _ | with_reducible assumption | with_reducible refine Dr.trans ?_ (by with_reducible assumption) | with_reducible refine Dr.trans ?_ (Dr.of_new (by with_reducible assumption)) | with_reducible refine Dr.drewN ?_ _ | with_reducible refine Dr.drew ?_))
      rintro e w2 ⟨r2, rfl, p2, q2, b2⟩
      replace q2 : r2 ≤ 1 := (by omega)
      have z2 := b2.size
      try simp only [World.size_alloc, World.size_drew, World.heap_drewN, World.size_setCell] at z2
      try clear c1_0 f1_0 K1_0
      try clear c1_1 f1_1 K1_1
      try clear c1_2 f1_2 K1_2
      try clear c1_3 f1_3 K1_3
      try clear c1_4 f1_4 K1_4
      try clear c1_5 f1_5 K1_5
      have y2 : S < w2.heap.size := by omega
      go_wp2_with fail
      exact drawT_lit rfl (by repeat (first | with_reducible refine Dr.setCell ?_ (by first | (simp; done) | (simp; omega) | omega) _ | with_reducible refine Dr.alloc ?_ _ | with_reducible exact Dr.refl _ _ | with_reducible assumption | with_reducible refine Dr.trans ?_ (by with_reducible assumption) | with_reducible refine Dr.trans ?_ (Dr.of_new (by with_reducible assumption)) | with_reducible refine Dr.drewN ?_ _ | with_reducible refine Dr.drew ?_)) (by omega) (show (0 : Nat) ≤ 1048576 by omega) (by simp [results, Tryd.results68, go_sem])
    · go_wp2_with fail
      refine (HIH.out _ b1).mono ?_
      rintro e w5 ⟨v5, ts, rfl, b5, o5, h5a, h5b, h5f⟩
      have D5 := b1.trans b5
      have z5 := D5.size
      have O5 := own_base (base' := w.heap.size) o5 b1.size
      have F5 := Lib.hid h5f
      have hT2 : ts.length + 1 ≤ m + m - 1 := by omega
      clear o5 h5f
      go_wp2_with (first | (at_builtin; refine wpList_append_own _ rfl _ _ 36 rfl (w.heap.size) 43 i0 (Value.agg #[.int .i64 0, .string ⟨#[]⟩, .int .i64 0]) 3 32 Tryd.underlying36 hi hz0 hz1 hz2 rfl (by decide) _ _ _ rfl (O5.alloc _) ⟨w5.heap.size, 0, none⟩ 1 1 [.int .i64 4, .string ⟨#[]⟩, .int .i64 0] rfl rfl (fun j u hj => alloc_row (by first | rfl | simp) j u hj) (by intro u hu; simp at hu; rcases hu with rfl | rfl | rfl <;> rfl) (by unfold maxLen; omega) (by omega) (by first | (simp; done) | (simp; omega) | omega) ?_; intro va wa howna hgra _))
      have D10 := Dr.grown (D5.alloc _) hgra (fun q hq => (own_block_lt O5 q hq).1)
      go_ret
      exact ⟨va, ts ++ [⟨4, ⟨#[]⟩, 0⟩], rfl, D10, own_snocT howna, by simp only [List.length_append, List.length_singleton]; omega, by rw [List.length_append, List.length_singleton]; exact hT2, fun x hx => by rcases List.mem_append.1 hx with h | h; exact F5.out x h; obtain rfl := List.mem_singleton.1 h; exact (show (0 : Nat) ≤ 1048576 by omega)⟩
    · go_wp2_with fail
      refine (HIH.out _ b1).mono ?_
      rintro e w5 ⟨v5, ts, rfl, b5, o5, h5a, h5b, h5f⟩
      have D5 := b1.trans b5
      have z5 := D5.size
      have O5 := own_base (base' := w.heap.size) o5 b1.size
      have F5 := Lib.hid h5f
      have hT2 : ts.length + 1 ≤ m + m - 1 := by omega
      clear o5 h5f
      go_wp2_with (first | (at_builtin; refine wpList_append_own _ rfl _ _ 36 rfl (w.heap.size) 43 i0 (Value.agg #[.int .i64 0, .string ⟨#[]⟩, .int .i64 0]) 3 32 Tryd.underlying36 hi hz0 hz1 hz2 rfl (by decide) _ _ _ rfl (O5.alloc _) ⟨w5.heap.size, 0, none⟩ 1 1 [.int .i64 4, .string ⟨#[]⟩, .int .i64 0] rfl rfl (fun j u hj => alloc_row (by first | rfl | simp) j u hj) (by intro u hu; simp at hu; rcases hu with rfl | rfl | rfl <;> rfl) (by unfold maxLen; omega) (by omega) (by first | (simp; done) | (simp; omega) | omega) ?_; intro va wa howna hgra _))
      have D10 := Dr.grown (D5.alloc _) hgra (fun q hq => (own_block_lt O5 q hq).1)
      go_ret
      exact ⟨va, ts ++ [⟨4, ⟨#[]⟩, 0⟩], rfl, D10, own_snocT howna, by simp only [List.length_append, List.length_singleton]; omega, by rw [List.length_append, List.length_singleton]; exact hT2, fun x hx => by rcases List.mem_append.1 hx with h | h; exact F5.out x h; obtain rfl := List.mem_singleton.1 h; exact (show (0 : Nat) ≤ 1048576 by omega)⟩
    · go_wp2_with fail
      refine (HIH.out _ b1).mono ?_
      rintro e w5 ⟨v5, ts, rfl, b5, o5, h5a, h5b, h5f⟩
      go_wp2_with fail
      go_ret
      exact ⟨v5, ts, rfl, b1.trans b5, own_base o5 b1.size, h5a, by omega, h5f⟩
    · have g0 : (r1 == 0) = false := by simp; omega
      have g1 : (r1 == 1) = false := by simp; omega
      have g2 : (r1 == 2) = false := by simp; omega
      have g3 : (r1 == 3) = false := by simp; omega
      go_wp2_with fail
      refine (HIH.out _ b1).mono ?_
      rintro e w5 ⟨v5, ts, rfl, b5, o5, h5a, h5b, h5f⟩
      have D5 := b1.trans b5
      have z5 := D5.size
      have O5 := Lib.hid (own_base (base' := w.heap.size) o5 b1.size)
      have F5 := Lib.hid h5f
      clear o5 h5f b5 b1
      go_wp2_with fail
      refine (HIH.out _ D5).mono ?_
      rintro e w6 ⟨v6, ts2, rfl, b6, o6, h6a, h6b, h6f⟩
      have D6 := D5.trans b6
      have z6 := D6.size
      have O56 := own_dr O5.out b6 (by omega)
      have F6 := Lib.hid h6f
      have R6 := Lib.hid (own_rd o6)
      clear o6 h6f O5
      go_wp2_with (first | (at_builtin; refine wpList_append_rd rfl _ _ 36 rfl (w.heap.size) 43 i0 (Value.agg #[.int .i64 0, .string ⟨#[]⟩, .int .i64 0]) 3 32 Tryd.underlying36 hi hz0 hz1 hz2 rfl (by decide) _ _ _ rfl (O56) _ _ ((ts2).flatMap encTerm) rfl (R6.out) (flat_length encTerm 3 encTerm_len _) (encT_one _) (by unfold maxLen; omega) (by omega) (by first | (simp; done) | (simp; omega) | omega) ?_; intro va wa howna hgra))
      have DA := Dr.grown D6 hgra (fun q hq => (own_block_lt O56 q hq).1)
      have zA := DA.size
      rw [← List.flatMap_append, ← List.length_append] at howna
      have FA := Lib.hid (fun x (hx : x ∈ ts ++ ts2) => by rcases List.mem_append.1 hx with h | h; exact F5.out x h; exact F6.out x h)
      have hTl : (ts ++ ts2).length + 1 ≤ 4096 := by rw [List.length_append]; omega
      have hT2 : (ts ++ ts2).length + 1 ≤ m + m - 1 := by rw [List.length_append]; omega
      refine (l01Next_any S 2 _ (DA.src HS.out)).mono ?_
      rintro e w7 ⟨r7, rfl, p7, q7, b7⟩
      replace q7 : r7 ≤ 1 := (by omega)
      have z7 := b7.size
      try simp only [World.size_alloc, World.size_drew, World.heap_drewN, World.size_setCell] at z7
      try clear c6_0 f6_0 K6_0
      try clear c6_1 f6_1 K6_1
      try clear c6_2 f6_2 K6_2
      try clear c6_3 f6_3 K6_3
      try clear c6_4 f6_4 K6_4
      try clear c6_5 f6_5 K6_5
      try clear c5_0 f5_0 K5_0
      try clear c5_1 f5_1 K5_1
      try clear c5_2 f5_2 K5_2
      try clear c5_3 f5_3 K5_3
      try clear c5_4 f5_4 K5_4
      try clear c5_5 f5_5 K5_5
      try clear c4_0 f4_0 K4_0
      try clear c4_1 f4_1 K4_1
      try clear c4_2 f4_2 K4_2
      try clear c4_3 f4_3 K4_3
      try clear c4_4 f4_4 K4_4
      try clear c4_5 f4_5 K4_5
      have y7 : S < w7.heap.size := by omega
      have D7 := DA.trans b7
      have own7 := own_dr howna b7 (by omega)
      have z7 := D7.size
      clear howna hgra
      go_wp2_with (first | (at_builtin; refine wpList_append_own _ rfl _ _ 36 rfl (w.heap.size) 43 i0 (Value.agg #[.int .i64 0, .string ⟨#[]⟩, .int .i64 0]) 3 32 Tryd.underlying36 hi hz0 hz1 hz2 rfl (by decide) _ _ _ rfl (own7.alloc _) ⟨w7.heap.size, 0, none⟩ 1 1 [.int .i64 (5 + r7), .string ⟨#[]⟩, .int .i64 0] rfl rfl (fun j u hj => alloc_row (by first | rfl | simp) j u hj) (by intro u hu; simp at hu; rcases hu with rfl | rfl | rfl <;> rfl) (by unfold maxLen; omega) (by omega) (by first | (simp; done) | (simp; omega) | omega) ?_; intro va wa howna hgra _))
      have D10 := Dr.grown (D7.alloc _) hgra (fun q hq => (own_block_lt own7 q hq).1)
      go_ret
      exact ⟨va, ts ++ ts2 ++ [⟨5 + r7, ⟨#[]⟩, 0⟩], rfl, D10, own_snocT howna, by simp only [List.length_append, List.length_singleton]; omega, by rw [List.length_append, List.length_singleton]; exact hT2, fun x hx => by rcases List.mem_append.1 hx with h | h; exact FA.out x h; obtain rfl := List.mem_singleton.1 h; exact (show (0 : Nat) ≤ 1048576 by omega)⟩
end Go.Proofs.YteielmihlfakgaaDoor
