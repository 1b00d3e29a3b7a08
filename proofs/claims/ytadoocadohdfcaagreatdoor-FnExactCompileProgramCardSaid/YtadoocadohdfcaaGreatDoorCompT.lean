/- Contracts: CompileProgram, of the reference and of the program. -/
import Derived.Test.YtadoocadohdfcaaGreatDoorProg
import Derived.Test.YtadoocadohdfcaaGreatDoorCompJ
import Derived.Test.YtadoocadohdfcaaGreatDoorSound6
namespace Go.Proofs.YtadoocadohdfcaaGreatDoor
open Go Go.Proofs Go.RowKit
set_option linter.unusedVariables false
set_option linter.unusedSimpArgs false
set_option maxRecDepth 100000
theorem sound_w {p : ProgD} (h : soundB p = true) : wB p = true := by rw [soundB, Bool.and_eq_true] at h; exact h.1
structure OwnC17 (w : World) (base : Nat) (c : CodeD) (bv sv : Value) : Prop where
  blocks : w.ownsRow base 63 3 bv c.blocks.length (c.blocks.flatMap encTerm)
  steps : w.ownsRow base 65 2 sv c.steps.length (c.steps.flatMap encInstruction)
def RetC17 (w : World) (r : CodeD × Int) (e : Ending) (w' : World) : Prop := ∃ bv sv, e = .returned (.tuple #[valC r.1 bv sv, .int .i64 r.2]) ∧ New w w' ∧ OwnC17 w' w.heap.size r.1 bv sv
def noC17 : CodeD := ⟨0, 0, 0, [], []⟩
theorem compR_1 {p : ProgD} (h : soundB p = true) : compR p = (compC p, 0) := by rw [compR, if_pos h]
theorem compR_0 {p : ProgD} (h : soundB p = false) : compR p = (noC17, 1) := by rw [compR, if_neg (by simp [h])]; rfl
theorem compR_len (p : ProgD) : (compR p).1.blocks.length ≤ 1048576 ∧ (compR p).1.steps.length ≤ 1048576 := by
  rcases Bool.eq_false_or_eq_true (soundB p) with h | h
  · rw [compR_1 h]
    have hf := few_of (sound_w h)
    have h1 := blkTo_bd hf p.lines.length (Nat.le_refl _)
    rw [blkTo_all] at h1
    have h2 := linesA_bd hf p.lines.length (Nat.le_refl _)
    have h3 := hf.1
    refine ⟨by show (blkP p).length ≤ 1048576; omega, ?_⟩
    show (compS p).length ≤ 1048576
    rw [compS, List.length_append]
    split
    · simp; omega
    · simp; omega
  · rw [compR_0 h]; simp [noC17]
set_option maxHeartbeats 1000000 in
theorem sCompile_any (p : ProgD) (iv vv ov lv : Value) (w : World) (hp : RdP w p iv vv ov lv) (hf : FitP p)  :
    Calls Tryz.prog 5 #[valP p iv vv ov lv] w (RetC17 w (compR p)) := by
  have HP := Lib.hid hp; clear hp
  skip
  rcases Bool.eq_false_or_eq_true (soundB p) with h | h
  · have HR := Lib.hid (compR_1 h)
    have hw := sound_w h
    go_enter Tryz.func5, Tryz.ntmps5
    go_wp2_with fail
    refine (sIsSound_any p _ _ _ _ _ (HP.out.new (by repeat (first | with_reducible exact New.refl _ | with_reducible assumption | with_reducible refine New.drew ?_ | with_reducible refine New.drewN ?_ _ | with_reducible refine New.alloc ?_ _ | with_reducible refine New.setCell ?_ (by first | (simp; done) | (simp; omega) | omega) _ | with_reducible refine New.trans ?_ (by with_reducible assumption)))) hf ).mono ?_; rintro e w1 ⟨rfl, b1⟩
    try with_reducible replace b1 := New.undrawN b1
    try with_reducible replace b1 := New.undraw b1
    obtain ⟨c1, f1⟩ := b1.rules
    have z1 := b1.size
    try simp only [World.size_alloc, World.size_drew, World.heap_drewN, World.size_setCell] at z1
    have z1_0 : w.heap.size < w1.heap.size := by omega
    have z1_1 : w.heap.size + 1 < w1.heap.size := by omega
    go_wp2_with fail
    refine (sCompile0_any p _ _ _ _ _ (HP.out.new (by repeat (first | with_reducible exact New.refl _ | with_reducible assumption | with_reducible refine New.drew ?_ | with_reducible refine New.drewN ?_ _ | with_reducible refine New.alloc ?_ _ | with_reducible refine New.setCell ?_ (by first | (simp; done) | (simp; omega) | omega) _ | with_reducible refine New.trans ?_ (by with_reducible assumption)))) (few_of hw)).mono ?_; rintro e w2 ⟨bv, sv, rfl, b2, q1, q2⟩
    obtain ⟨ba, bc, rfl⟩ := own_slice q1; obtain ⟨sa, sc, rfl⟩ := own_slice q2
    obtain ⟨c2, f2⟩ := b2.rules
    have z2 := b2.size
    try simp only [World.size_alloc, World.size_drew, World.heap_drewN, World.size_setCell] at z2
    have z2_0 : w.heap.size < w2.heap.size := by omega
    have z2_1 : w.heap.size + 1 < w2.heap.size := by omega
    go_wp2_with fail
    have m0 : w2.cell? ⟨w.heap.size + 1, 0, none⟩ = some (.int .i64 0) := by simp (disch := first | (simp only [World.size_alloc, World.size_drew, World.size_setCell]; omega) | omega | (simp; done) | (simp; omega)) only [c2, c1, cell_alloc_old, cell_alloc_new, World.cell?_drewN, World.cell?_drew]; first | done | rfl | (simp; done)
    have m1 : w2.cell? ⟨w.heap.size + 1, 1, none⟩ = some (.int .i64 0) := by simp (disch := first | (simp only [World.size_alloc, World.size_drew, World.size_setCell]; omega) | omega | (simp; done) | (simp; omega)) only [c2, c1, cell_alloc_old, cell_alloc_new, World.cell?_drewN, World.cell?_drew]; first | done | rfl | (simp; done)
    have m2 : w2.cell? ⟨w.heap.size + 1, 2, none⟩ = some (.int .i64 0) := by simp (disch := first | (simp only [World.size_alloc, World.size_drew, World.size_setCell]; omega) | omega | (simp; done) | (simp; omega)) only [c2, c1, cell_alloc_old, cell_alloc_new, World.cell?_drewN, World.cell?_drew]; first | done | rfl | (simp; done)
    have m3 : w2.cell? ⟨w.heap.size + 1, 3, none⟩ = some (.slice none 0 0) := by simp (disch := first | (simp only [World.size_alloc, World.size_drew, World.size_setCell]; omega) | omega | (simp; done) | (simp; omega)) only [c2, c1, cell_alloc_old, cell_alloc_new, World.cell?_drewN, World.cell?_drew]; first | done | rfl | (simp; done)
    have m4 : w2.cell? ⟨w.heap.size + 1, 4, none⟩ = some (.slice none 0 0) := by simp (disch := first | (simp only [World.size_alloc, World.size_drew, World.size_setCell]; omega) | omega | (simp; done) | (simp; omega)) only [c2, c1, cell_alloc_old, cell_alloc_new, World.cell?_drewN, World.cell?_drew]; first | done | rfl | (simp; done)
    refine bodyPost_ret (v := .tuple #[valC (compC p) (.slice ba (compC p).blocks.length bc) (.slice sa (compC p).steps.length sc), .int .i64 0]) (by simp [results, Tryz.results5, go_sem, m0, m1, m2, m3, m4, f2, f1, z1_0, z1_1, z2_0, z2_1]) rfl ?_
    rw [HR.out]
    refine ⟨_, _, rfl, (by repeat (first | with_reducible exact New.refl _ | with_reducible assumption | with_reducible refine New.drew ?_ | with_reducible refine New.drewN ?_ _ | with_reducible refine New.alloc ?_ _ | with_reducible refine New.setCell ?_ (by first | (simp; done) | (simp; omega) | omega) _ | with_reducible refine New.trans ?_ (by with_reducible assumption))), ⟨?_, ?_⟩⟩
    · refine own_base (base := w1.heap.size) ?_ (by omega)
      repeat (apply ownsRow_setCell_below)
      exact q1
      all_goals (dsimp; omega)
    · refine own_base (base := w1.heap.size) ?_ (by omega)
      repeat (apply ownsRow_setCell_below)
      exact q2
      all_goals (dsimp; omega)
  · have HR := Lib.hid (compR_0 h)
    go_enter Tryz.func5, Tryz.ntmps5
    go_wp2_with fail
    refine (sIsSound_any p _ _ _ _ _ (HP.out.new (by repeat (first | with_reducible exact New.refl _ | with_reducible assumption | with_reducible refine New.drew ?_ | with_reducible refine New.drewN ?_ _ | with_reducible refine New.alloc ?_ _ | with_reducible refine New.setCell ?_ (by first | (simp; done) | (simp; omega) | omega) _ | with_reducible refine New.trans ?_ (by with_reducible assumption)))) hf ).mono ?_; rintro e w1 ⟨rfl, b1⟩
    obtain ⟨c1, f1⟩ := b1.rules
    have z1 := b1.size
    simp only [World.size_alloc] at z1
    have z1_0 : w.heap.size + 1 < w1.heap.size := by omega
    go_wp2_with fail
    refine bodyPost_ret (v := .tuple #[valC noC17 (.slice none 0 0) (.slice none 0 0), .int .i64 1]) (by simp [results, Tryz.results5, go_sem, c1, f1, z1_0, noC17]) rfl ?_
    rw [HR.out]
    exact ⟨_, _, rfl, (by repeat (first | with_reducible exact New.refl _ | with_reducible assumption | with_reducible refine New.drew ?_ | with_reducible refine New.drewN ?_ _ | with_reducible refine New.alloc ?_ _ | with_reducible refine New.setCell ?_ (by first | (simp; done) | (simp; omega) | omega) _ | with_reducible refine New.trans ?_ (by with_reducible assumption))), ⟨World.ownsRow_nil _ _ _ _, World.ownsRow_nil _ _ _ _⟩⟩
set_option maxHeartbeats 1000000 in
theorem iCompile_any (p : ProgD) (iv vv ov lv : Value) (w : World) (hp : RdP w p iv vv ov lv) (hf : FitP p) (hk : KW w) :
    Calls Tryz.prog 7 #[valP p iv vv ov lv] w (RetC17 w (compR p)) := by
  have HP := Lib.hid hp; clear hp
  have HK := Lib.hid hk; clear hk
  rcases Bool.eq_false_or_eq_true (soundB p) with h | h
  · have HR := Lib.hid (compR_1 h)
    have hw := sound_w h
    go_enter Tryz.func7, Tryz.ntmps7
    go_wp2_with fail
    refine (iIsSound_any p _ _ _ _ _ (HP.out.new (by repeat (first | with_reducible exact New.refl _ | with_reducible assumption | with_reducible refine New.drew ?_ | with_reducible refine New.drewN ?_ _ | with_reducible refine New.alloc ?_ _ | with_reducible refine New.setCell ?_ (by first | (simp; done) | (simp; omega) | omega) _ | with_reducible refine New.trans ?_ (by with_reducible assumption)))) hf (HK.out.new (by repeat (first | with_reducible exact New.refl _ | with_reducible assumption | with_reducible refine New.drew ?_ | with_reducible refine New.drewN ?_ _ | with_reducible refine New.alloc ?_ _ | with_reducible refine New.setCell ?_ (by first | (simp; done) | (simp; omega) | omega) _ | with_reducible refine New.trans ?_ (by with_reducible assumption))))).mono ?_; rintro e w1 ⟨rfl, b1⟩
    try with_reducible replace b1 := New.undrawN b1
    try with_reducible replace b1 := New.undraw b1
    obtain ⟨c1, f1⟩ := b1.rules
    have z1 := b1.size
    try simp only [World.size_alloc, World.size_drew, World.heap_drewN, World.size_setCell] at z1
    have z1_0 : w.heap.size < w1.heap.size := by omega
    have z1_1 : w.heap.size + 1 < w1.heap.size := by omega
    go_wp2_with fail
    refine (iCompile0_any p _ _ _ _ _ (HP.out.new (by repeat (first | with_reducible exact New.refl _ | with_reducible assumption | with_reducible refine New.drew ?_ | with_reducible refine New.drewN ?_ _ | with_reducible refine New.alloc ?_ _ | with_reducible refine New.setCell ?_ (by first | (simp; done) | (simp; omega) | omega) _ | with_reducible refine New.trans ?_ (by with_reducible assumption)))) hw).mono ?_; rintro e w2 ⟨bv, sv, rfl, b2, q1, q2⟩
    obtain ⟨ba, bc, rfl⟩ := own_slice q1; obtain ⟨sa, sc, rfl⟩ := own_slice q2
    obtain ⟨c2, f2⟩ := b2.rules
    have z2 := b2.size
    try simp only [World.size_alloc, World.size_drew, World.heap_drewN, World.size_setCell] at z2
    have z2_0 : w.heap.size < w2.heap.size := by omega
    have z2_1 : w.heap.size + 1 < w2.heap.size := by omega
    go_wp2_with fail
    have m0 : w2.cell? ⟨w.heap.size + 1, 0, none⟩ = some (.int .i64 0) := by simp (disch := first | (simp only [World.size_alloc, World.size_drew, World.size_setCell]; omega) | omega | (simp; done) | (simp; omega)) only [c2, c1, cell_alloc_old, cell_alloc_new, World.cell?_drewN, World.cell?_drew]; first | done | rfl | (simp; done)
    have m1 : w2.cell? ⟨w.heap.size + 1, 1, none⟩ = some (.int .i64 0) := by simp (disch := first | (simp only [World.size_alloc, World.size_drew, World.size_setCell]; omega) | omega | (simp; done) | (simp; omega)) only [c2, c1, cell_alloc_old, cell_alloc_new, World.cell?_drewN, World.cell?_drew]; first | done | rfl | (simp; done)
    have m2 : w2.cell? ⟨w.heap.size + 1, 2, none⟩ = some (.int .i64 0) := by simp (disch := first | (simp only [World.size_alloc, World.size_drew, World.size_setCell]; omega) | omega | (simp; done) | (simp; omega)) only [c2, c1, cell_alloc_old, cell_alloc_new, World.cell?_drewN, World.cell?_drew]; first | done | rfl | (simp; done)
    have m3 : w2.cell? ⟨w.heap.size + 1, 3, none⟩ = some (.slice none 0 0) := by simp (disch := first | (simp only [World.size_alloc, World.size_drew, World.size_setCell]; omega) | omega | (simp; done) | (simp; omega)) only [c2, c1, cell_alloc_old, cell_alloc_new, World.cell?_drewN, World.cell?_drew]; first | done | rfl | (simp; done)
    have m4 : w2.cell? ⟨w.heap.size + 1, 4, none⟩ = some (.slice none 0 0) := by simp (disch := first | (simp only [World.size_alloc, World.size_drew, World.size_setCell]; omega) | omega | (simp; done) | (simp; omega)) only [c2, c1, cell_alloc_old, cell_alloc_new, World.cell?_drewN, World.cell?_drew]; first | done | rfl | (simp; done)
    refine bodyPost_ret (v := .tuple #[valC (compC p) (.slice ba (compC p).blocks.length bc) (.slice sa (compC p).steps.length sc), .int .i64 0]) (by simp [results, Tryz.results7, go_sem, m0, m1, m2, m3, m4, f2, f1, z1_0, z1_1, z2_0, z2_1]) rfl ?_
    rw [HR.out]
    refine ⟨_, _, rfl, (by repeat (first | with_reducible exact New.refl _ | with_reducible assumption | with_reducible refine New.drew ?_ | with_reducible refine New.drewN ?_ _ | with_reducible refine New.alloc ?_ _ | with_reducible refine New.setCell ?_ (by first | (simp; done) | (simp; omega) | omega) _ | with_reducible refine New.trans ?_ (by with_reducible assumption))), ⟨?_, ?_⟩⟩
    · refine own_base (base := w1.heap.size) ?_ (by omega)
      repeat (apply ownsRow_setCell_below)
      exact q1
      all_goals (dsimp; omega)
    · refine own_base (base := w1.heap.size) ?_ (by omega)
      repeat (apply ownsRow_setCell_below)
      exact q2
      all_goals (dsimp; omega)
  · have HR := Lib.hid (compR_0 h)
    go_enter Tryz.func7, Tryz.ntmps7
    go_wp2_with fail
    refine (iIsSound_any p _ _ _ _ _ (HP.out.new (by repeat (first | with_reducible exact New.refl _ | with_reducible assumption | with_reducible refine New.drew ?_ | with_reducible refine New.drewN ?_ _ | with_reducible refine New.alloc ?_ _ | with_reducible refine New.setCell ?_ (by first | (simp; done) | (simp; omega) | omega) _ | with_reducible refine New.trans ?_ (by with_reducible assumption)))) hf (HK.out.new (by repeat (first | with_reducible exact New.refl _ | with_reducible assumption | with_reducible refine New.drew ?_ | with_reducible refine New.drewN ?_ _ | with_reducible refine New.alloc ?_ _ | with_reducible refine New.setCell ?_ (by first | (simp; done) | (simp; omega) | omega) _ | with_reducible refine New.trans ?_ (by with_reducible assumption))))).mono ?_; rintro e w1 ⟨rfl, b1⟩
    obtain ⟨c1, f1⟩ := b1.rules
    have z1 := b1.size
    simp only [World.size_alloc] at z1
    have z1_0 : w.heap.size + 1 < w1.heap.size := by omega
    go_wp2_with fail
    refine bodyPost_ret (v := .tuple #[valC noC17 (.slice none 0 0) (.slice none 0 0), .int .i64 1]) (by simp [results, Tryz.results7, go_sem, c1, f1, z1_0, noC17]) rfl ?_
    rw [HR.out]
    exact ⟨_, _, rfl, (by repeat (first | with_reducible exact New.refl _ | with_reducible assumption | with_reducible refine New.drew ?_ | with_reducible refine New.drewN ?_ _ | with_reducible refine New.alloc ?_ _ | with_reducible refine New.setCell ?_ (by first | (simp; done) | (simp; omega) | omega) _ | with_reducible refine New.trans ?_ (by with_reducible assumption))), ⟨World.ownsRow_nil _ _ _ _, World.ownsRow_nil _ _ _ _⟩⟩
end Go.Proofs.YtadoocadohdfcaaGreatDoor
