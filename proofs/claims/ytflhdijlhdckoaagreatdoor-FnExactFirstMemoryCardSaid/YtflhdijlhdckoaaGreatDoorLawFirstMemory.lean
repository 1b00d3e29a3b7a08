/- The program's FirstMemory returns what the reference's returns, for every argument. No condition but the row's own: the table of keywords holds what the program's text lays. -/
import Derived.Test.YtflhdijlhdckoaaGreatDoorRows
import Derived.Test.YtflhdijlhdckoaaGreatDoorCards
import Derived.Test.YtflhdijlhdckoaaGreatDoorTie
import Derived.Test.YtflhdijlhdckoaaGreatDoorShape
import Derived.Test.YtflhdijlhdckoaaGreatDoorLawBase
import Derived.Test.YtflhdijlhdckoaaGreatDoorFacts
import Derived.Test.YtflhdijlhdckoaaGreatDoorKeys
import Derived.Test.YtflhdijlhdckoaaGreatDoorOpenProgram
import Derived.Test.YtflhdijlhdckoaaGreatDoorMarkP
import Derived.Test.YtflhdijlhdckoaaGreatDoorFirstM
import Derived.Test.YtflhdijlhdckoaaGreatDoorMemK
import Derived.Test.YtflhdijlhdckoaaGreatDoorRegion
import Derived.Test.YtflhdijlhdckoaaGreatDoorCells
namespace Go.Proofs.YtflhdijlhdckoaaGreatDoor
open Go Go.Proofs Go.RowKit Go.ChangeShapes Go.WideShapes Go.ChangeAt
set_option linter.unusedVariables false
set_option linter.unusedSimpArgs false
set_option maxRecDepth 100000
theorem fm_bd {p : ProgD} (hf : FitP p) : fmN p ≤ 1048576 ∧ fmK p ≤ 1048576 := by
  have hv := hf.varsl
  refine ⟨?_, ?_⟩
  · rw [fmN]; split <;> omega
  · rw [fmK]; split
    · rename_i h; have hw : wB p = true := by rw [soundB, Bool.and_eq_true] at h; exact h.1
      have := blkP_len hw; omega
    · omega
theorem memZ_n (n k : Nat) : (memZ n k).vals.length = n := by simp [memZ]
theorem memZ_k (n k : Nat) : (memZ n k).blocks.length = k := by simp [memZ]
set_option maxHeartbeats 4000000 in
theorem lawFirstMemory_any (p : ProgD) (iv vv ov lv : Value) (w : World) (hk : KW w) (hp : RdP w p iv vv ov lv) (ho : OkP p) :
    Calls Tryz.prog 4 #[valP p iv vv ov lv] w fun e w' => e = .returned (.bool true) ∧ New w w' := by
  have HK := Lib.hid hk; clear hk
  have HP := Lib.hid hp; clear hp
  have hbd := szP_bd p 1048576 (by omega)
  by_cases hz : szP p 1048576 < 0
  · go_enter Tryz.func4, Tryz.ntmps4
    go_wp2_with fail
    refine (szProgram_any p iv vv ov lv 1048576 _ (HP.out.new (by repeat (first | with_reducible exact New.refl _ | with_reducible assumption | with_reducible refine New.drew ?_ | with_reducible refine New.drewN ?_ _ | with_reducible refine New.alloc ?_ _ | with_reducible refine New.setCell ?_ (by first | (simp; done) | (simp; omega) | omega) _ | with_reducible refine New.trans ?_ (by with_reducible assumption)))) (by omega) (by omega) ho).mono ?_; rintro e w1 ⟨rfl, b1⟩
    try replace b1 := New.undrawN b1
    try replace b1 := New.undraw b1
    obtain ⟨c1, f1⟩ := b1.rules
    have z1 := b1.size
    try simp only [World.size_alloc, World.size_drew, World.heap_drewN, World.size_setCell] at z1
    have z1_0 : w.heap.size < w1.heap.size := by omega
    go_wp2_with fail
    go_ret
    exact ⟨rfl, (by repeat (first | with_reducible exact New.refl _ | with_reducible assumption | with_reducible refine New.drew ?_ | with_reducible refine New.drewN ?_ _ | with_reducible refine New.alloc ?_ _ | with_reducible refine New.setCell ?_ (by first | (simp; done) | (simp; omega) | omega) _ | with_reducible refine New.trans ?_ (by with_reducible assumption)))⟩
  have hf := szP_fit p 1048576 (by omega) (by omega) (by omega)
  have hcn := szP_cnt p (by omega)
  have HSP := Lib.hid (fun (q r s t : Value) (w0 : World) (h : RdP w0 p q r s t) => sFirstMemory_any p q r s t w0 h hf)
  have HI := Lib.hid (fun (q r s t : Value) (w0 : World) (h : RdP w0 p q r s t) (k : KW w0) => iFirstMemory_any p q r s t w0 h hf k)
  obtain ⟨hN, hKB⟩ := fm_bd hf
  generalize fmN p = N at HSP HI hN
  generalize fmK p = K at HSP HI hKB
  generalize fmC p = C at HSP HI
  have hCC : (C != C) = false := by simp
  have hZn := memZ_n N K
  have hZk := memZ_k N K
  go_enter Tryz.func4, Tryz.ntmps4
  go_wp2_with fail
  refine (szProgram_any p iv vv ov lv 1048576 _ (HP.out.new (by repeat (first | with_reducible exact New.refl _ | with_reducible assumption | with_reducible refine New.drew ?_ | with_reducible refine New.drewN ?_ _ | with_reducible refine New.alloc ?_ _ | with_reducible refine New.setCell ?_ (by first | (simp; done) | (simp; omega) | omega) _ | with_reducible refine New.trans ?_ (by with_reducible assumption)))) (by omega) (by omega) ho).mono ?_; rintro e w1 ⟨rfl, b1⟩
  try replace b1 := New.undrawN b1
  try replace b1 := New.undraw b1
  obtain ⟨c1, f1⟩ := b1.rules
  have z1 := b1.size
  try simp only [World.size_alloc, World.size_drew, World.heap_drewN, World.size_setCell] at z1
  have z1_0 : w.heap.size < w1.heap.size := by omega
  go_wp2_with fail
  refine (toProgram_any p iv vv ov lv _ (HP.out.new (by repeat (first | with_reducible exact New.refl _ | with_reducible assumption | with_reducible refine New.drew ?_ | with_reducible refine New.drewN ?_ _ | with_reducible refine New.alloc ?_ _ | with_reducible refine New.setCell ?_ (by first | (simp; done) | (simp; omega) | omega) _ | with_reducible refine New.trans ?_ (by with_reducible assumption)))) hf).mono ?_; rintro e w2 ⟨i2, v2, o2, l2, rfl, b2, q2⟩
  obtain ⟨c2, f2⟩ := b2.rules
  have z2 := b2.size
  try simp only [World.size_alloc, World.size_drew, World.heap_drewN, World.size_setCell] at z2
  have z2_0 : w.heap.size < w2.heap.size := by omega
  go_wp2_with fail
  refine (HSP.out i2 v2 o2 l2 _ q2).mono ?_; rintro e w3 ⟨sa, sb, rfl, b3, om3⟩
  obtain ⟨a5, n5, rfl⟩ := own_slice om3.1; obtain ⟨a6, n6, rfl⟩ := own_slice om3.2; have HL3 := Lib.hid om3.lists
  obtain ⟨c3, f3⟩ := b3.rules
  have z3 := b3.size
  try simp only [World.size_alloc, World.size_drew, World.heap_drewN, World.size_setCell] at z3
  have z3_0 : w.heap.size < w3.heap.size := by omega
  go_wp2_with fail
  have r3 : RdMm w3 (memZ N K) (.slice a5 N n5) (.slice a6 K n6) := ⟨own_rd HL3.out.1, own_rd HL3.out.2⟩
  refine (toProgramO_any p iv vv ov lv _ (HP.out.new (by repeat (first | with_reducible exact New.refl _ | with_reducible assumption | with_reducible refine New.drew ?_ | with_reducible refine New.drewN ?_ _ | with_reducible refine New.alloc ?_ _ | with_reducible refine New.setCell ?_ (by first | (simp; done) | (simp; omega) | omega) _ | with_reducible refine New.trans ?_ (by with_reducible assumption)))) hf).mono ?_; rintro e w4 ⟨i4, v4, o4, l4, B1, B2, B3, rfl, b4, q4⟩
  obtain ⟨a1, n1, rfl, _⟩ := id q4.rd.ins; obtain ⟨a2, n2, rfl, _⟩ := id q4.rd.vars; obtain ⟨a3, n3, rfl, _⟩ := id q4.rd.outs; obtain ⟨a4, n4, rfl⟩ := id q4.rd.lines.slice; simp only [World.size_alloc, World.size_setCell] at q4
  obtain ⟨c4, f4⟩ := b4.rules
  have z4 := b4.size
  try simp only [World.size_alloc, World.size_drew, World.heap_drewN, World.size_setCell] at z4
  have z4_0 : w.heap.size < w4.heap.size := by omega
  have z4_1 : w3.heap.size < w4.heap.size := by omega
  go_wp2_with fail
  refine (HI.out _ _ _ _ _ (q4.rd.new (by repeat (first | with_reducible exact New.refl _ | with_reducible assumption | with_reducible refine New.drew ?_ | with_reducible refine New.drewN ?_ _ | with_reducible refine New.alloc ?_ _ | with_reducible refine New.setCell ?_ (by first | (simp; done) | (simp; omega) | omega) _ | with_reducible refine New.trans ?_ (by with_reducible assumption)))) (HK.out.new (by repeat (first | with_reducible exact New.refl _ | with_reducible assumption | with_reducible refine New.drew ?_ | with_reducible refine New.drewN ?_ _ | with_reducible refine New.alloc ?_ _ | with_reducible refine New.setCell ?_ (by first | (simp; done) | (simp; omega) | omega) _ | with_reducible refine New.trans ?_ (by with_reducible assumption))))).mono ?_; rintro e w5 ⟨ga, gb, rfl, b5, om5⟩
  obtain ⟨a7, n7, rfl⟩ := own_slice om5.1; obtain ⟨a8, n8, rfl⟩ := own_slice om5.2; simp only [World.size_alloc, World.size_setCell] at om5; have HL5 := Lib.hid om5.lists
  obtain ⟨c5, f5⟩ := b5.rules
  have z5 := b5.size
  try simp only [World.size_alloc, World.size_drew, World.heap_drewN, World.size_setCell] at z5
  have z5_0 : w.heap.size < w5.heap.size := by omega
  have z5_1 : w3.heap.size < w5.heap.size := by omega
  have z5_2 : w4.heap.size < w5.heap.size := by omega
  go_wp2_with fail
  refine (eqMemory_any (memZ N K) _ _ _ _ _ (RdMm.new ⟨own_rd HL5.out.1, own_rd HL5.out.2⟩ (by repeat (first | with_reducible exact New.refl _ | with_reducible assumption | with_reducible refine New.drew ?_ | with_reducible refine New.drewN ?_ _ | with_reducible refine New.alloc ?_ _ | with_reducible refine New.setCell ?_ (by first | (simp; done) | (simp; omega) | omega) _ | with_reducible refine New.trans ?_ (by with_reducible assumption)))) (r3.new (by repeat (first | with_reducible exact New.refl _ | with_reducible assumption | with_reducible refine New.drew ?_ | with_reducible refine New.drewN ?_ _ | with_reducible refine New.alloc ?_ _ | with_reducible refine New.setCell ?_ (by first | (simp; done) | (simp; omega) | omega) _ | with_reducible refine New.trans ?_ (by with_reducible assumption))))).mono ?_; rintro e w6 ⟨rfl, b6⟩
  try replace b6 := New.undrawN b6
  try replace b6 := New.undraw b6
  obtain ⟨c6, f6⟩ := b6.rules
  have z6 := b6.size
  try simp only [World.size_alloc, World.size_drew, World.heap_drewN, World.size_setCell] at z6
  have z6_0 : w.heap.size < w6.heap.size := by omega
  have z6_1 : w3.heap.size < w6.heap.size := by omega
  have z6_2 : w4.heap.size < w6.heap.size := by omega
  have z6_3 : w5.heap.size < w6.heap.size := by omega
  go_wp2_with fail
  have k0 : w6.cell? ⟨w4.heap.size, 0, none⟩ = some (.string p.name) := by simp (disch := first | (simp only [World.size_alloc, World.size_drew, World.size_setCell]; omega) | omega | (simp; done) | (simp; omega)) only [c6, c5, c4, c3, c2, c1, cell_alloc_old, cell_alloc_new, World.cell?_drewN, World.cell?_drew]; first | done | rfl | (simp; done)
  have k1 : w6.cell? ⟨w4.heap.size, 1, none⟩ = some (.slice a1 p.inputs.length n1) := by simp (disch := first | (simp only [World.size_alloc, World.size_drew, World.size_setCell]; omega) | omega | (simp; done) | (simp; omega)) only [c6, c5, c4, c3, c2, c1, cell_alloc_old, cell_alloc_new, World.cell?_drewN, World.cell?_drew]; first | done | rfl | (simp; done)
  have k2 : w6.cell? ⟨w4.heap.size, 2, none⟩ = some (.slice a2 p.vars.length n2) := by simp (disch := first | (simp only [World.size_alloc, World.size_drew, World.size_setCell]; omega) | omega | (simp; done) | (simp; omega)) only [c6, c5, c4, c3, c2, c1, cell_alloc_old, cell_alloc_new, World.cell?_drewN, World.cell?_drew]; first | done | rfl | (simp; done)
  have k3 : w6.cell? ⟨w4.heap.size, 3, none⟩ = some (.slice a3 p.outputs.length n3) := by simp (disch := first | (simp only [World.size_alloc, World.size_drew, World.size_setCell]; omega) | omega | (simp; done) | (simp; omega)) only [c6, c5, c4, c3, c2, c1, cell_alloc_old, cell_alloc_new, World.cell?_drewN, World.cell?_drew]; first | done | rfl | (simp; done)
  have k4 : w6.cell? ⟨w4.heap.size, 4, none⟩ = some (.string p.guard) := by simp (disch := first | (simp only [World.size_alloc, World.size_drew, World.size_setCell]; omega) | omega | (simp; done) | (simp; omega)) only [c6, c5, c4, c3, c2, c1, cell_alloc_old, cell_alloc_new, World.cell?_drewN, World.cell?_drew]; first | done | rfl | (simp; done)
  have k5 : w6.cell? ⟨w4.heap.size, 5, none⟩ = some (.slice a4 p.lines.length n4) := by simp (disch := first | (simp only [World.size_alloc, World.size_drew, World.size_setCell]; omega) | omega | (simp; done) | (simp; omega)) only [c6, c5, c4, c3, c2, c1, cell_alloc_old, cell_alloc_new, World.cell?_drewN, World.cell?_drew]; first | done | rfl | (simp; done)
  have j0 : w6.cell? ⟨w.heap.size, 0, none⟩ = some (.string p.name) := by simp (disch := first | (simp only [World.size_alloc, World.size_drew, World.size_setCell]; omega) | omega | (simp; done) | (simp; omega)) only [c6, c5, c4, c3, c2, c1, cell_alloc_old, cell_alloc_new, World.cell?_drewN, World.cell?_drew]; first | done | rfl | (simp; done)
  have j1 : w6.cell? ⟨w.heap.size, 1, none⟩ = some (iv) := by simp (disch := first | (simp only [World.size_alloc, World.size_drew, World.size_setCell]; omega) | omega | (simp; done) | (simp; omega)) only [c6, c5, c4, c3, c2, c1, cell_alloc_old, cell_alloc_new, World.cell?_drewN, World.cell?_drew]; first | done | rfl | (simp; done)
  have j2 : w6.cell? ⟨w.heap.size, 2, none⟩ = some (vv) := by simp (disch := first | (simp only [World.size_alloc, World.size_drew, World.size_setCell]; omega) | omega | (simp; done) | (simp; omega)) only [c6, c5, c4, c3, c2, c1, cell_alloc_old, cell_alloc_new, World.cell?_drewN, World.cell?_drew]; first | done | rfl | (simp; done)
  have j3 : w6.cell? ⟨w.heap.size, 3, none⟩ = some (ov) := by simp (disch := first | (simp only [World.size_alloc, World.size_drew, World.size_setCell]; omega) | omega | (simp; done) | (simp; omega)) only [c6, c5, c4, c3, c2, c1, cell_alloc_old, cell_alloc_new, World.cell?_drewN, World.cell?_drew]; first | done | rfl | (simp; done)
  have j4 : w6.cell? ⟨w.heap.size, 4, none⟩ = some (.string p.guard) := by simp (disch := first | (simp only [World.size_alloc, World.size_drew, World.size_setCell]; omega) | omega | (simp; done) | (simp; omega)) only [c6, c5, c4, c3, c2, c1, cell_alloc_old, cell_alloc_new, World.cell?_drewN, World.cell?_drew]; first | done | rfl | (simp; done)
  have j5 : w6.cell? ⟨w.heap.size, 5, none⟩ = some (lv) := by simp (disch := first | (simp only [World.size_alloc, World.size_drew, World.size_setCell]; omega) | omega | (simp; done) | (simp; omega)) only [c6, c5, c4, c3, c2, c1, cell_alloc_old, cell_alloc_new, World.cell?_drewN, World.cell?_drew]; first | done | rfl | (simp; done)
  have s0 : w6.cell? ⟨w3.heap.size, 0, none⟩ = some (.slice a5 N n5) := by simp (disch := first | (simp only [World.size_alloc, World.size_drew, World.size_setCell]; omega) | omega | (simp; done) | (simp; omega)) only [c6, c5, c4, c3, c2, c1, cell_alloc_old, cell_alloc_new, World.cell?_drewN, World.cell?_drew]; first | done | rfl | (simp; done)
  have s1 : w6.cell? ⟨w3.heap.size, 1, none⟩ = some (.slice a6 K n6) := by simp (disch := first | (simp only [World.size_alloc, World.size_drew, World.size_setCell]; omega) | omega | (simp; done) | (simp; omega)) only [c6, c5, c4, c3, c2, c1, cell_alloc_old, cell_alloc_new, World.cell?_drewN, World.cell?_drew]; first | done | rfl | (simp; done)
  have g0 : w6.cell? ⟨w5.heap.size, 0, none⟩ = some (.slice a7 N n7) := by simp (disch := first | (simp only [World.size_alloc, World.size_drew, World.size_setCell]; omega) | omega | (simp; done) | (simp; omega)) only [c6, c5, c4, c3, c2, c1, cell_alloc_old, cell_alloc_new, World.cell?_drewN, World.cell?_drew]; first | done | rfl | (simp; done)
  have g1 : w6.cell? ⟨w5.heap.size, 1, none⟩ = some (.slice a8 K n8) := by simp (disch := first | (simp only [World.size_alloc, World.size_drew, World.size_setCell]; omega) | omega | (simp; done) | (simp; omega)) only [c6, c5, c4, c3, c2, c1, cell_alloc_old, cell_alloc_new, World.cell?_drewN, World.cell?_drew]; first | done | rfl | (simp; done)
  have HQ4 := Lib.hid q4.rd
  refine wp_facts [fun X _ => X = valP p (.slice a1 p.inputs.length n1) (.slice a2 p.vars.length n2) (.slice a3 p.outputs.length n3) (.slice a4 p.lines.length n4), fun X _ => X = valP p iv vv ov lv, fun X W' => ∃ q r s t, X = valP p q r s t ∧ RdP W' p q r s t, fun X _ => X = .bool true, fun X _ => X = .bool false] (by kernel_rfl) (by kernel_rfl) ⟨stable_eq _, stable_eq _, fun X w0 w1 hn ⟨q1, q2, q3, q4, t43, r1⟩ => ⟨q1, q2, q3, q4, t43, r1.new hn⟩, stable_eq _, stable_eq _, trivial⟩ ?_ ?_
  · refine ⟨?_, ?_, ?_, ?_, ?_, trivial⟩
    · intro a w9 hw ho hk
      have t2 := ho 6 rfl
      dsimp at t2
      try with_reducible replace hw := New.undrawN hw
      try with_reducible replace hw := New.undraw hw
      obtain ⟨c, f'⟩ := hw.rules
      go_simp
      exact New.refl _
    · intro a w9 hw ho hk
      have t2 := ho 1 rfl
      dsimp at t2
      try with_reducible replace hw := New.undrawN hw
      try with_reducible replace hw := New.undraw hw
      obtain ⟨c, f'⟩ := hw.rules
      go_simp
      exact New.refl _
    · intro a w9 hw ho hk
      have t42 : a.tmps[42]?.getD undef = valP p iv vv ov lv := hk 1 42 (by kernel_rfl) rfl
      go_simp
      refine (toProgram_any p iv vv ov lv _ (HP.out.new (by repeat (first | with_reducible exact New.refl _ | with_reducible assumption | with_reducible refine New.drew ?_ | with_reducible refine New.drewN ?_ _ | with_reducible refine New.alloc ?_ _ | with_reducible refine New.setCell ?_ (by first | (simp; done) | (simp; omega) | omega) _ | with_reducible refine New.trans ?_ (by with_reducible assumption)))) hf).mono ?_; rintro e w2 ⟨q, r, s, t, rfl, hb, o1⟩
      exact ⟨hb, _, rfl, _, _, _, _, rfl, o1⟩
    · intro a w9 hw ho hk
      have t41 : a.tmps[41]?.getD undef = valP p (.slice a1 p.inputs.length n1) (.slice a2 p.vars.length n2) (.slice a3 p.outputs.length n3) (.slice a4 p.lines.length n4) := hk 0 41 (by kernel_rfl) rfl
      obtain ⟨q1, q2, q3, q4, t43, r1⟩ : ∃ q r s t, (a.tmps[43]?.getD undef) = valP p q r s t ∧ RdP w9 p q r s t := hk 2 43 (by kernel_rfl) rfl
      go_simp
      refine (eqProgram_any p _ _ _ _ _ _ _ _ _ (RdP.new HQ4.out (by repeat (first | with_reducible exact New.refl _ | with_reducible assumption | with_reducible refine New.drew ?_ | with_reducible refine New.drewN ?_ _ | with_reducible refine New.alloc ?_ _ | with_reducible refine New.setCell ?_ (by first | (simp; done) | (simp; omega) | omega) _ | with_reducible refine New.trans ?_ (by with_reducible assumption)))) r1).mono ?_; rintro e w2 ⟨rfl, hb⟩
      first | exact ⟨hb, _, rfl, by simp⟩ | exact ⟨hb, by simp⟩
    · intro a w9 hw ho hk
      have t44 : a.tmps[44]?.getD undef = .bool true := hk 3 44 (by kernel_rfl) rfl
      go_simp
      exact New.refl _
  intro w7 b7 x0 h0 x1 h1 x2 h2 x3 h3 x4 h4
  subst h0 h1 h3 h4
  try with_reducible replace b7 := New.undrawN b7
  try with_reducible replace b7 := New.undraw b7
  obtain ⟨c7, f7⟩ := b7.rules
  have z7 := b7.size
  try simp only [World.size_alloc, World.size_drew, World.heap_drewN, World.size_setCell] at z7
  have z7_0 : w.heap.size < w7.heap.size := by omega
  have z7_1 : w3.heap.size < w7.heap.size := by omega
  have z7_2 : w4.heap.size < w7.heap.size := by omega
  have z7_3 : w5.heap.size < w7.heap.size := by omega
  have m0 : w7.cell? ⟨w4.heap.size, 0, none⟩ = some (.string p.name) := by simp (disch := first | (simp only [World.size_alloc, World.size_drew, World.size_setCell]; omega) | omega | (simp; done) | (simp; omega)) only [c7, k0, cell_alloc_old, cell_alloc_new, World.cell?_drewN, World.cell?_drew]; first | done | rfl | (simp; done)
  have m1 : w7.cell? ⟨w4.heap.size, 1, none⟩ = some (.slice a1 p.inputs.length n1) := by simp (disch := first | (simp only [World.size_alloc, World.size_drew, World.size_setCell]; omega) | omega | (simp; done) | (simp; omega)) only [c7, k1, cell_alloc_old, cell_alloc_new, World.cell?_drewN, World.cell?_drew]; first | done | rfl | (simp; done)
  have m2 : w7.cell? ⟨w4.heap.size, 2, none⟩ = some (.slice a2 p.vars.length n2) := by simp (disch := first | (simp only [World.size_alloc, World.size_drew, World.size_setCell]; omega) | omega | (simp; done) | (simp; omega)) only [c7, k2, cell_alloc_old, cell_alloc_new, World.cell?_drewN, World.cell?_drew]; first | done | rfl | (simp; done)
  have m3 : w7.cell? ⟨w4.heap.size, 3, none⟩ = some (.slice a3 p.outputs.length n3) := by simp (disch := first | (simp only [World.size_alloc, World.size_drew, World.size_setCell]; omega) | omega | (simp; done) | (simp; omega)) only [c7, k3, cell_alloc_old, cell_alloc_new, World.cell?_drewN, World.cell?_drew]; first | done | rfl | (simp; done)
  have m4 : w7.cell? ⟨w4.heap.size, 4, none⟩ = some (.string p.guard) := by simp (disch := first | (simp only [World.size_alloc, World.size_drew, World.size_setCell]; omega) | omega | (simp; done) | (simp; omega)) only [c7, k4, cell_alloc_old, cell_alloc_new, World.cell?_drewN, World.cell?_drew]; first | done | rfl | (simp; done)
  have m5 : w7.cell? ⟨w4.heap.size, 5, none⟩ = some (.slice a4 p.lines.length n4) := by simp (disch := first | (simp only [World.size_alloc, World.size_drew, World.size_setCell]; omega) | omega | (simp; done) | (simp; omega)) only [c7, k5, cell_alloc_old, cell_alloc_new, World.cell?_drewN, World.cell?_drew]; first | done | rfl | (simp; done)
  have u0 : w7.cell? ⟨w3.heap.size, 0, none⟩ = some (.slice a5 N n5) := by simp (disch := first | (simp only [World.size_alloc, World.size_drew, World.size_setCell]; omega) | omega | (simp; done) | (simp; omega)) only [c7, s0, cell_alloc_old, cell_alloc_new, World.cell?_drewN, World.cell?_drew]; first | done | rfl | (simp; done)
  have u1 : w7.cell? ⟨w3.heap.size, 1, none⟩ = some (.slice a6 K n6) := by simp (disch := first | (simp only [World.size_alloc, World.size_drew, World.size_setCell]; omega) | omega | (simp; done) | (simp; omega)) only [c7, s1, cell_alloc_old, cell_alloc_new, World.cell?_drewN, World.cell?_drew]; first | done | rfl | (simp; done)
  have v0 : w7.cell? ⟨w5.heap.size, 0, none⟩ = some (.slice a7 N n7) := by simp (disch := first | (simp only [World.size_alloc, World.size_drew, World.size_setCell]; omega) | omega | (simp; done) | (simp; omega)) only [c7, g0, cell_alloc_old, cell_alloc_new, World.cell?_drewN, World.cell?_drew]; first | done | rfl | (simp; done)
  have v1 : w7.cell? ⟨w5.heap.size, 1, none⟩ = some (.slice a8 K n8) := by simp (disch := first | (simp only [World.size_alloc, World.size_drew, World.size_setCell]; omega) | omega | (simp; done) | (simp; omega)) only [c7, g1, cell_alloc_old, cell_alloc_new, World.cell?_drewN, World.cell?_drew]; first | done | rfl | (simp; done)
  simp only [EndAll, List.nil_append, List.cons_append, List.length_cons, List.length_nil, Nat.zero_add, Nat.reduceAdd, List.take_succ_cons, List.take_zero, List.drop_succ_cons, List.drop_zero, putAll, Act.put, List.setIfInBounds_toArray, List.set_cons_succ, List.set_cons_zero]
  go_wp2_with fail
  have o57a := own_new HL5.out.1 (show New w5 w7 by exact (by repeat (first | with_reducible exact New.refl _ | with_reducible assumption | with_reducible refine New.drew ?_ | with_reducible refine New.drewN ?_ _ | with_reducible refine New.alloc ?_ _ | with_reducible refine New.setCell ?_ (by first | (simp; done) | (simp; omega) | omega) _ | with_reducible refine New.trans ?_ (by with_reducible assumption))))
  have o57b := own_new HL5.out.2 (show New w5 w7 by exact (by repeat (first | with_reducible exact New.refl _ | with_reducible assumption | with_reducible refine New.drew ?_ | with_reducible refine New.drewN ?_ _ | with_reducible refine New.alloc ?_ _ | with_reducible refine New.setCell ?_ (by first | (simp; done) | (simp; omega) | omega) _ | with_reducible refine New.trans ?_ (by with_reducible assumption))))
  refine (markProgram_any p _ _ _ _ _ B1 B2 B3 w4 _ q4 (show New w4 _ by exact (by repeat (first | with_reducible exact New.refl _ | with_reducible assumption | with_reducible refine New.drew ?_ | with_reducible refine New.drewN ?_ _ | with_reducible refine New.alloc ?_ _ | with_reducible refine New.setCell ?_ (by first | (simp; done) | (simp; omega) | omega) _ | with_reducible refine New.trans ?_ (by with_reducible assumption)))) hf hcn).mono ?_
  rintro e w8 ⟨rfl, t8⟩
  have b8 : New w3 w8 := t8.new (show New w3 _ by exact (by repeat (first | with_reducible exact New.refl _ | with_reducible assumption | with_reducible refine New.drew ?_ | with_reducible refine New.drewN ?_ _ | with_reducible refine New.alloc ?_ _ | with_reducible refine New.setCell ?_ (by first | (simp; done) | (simp; omega) | omega) _ | with_reducible refine New.trans ?_ (by with_reducible assumption)))) (by omega)
  have o58a := t8.own o57a (by omega)
  have o58b := t8.own o57b (by omega)
  have z8 := Below.size t8.1
  have z8_5 : w5.heap.size < w8.heap.size := Nat.lt_of_lt_of_le z7_3 z8
  have z8_4 : w4.heap.size < w8.heap.size := by omega
  have z8_3 : w3.heap.size < w8.heap.size := by omega
  have z8_0 : w.heap.size < w8.heap.size := by omega
  have u80 : w8.cell? ⟨w3.heap.size, 0, none⟩ = some (.slice a5 N n5) := (t8.rules.1 _ _ (by omega)).trans u0
  have u81 : w8.cell? ⟨w3.heap.size, 1, none⟩ = some (.slice a6 K n6) := (t8.rules.1 _ _ (by omega)).trans u1
  have v80 : w8.cell? ⟨w5.heap.size, 0, none⟩ = some (.slice a7 N n7) := (t8.abv (by omega) (by exact z7_3)).trans v0
  have v81 : w8.cell? ⟨w5.heap.size, 1, none⟩ = some (.slice a8 K n8) := (t8.abv (by omega) (by exact z7_3)).trans v1
  obtain ⟨c8, f8⟩ := b8.rules
  clear c7 f7 b7
  go_wp2_with fail
  refine (eqMemory_any (memZ N K) _ _ _ _ _ ⟨own_rd o58a, own_rd o58b⟩ (r3.new b8)).mono ?_; rintro e w9 ⟨rfl, b9⟩
  try replace b9 := New.undrawN b9
  try replace b9 := New.undraw b9
  obtain ⟨c9, f9⟩ := b9.rules
  have z9 := b9.size
  try simp only [World.size_alloc, World.size_drew, World.heap_drewN, World.size_setCell] at z9
  have z9_0 : w.heap.size < w9.heap.size := by omega
  have z9_1 : w3.heap.size < w9.heap.size := by omega
  have z9_2 : w5.heap.size < w9.heap.size := by omega
  go_wp2_with fail
  refine (markMemory_any (memZ N K) _ _ (w4.heap.size + 1) w5.heap.size 1 _ (own_new o58a (show New w8 _ by exact (by repeat (first | with_reducible exact New.refl _ | with_reducible assumption | with_reducible refine New.drew ?_ | with_reducible refine New.drewN ?_ _ | with_reducible refine New.alloc ?_ _ | with_reducible refine New.setCell ?_ (by first | (simp; done) | (simp; omega) | omega) _ | with_reducible refine New.trans ?_ (by with_reducible assumption))))) (own_new o58b (show New w8 _ by exact (by repeat (first | with_reducible exact New.refl _ | with_reducible assumption | with_reducible refine New.drew ?_ | with_reducible refine New.drewN ?_ _ | with_reducible refine New.alloc ?_ _ | with_reducible refine New.setCell ?_ (by first | (simp; done) | (simp; omega) | omega) _ | with_reducible refine New.trans ?_ (by with_reducible assumption))))) (by have := b9.size; simp; omega) (by have := b9.size; simp; omega) (fun q hq => (own_block_lt HL5.out.1 q hq).2) (fun q hq => (own_block_lt HL5.out.2 q hq).2) (by omega) (by omega) (by omega)).mono ?_
  rintro e w10 ⟨rfl, t10, rd10a, rd10b⟩
  have b10 : New w3 w10 := t10.new (show New w3 _ by exact b8.trans b9) (by omega)
  have u100 : w10.cell? ⟨w3.heap.size, 0, none⟩ = some (.slice a5 N n5) := (t10.rules.1 _ _ (by omega)).trans ((c9 _ _ z8_3).trans u80)
  have u101 : w10.cell? ⟨w3.heap.size, 1, none⟩ = some (.slice a6 K n6) := (t10.rules.1 _ _ (by omega)).trans ((c9 _ _ z8_3).trans u81)
  have v100 : w10.cell? ⟨w5.heap.size, 0, none⟩ = some (.slice a7 N n7) := (t10.abv (Nat.le_refl _) (by exact z9_2)).trans ((c9 _ _ z8_5).trans v80)
  have v101 : w10.cell? ⟨w5.heap.size, 1, none⟩ = some (.slice a8 K n8) := (t10.abv (Nat.le_refl _) (by exact z9_2)).trans ((c9 _ _ z8_5).trans v81)
  have z10 := Below.size t10.1
  have z10_5 : w5.heap.size < w10.heap.size := Nat.lt_of_lt_of_le z9_2 z10
  have z10_3 : w3.heap.size < w10.heap.size := by omega
  have z10_0 : w.heap.size < w10.heap.size := by omega
  rw [hZn] at rd10a
  rw [hZn, hZk] at rd10b
  rw [hZn, hZk]
  obtain ⟨c10, f10⟩ := b10.rules
  clear c8 f8
  try clear c9 f9
  go_wp2_with fail
  refine (heldMemory_any _ _ 1 N K _ (RdI.new rd10a (by repeat (first | with_reducible exact New.refl _ | with_reducible assumption | with_reducible refine New.drew ?_ | with_reducible refine New.drewN ?_ _ | with_reducible refine New.alloc ?_ _ | with_reducible refine New.setCell ?_ (by first | (simp; done) | (simp; omega) | omega) _ | with_reducible refine New.trans ?_ (by with_reducible assumption)))) (Rd.new rd10b (by repeat (first | with_reducible exact New.refl _ | with_reducible assumption | with_reducible refine New.drew ?_ | with_reducible refine New.drewN ?_ _ | with_reducible refine New.alloc ?_ _ | with_reducible refine New.setCell ?_ (by first | (simp; done) | (simp; omega) | omega) _ | with_reducible refine New.trans ?_ (by with_reducible assumption)))) hN hKB (by omega)).mono ?_; rintro e w11 ⟨rfl, b11⟩
  try replace b11 := New.undrawN b11
  try replace b11 := New.undraw b11
  obtain ⟨c11, f11⟩ := b11.rules
  have z11 := b11.size
  try simp only [World.size_alloc, World.size_drew, World.heap_drewN, World.size_setCell] at z11
  have z11_0 : w.heap.size < w11.heap.size := by omega
  have z11_1 : w3.heap.size < w11.heap.size := by omega
  have z11_2 : w5.heap.size < w11.heap.size := by omega
  go_wp2_with fail
  refine (toProgram_any p iv vv ov lv _ (HP.out.new (by repeat (first | with_reducible exact New.refl _ | with_reducible assumption | with_reducible refine New.drew ?_ | with_reducible refine New.drewN ?_ _ | with_reducible refine New.alloc ?_ _ | with_reducible refine New.setCell ?_ (by first | (simp; done) | (simp; omega) | omega) _ | with_reducible refine New.trans ?_ (by with_reducible assumption)))) hf).mono ?_; rintro e w12 ⟨i12, v12, o12, l12, rfl, b12, q12⟩
  obtain ⟨c12, f12⟩ := b12.rules
  have z12 := b12.size
  try simp only [World.size_alloc, World.size_drew, World.heap_drewN, World.size_setCell] at z12
  have z12_0 : w.heap.size < w12.heap.size := by omega
  have z12_1 : w3.heap.size < w12.heap.size := by omega
  have z12_2 : w5.heap.size < w12.heap.size := by omega
  go_wp2_with fail
  refine (HI.out i12 v12 o12 l12 _ q12 (HK.out.new (New.trans (show New w w3 by exact (by repeat (first | with_reducible exact New.refl _ | with_reducible assumption | with_reducible refine New.drew ?_ | with_reducible refine New.drewN ?_ _ | with_reducible refine New.alloc ?_ _ | with_reducible refine New.setCell ?_ (by first | (simp; done) | (simp; omega) | omega) _ | with_reducible refine New.trans ?_ (by with_reducible assumption)))) (New.trans b10 (New.trans b11 b12))))).mono ?_; rintro e w13 ⟨ha, hb, rfl, b13, om13⟩
  obtain ⟨a9, n9, rfl⟩ := own_slice om13.1; obtain ⟨a10, n10, rfl⟩ := own_slice om13.2; have HL13 := Lib.hid om13.lists
  obtain ⟨c13, f13⟩ := b13.rules
  have z13 := b13.size
  try simp only [World.size_alloc, World.size_drew, World.heap_drewN, World.size_setCell] at z13
  have z13_0 : w.heap.size < w13.heap.size := by omega
  have z13_1 : w3.heap.size < w13.heap.size := by omega
  have z13_2 : w5.heap.size < w13.heap.size := by omega
  go_wp2_with fail
  refine (eqMemory_any (memZ N K) _ _ _ _ _ (RdMm.new ⟨own_rd HL13.out.1, own_rd HL13.out.2⟩ (by repeat (first | with_reducible exact New.refl _ | with_reducible assumption | with_reducible refine New.drew ?_ | with_reducible refine New.drewN ?_ _ | with_reducible refine New.alloc ?_ _ | with_reducible refine New.setCell ?_ (by first | (simp; done) | (simp; omega) | omega) _ | with_reducible refine New.trans ?_ (by with_reducible assumption)))) (r3.new (show New w3 _ by exact (by repeat (first | with_reducible exact New.refl _ | with_reducible assumption | with_reducible refine New.drew ?_ | with_reducible refine New.drewN ?_ _ | with_reducible refine New.alloc ?_ _ | with_reducible refine New.setCell ?_ (by first | (simp; done) | (simp; omega) | omega) _ | with_reducible refine New.trans ?_ (by with_reducible assumption)))))).mono ?_; rintro e w14 ⟨rfl, b14⟩
  try replace b14 := New.undrawN b14
  try replace b14 := New.undraw b14
  obtain ⟨c14, f14⟩ := b14.rules
  have z14 := b14.size
  try simp only [World.size_alloc, World.size_drew, World.heap_drewN, World.size_setCell] at z14
  have z14_0 : w.heap.size < w14.heap.size := by omega
  have z14_1 : w3.heap.size < w14.heap.size := by omega
  have z14_2 : w5.heap.size < w14.heap.size := by omega
  go_wp2_with fail
  refine (heldMemory_any _ _ 1 N K _ (RdI.new rd10a (by repeat (first | with_reducible exact New.refl _ | with_reducible assumption | with_reducible refine New.drew ?_ | with_reducible refine New.drewN ?_ _ | with_reducible refine New.alloc ?_ _ | with_reducible refine New.setCell ?_ (by first | (simp; done) | (simp; omega) | omega) _ | with_reducible refine New.trans ?_ (by with_reducible assumption)))) (Rd.new rd10b (by repeat (first | with_reducible exact New.refl _ | with_reducible assumption | with_reducible refine New.drew ?_ | with_reducible refine New.drewN ?_ _ | with_reducible refine New.alloc ?_ _ | with_reducible refine New.setCell ?_ (by first | (simp; done) | (simp; omega) | omega) _ | with_reducible refine New.trans ?_ (by with_reducible assumption)))) hN hKB (by omega)).mono ?_; rintro e w15 ⟨rfl, b15⟩
  try replace b15 := New.undrawN b15
  try replace b15 := New.undraw b15
  obtain ⟨c15, f15⟩ := b15.rules
  have z15 := b15.size
  try simp only [World.size_alloc, World.size_drew, World.heap_drewN, World.size_setCell] at z15
  have z15_0 : w.heap.size < w15.heap.size := by omega
  go_wp2_with fail
  go_ret
  exact ⟨rfl, (by repeat (first | with_reducible exact New.refl _ | with_reducible assumption | with_reducible refine New.drew ?_ | with_reducible refine New.drewN ?_ _ | with_reducible refine New.alloc ?_ _ | with_reducible refine New.setCell ?_ (by first | (simp; done) | (simp; omega) | omega) _ | with_reducible refine New.trans ?_ (by with_reducible assumption)))⟩
namespace fnExactFirstMemory
theorem own : ownKnob Tryz.prog.godebug = none := by kernel_rfl
theorem reads : (Tryz.f4.params.toList.all fun t => Tryz.prog.readableRec t && decide (t < Tryz.prog.types.size)) = true := by kernel_rfl
set_option maxRecDepth 100000 in
noncomputable def laidWorld (os : Os) : World :=
  { World.holding Tryz.prog os ⟨#[], #[], []⟩ with heap := (World.holding Tryz.prog os ⟨#[], #[], []⟩).heap.modify 0 fun
      | .cells _ t frozen => .cells (keyData.map fun z => Value.string (kw z)).toArray t frozen
      | o => o }
theorem laid_met (os : Os) : laidMet Tryz.prog Rows.fnExactFirstMemoryRow.laid ((laidWorld os).forCall (fun _ _ => 0) ⟨#[], #[.agg #[.string ⟨#[]⟩, .slice none 0 0, .slice none 0 0, .slice none 0 0, .string ⟨#[]⟩, .slice none 0 0]], []⟩).memory :=
  laidMet_of_run' 8 (by kernel_rfl) (by kernel_rfl)
theorem reading (os : Os) {H : Type} (enc : TypeId × Value → H) : ∃ x, DataW.whole enc Tryz.prog ((laidWorld os).forCall (fun _ _ => 0) ⟨#[], #[.agg #[.string ⟨#[]⟩, .slice none 0 0, .slice none 0 0, .slice none 0 0, .string ⟨#[]⟩, .slice none 0 0]], []⟩).memory Tryz.f4.params.toList Rows.fnExactFirstMemorySpec.vars false (#[.agg #[.string ⟨#[]⟩, .slice none 0 0, .slice none 0 0, .slice none 0 0, .string ⟨#[]⟩, .slice none 0 0]] : Array Value).toList 8 = some x :=
  Option.isSome_iff_exists.1 (by kernel_rfl)
theorem lifted (os : Os) (started : os.Started) (H : Type) (enc : TypeId × Value → H) (F : Stop.Interp) :
    ReturnsInHanded {} Tryz.checked os 4 .any ((OpenSpec.ofChange Rows.fnExactFirstMemorySpec).preRow enc Tryz.prog Tryz.f4 Rows.fnExactFirstMemoryRow.domain false Rows.fnExactFirstMemoryRow.laid) (((OpenSpec.ofChange Rows.fnExactFirstMemorySpec).at F).post enc Tryz.prog Tryz.f4 false true false false) := by
  obtain ⟨x, hx⟩ := reading os enc
  refine returnsInHanded_of_row (C := Tryz.checked) (s := OpenSpec.ofChange Rows.fnExactFirstMemorySpec) own started (by kernel_rfl) Tryz.func4
    (witness_row_at (enc := enc) (C := Tryz.checked) false (laidWorld os) #[.agg #[.string ⟨#[]⟩, .slice none 0 0, .slice none 0 0, .slice none 0 0, .string ⟨#[]⟩, .slice none 0 0]] rfl (by kernel_rfl) (by kernel_rfl) (by kernel_rfl)
      (OpenSpec.preRow_of_cond 8 hx (by first | rfl | kernel_rfl) (fun k hk => by cases hk) (by kernel_rfl) (laid_met os))) ?_
  intro W base args ds gs before hval0 hW _ _ _ hL _ _
  have hkw : KW W := keys_of_laid hL
  have hval : ∀ (j : Nat) t v, Tryz.f4.params[j]? = some t → args[j]? = some v → Value.okWide Tryz.prog W .any base t v := hval0
  have hW' := hW
  obtain ⟨p, q, hA0, hV, rfl, hfz, hnd⟩ := hW
  have hA : DataW.TrodAll enc Tryz.prog W 0 (fun _ => true) true Tryz.f4.params.toList args.toList ds p := hA0
  rw [Tryz.params4] at hA hval
  obtain ⟨v0, vs0, d0, ds0, p0, q0, hargs, rfl, rfl, h0, r0⟩ := trodAll_cons hA
  obtain ⟨rfl, rfl, rfl⟩ := trodAll_nil r0
  obtain rfl : args = #[v0] := by cases args; simp_all
  have o0 := hval 0 25 v0 rfl rfl
  clear hA0 hval hval0
  obtain ⟨_, _, _, _, gd, _, rfl, _, _, _, _, rfl⟩ := trodVars_one hV
  have walk : Calls Tryz.prog 4 #[v0] W fun e w' => e = .returned (.bool true) ∧ New W w' := by
    obtain ⟨p, iv, vv, ov, lv, rfl, hp, ho⟩ := openProgram h0 o0
    exact lawFirstMemory_any p iv vv ov lv W hkw hp ho
  refine walk.mono fun e W' ⟨he, hg⟩ => ?_
  subst he
  exact ⟨_, rfl, law_post laidOut (fun t ht => reads_of reads t ht) (fun n hn g t hg ht => by
    obtain rfl : n = "loop.example/g00916/impl.keywords" := List.mem_singleton.1 hn
    obtain rfl : 0 = g := Option.some.inj ((show Tryz.prog.globalNamed "loop.example/g00916/impl.keywords" = some 0 by kernel_rfl).symm.trans hg)
    obtain rfl : 103 = t := Option.some.inj ((show (Tryz.prog.globals[0]?).map (·.type) = some 103 by kernel_rfl).symm.trans ht)
    exact ⟨by kernel_rfl, of_decide_eq_true (by kernel_rfl)⟩) rfl Tryz.underlying4 hW' rfl hg⟩
theorem said : Rows.FnExactFirstMemorySaid :=
  OpenClaim.holds_of_cond 4 Tryz.f4 rfl rfl rfl rfl rfl rfl rfl ⟨rfl, rfl, rfl, rfl, rfl⟩ rfl rfl rfl rfl rfl (by kernel_rfl) Tryz.func4 (by kernel_rfl)
    (of_decide_eq_true (by kernel_rfl)) (by unfold Func.isWrapper; first | (rw [if_pos (by decide +kernel)]; kernel_rfl) | (rw [if_neg (by decide +kernel)]; exact ⟨rfl, rfl⟩))
    (fun os started H enc _ F => by rw [OpenClaim.pre_eq_preRow]; exact lifted os started H enc F)
theorem plain (f : FuncId) (fn : Func) (hf : Tryz.pinned.checked.prog.funcNamed "loop.example/g00916/laws.FnExactFirstMemory" = some f) (hfn : Tryz.pinned.checked.prog.funcs[f]? = some fn) :
    true = Tryz.pinned.checked.prog.looks [] ∧ ∀ (j : Nat) t, fn.params[j]? = some t → Tryz.pinned.checked.prog.wantsStandIn t = false := by
  obtain rfl : f = 4 := Option.some.inj ((show Tryz.prog.funcNamed "loop.example/g00916/laws.FnExactFirstMemory" = some 4 by kernel_rfl).symm.trans hf) |>.symm
  obtain rfl : fn = Tryz.f4 := (Option.some.inj (Tryz.func4.symm.trans hfn)).symm
  refine ⟨by kernel_rfl, fun j t ht => ?_⟩
  rw [Tryz.params4] at ht
  have hm : t ∈ ([25] : List TypeId) := by simpa using Array.mem_of_getElem? ht
  have all : (([25] : List TypeId).all fun t => !Tryz.prog.wantsStandIn t) = true := by kernel_rfl
  have := List.all_eq_true.1 all t hm
  show Tryz.prog.wantsStandIn t = false
  exact (Bool.not_eq_true _).mp (fun h => by rw [h] at this; cases this)
theorem card : Rows.FnExactFirstMemoryCardSaid :=
  Claim7.holds_tied_plain_at .later [] _ _ _ _ said (fun _ h => by cases h) (by kernel_rfl) (fun _ h => by cases h) fnExactFirstMemory_row_tie rfl ⟨rfl, rfl⟩ (by kernel_rfl) rfl plain (by kernel_rfl)
#print axioms card
end fnExactFirstMemory
end Go.Proofs.YtflhdijlhdckoaaGreatDoor
