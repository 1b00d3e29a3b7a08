/- The program's UnusedNames returns what the reference's returns, for every argument. No condition but the row's own: the table of keywords holds what the program's text lays. -/
import Derived.Test.YtjdkmjdobaeaoaaDoorRows
import Derived.Test.YtjdkmjdobaeaoaaDoorCards
import Derived.Test.YtjdkmjdobaeaoaaDoorTie
import Derived.Test.YtjdkmjdobaeaoaaDoorShape
import Derived.Test.YtjdkmjdobaeaoaaDoorLawBase
import Derived.Test.YtjdkmjdobaeaoaaDoorFacts
import Derived.Test.YtjdkmjdobaeaoaaDoorKeys
import Derived.Test.YtjdkmjdobaeaoaaDoorOpenProgram
import Derived.Test.YtjdkmjdobaeaoaaDoorMarkP
import Derived.Test.YtjdkmjdobaeaoaaDoorNamesV
import Derived.Test.YtjdkmjdobaeaoaaDoorRegion
import Derived.Test.YtjdkmjdobaeaoaaDoorCells
namespace Go.Proofs.YtjdkmjdobaeaoaaDoor
open Go Go.Proofs Go.RowKit Go.ChangeShapes Go.WideShapes Go.ChangeAt
set_option linter.unusedVariables false
set_option linter.unusedSimpArgs false
set_option maxRecDepth 100000
set_option maxHeartbeats 4000000 in
theorem lawUnusedNames_any (p : ProgD) (iv vv ov lv : Value) (w : World) (hk : KW w) (hp : RdP w p iv vv ov lv) (ho : OkP p) :
    Calls Tryd.prog 11 #[valP p iv vv ov lv] w fun e w' => e = .returned (.bool true) ∧ New w w' := by
  have HK := Lib.hid hk; clear hk
  have HP := Lib.hid hp; clear hp
  have hbd := szP_bd p 1048576 (by omega)
  by_cases hz : szP p 1048576 < 0
  · go_enter Tryd.func11, Tryd.ntmps11
    go_wp2_with fail
    refine (szProgram_any p iv vv ov lv 1048576 _ (HP.out.new (by repeat (first | with_reducible exact New.refl _ | with_reducible assumption | with_reducible refine New.drew ?_ | with_reducible refine New.drewN ?_ _ | with_reducible refine New.alloc ?_ _ | with_reducible refine New.setCell ?_ (by first | (simp; done) | (simp; omega) | omega) _ | with_reducible refine New.trans ?_ (by with_reducible assumption)))) (by omega) (by omega) ho).mono ?_; rintro e w1 ⟨rfl, b1⟩
    try replace b1 := New.undrawN b1
    try replace b1 := New.undraw b1
    obtain ⟨c1, f1⟩ := b1.rules
    have z1 := b1.size
    try simp only [World.size_alloc, World.size_drew, World.heap_drewN, World.size_setCell] at z1
    have z1_0 : w.heap.size < w1.heap.size := by omega
    go_wp2_with fail
    go_ret
    exact ⟨rfl, (by repeat (first | with_reducible exact New.refl _ | with_reducible assumption | with_reducible refine New.drew ?_ | with_reducible refine New.drewN ?_ _ | with_reducible refine New.alloc ?_ _ | with_reducible refine New.setCell ?_ (by first | (simp; done) | (simp; omega) | omega) _ | with_reducible refine New.trans ?_ (by with_reducible assumption)))⟩
  have hf := szP_fit p 1048576 (by omega) (by omega) (by omega)
  have hcn := szP_cnt p (by omega)
  have HSP := Lib.hid (fun (q r s t : Value) (w0 : World) (h : RdP w0 p q r s t) => sUnusedNames_any p q r s t w0 h hf)
  have HI := Lib.hid (fun (q r s t : Value) (w0 : World) (h : RdP w0 p q r s t) (k : KW w0) => iUnusedNames_any p q r s t w0 h hf k)
  have hLL : (unR p).1.length ≤ 1048576 := by rw [unR]; split; (rename_i hc0; have g1 := List.length_filter_le (unB p) (p.inputs ++ p.vars); rw [List.length_append] at g1; have g2 := wB_names (codeR_wB hc0); dsimp only; omega); simp
  generalize unR p = R at HSP HI hLL
  obtain ⟨L, C⟩ := R
  dsimp only at HSP HI hLL
  have hCC : (C != C) = false := by simp
  have hdd : decide (L = L) = true := by simp
  go_enter Tryd.func11, Tryd.ntmps11
  go_wp2_with fail
  refine (szProgram_any p iv vv ov lv 1048576 _ (HP.out.new (by repeat (first | with_reducible exact New.refl _ | with_reducible assumption | with_reducible refine New.drew ?_ | with_reducible refine New.drewN ?_ _ | with_reducible refine New.alloc ?_ _ | with_reducible refine New.setCell ?_ (by first | (simp; done) | (simp; omega) | omega) _ | with_reducible refine New.trans ?_ (by with_reducible assumption)))) (by omega) (by omega) ho).mono ?_; rintro e w1 ⟨rfl, b1⟩
  try replace b1 := New.undrawN b1
  try replace b1 := New.undraw b1
  obtain ⟨c1, f1⟩ := b1.rules
  have z1 := b1.size
  try simp only [World.size_alloc, World.size_drew, World.heap_drewN, World.size_setCell] at z1
  have z1_0 : w.heap.size < w1.heap.size := by omega
  go_wp2_with fail
  refine (toProgram_any p iv vv ov lv _ (HP.out.new (by repeat (first | with_reducible exact New.refl _ | with_reducible assumption | with_reducible refine New.drew ?_ | with_reducible refine New.drewN ?_ _ | with_reducible refine New.alloc ?_ _ | with_reducible refine New.setCell ?_ (by first | (simp; done) | (simp; omega) | omega) _ | with_reducible refine New.trans ?_ (by with_reducible assumption)))) hf).mono ?_; rintro e w2 ⟨i2, v2, o2, l2, rfl, b2, q2⟩
  obtain ⟨c2, f2⟩ := b2.rules
  have z2 := b2.size
  try simp only [World.size_alloc, World.size_drew, World.heap_drewN, World.size_setCell] at z2
  have z2_0 : w.heap.size < w2.heap.size := by omega
  go_wp2_with fail
  refine (HSP.out i2 v2 o2 l2 _ q2).mono ?_; rintro e w3 ⟨r3, rfl, b3, o3⟩
  obtain ⟨c3, f3⟩ := b3.rules
  have z3 := b3.size
  try simp only [World.size_alloc, World.size_drew, World.heap_drewN, World.size_setCell] at z3
  have z3_0 : w.heap.size < w3.heap.size := by omega
  go_wp2_with fail
  refine (toProgramO_any p iv vv ov lv _ (HP.out.new (by repeat (first | with_reducible exact New.refl _ | with_reducible assumption | with_reducible refine New.drew ?_ | with_reducible refine New.drewN ?_ _ | with_reducible refine New.alloc ?_ _ | with_reducible refine New.setCell ?_ (by first | (simp; done) | (simp; omega) | omega) _ | with_reducible refine New.trans ?_ (by with_reducible assumption)))) hf).mono ?_; rintro e w4 ⟨i4, v4, o4, l4, B1, B2, B3, rfl, b4, q4⟩
  obtain ⟨a1, n1, rfl, _⟩ := id q4.rd.ins; obtain ⟨a2, n2, rfl, _⟩ := id q4.rd.vars; obtain ⟨a3, n3, rfl, _⟩ := id q4.rd.outs; obtain ⟨a4, n4, rfl⟩ := id q4.rd.lines.slice
  obtain ⟨c4, f4⟩ := b4.rules
  have z4 := b4.size
  try simp only [World.size_alloc, World.size_drew, World.heap_drewN, World.size_setCell] at z4
  have z4_0 : w.heap.size < w4.heap.size := by omega
  go_wp2_with fail
  refine (HI.out _ _ _ _ _ (q4.rd.new (by repeat (first | with_reducible exact New.refl _ | with_reducible assumption | with_reducible refine New.drew ?_ | with_reducible refine New.drewN ?_ _ | with_reducible refine New.alloc ?_ _ | with_reducible refine New.setCell ?_ (by first | (simp; done) | (simp; omega) | omega) _ | with_reducible refine New.trans ?_ (by with_reducible assumption)))) (HK.out.new (by repeat (first | with_reducible exact New.refl _ | with_reducible assumption | with_reducible refine New.drew ?_ | with_reducible refine New.drewN ?_ _ | with_reducible refine New.alloc ?_ _ | with_reducible refine New.setCell ?_ (by first | (simp; done) | (simp; omega) | omega) _ | with_reducible refine New.trans ?_ (by with_reducible assumption))))).mono ?_; rintro e w5 ⟨r5, rfl, b5, o5⟩
  obtain ⟨c5, f5⟩ := b5.rules
  have z5 := b5.size
  try simp only [World.size_alloc, World.size_drew, World.heap_drewN, World.size_setCell] at z5
  have z5_0 : w.heap.size < w5.heap.size := by omega
  have z5_1 : w4.heap.size < w5.heap.size := by omega
  go_wp2_with fail
  refine (eqStringS_any _ _ L _ (own_rd o5) (Rd.new (own_rd o3) (by repeat (first | with_reducible exact New.refl _ | with_reducible assumption | with_reducible refine New.drew ?_ | with_reducible refine New.drewN ?_ _ | with_reducible refine New.alloc ?_ _ | with_reducible refine New.setCell ?_ (by first | (simp; done) | (simp; omega) | omega) _ | with_reducible refine New.trans ?_ (by with_reducible assumption))))).mono ?_; rintro e w6 ⟨rfl, b6⟩
  try replace b6 := New.undrawN b6
  try replace b6 := New.undraw b6
  obtain ⟨c6, f6⟩ := b6.rules
  have z6 := b6.size
  try simp only [World.size_alloc, World.size_drew, World.heap_drewN, World.size_setCell] at z6
  have z6_0 : w.heap.size < w6.heap.size := by omega
  go_wp2_with fail
  have z6_4 : w4.heap.size < w6.heap.size := by omega
  have z5_4 : w4.heap.size < w5.heap.size := by omega
  have k0 : w6.cell? ⟨w4.heap.size, 0, none⟩ = some (.string p.name) := by simp (disch := first | (simp only [World.size_alloc, World.size_drew, World.size_setCell]; omega) | omega | (simp; done) | (simp; omega)) only [c6, c5, c4, c3, c2, c1, cell_alloc_old, cell_alloc_new, World.cell?_drewN, World.cell?_drew]; first | done | rfl | (simp; done)
  have k1 : w6.cell? ⟨w4.heap.size, 1, none⟩ = some (.slice a1 p.inputs.length n1) := by simp (disch := first | (simp only [World.size_alloc, World.size_drew, World.size_setCell]; omega) | omega | (simp; done) | (simp; omega)) only [c6, c5, c4, c3, c2, c1, cell_alloc_old, cell_alloc_new, World.cell?_drewN, World.cell?_drew]; first | done | rfl | (simp; done)
  have k2 : w6.cell? ⟨w4.heap.size, 2, none⟩ = some (.slice a2 p.vars.length n2) := by simp (disch := first | (simp only [World.size_alloc, World.size_drew, World.size_setCell]; omega) | omega | (simp; done) | (simp; omega)) only [c6, c5, c4, c3, c2, c1, cell_alloc_old, cell_alloc_new, World.cell?_drewN, World.cell?_drew]; first | done | rfl | (simp; done)
  have k3 : w6.cell? ⟨w4.heap.size, 3, none⟩ = some (.slice a3 p.outputs.length n3) := by simp (disch := first | (simp only [World.size_alloc, World.size_drew, World.size_setCell]; omega) | omega | (simp; done) | (simp; omega)) only [c6, c5, c4, c3, c2, c1, cell_alloc_old, cell_alloc_new, World.cell?_drewN, World.cell?_drew]; first | done | rfl | (simp; done)
  have k4 : w6.cell? ⟨w4.heap.size, 4, none⟩ = some (.string p.guard) := by simp (disch := first | (simp only [World.size_alloc, World.size_drew, World.size_setCell]; omega) | omega | (simp; done) | (simp; omega)) only [c6, c5, c4, c3, c2, c1, cell_alloc_old, cell_alloc_new, World.cell?_drewN, World.cell?_drew]; first | done | rfl | (simp; done)
  have k5 : w6.cell? ⟨w4.heap.size, 5, none⟩ = some (.slice a4 p.lines.length n4) := by simp (disch := first | (simp only [World.size_alloc, World.size_drew, World.size_setCell]; omega) | omega | (simp; done) | (simp; omega)) only [c6, c5, c4, c3, c2, c1, cell_alloc_old, cell_alloc_new, World.cell?_drewN, World.cell?_drew]; first | done | rfl | (simp; done)
  have j0 : w6.cell? ⟨w.heap.size, 0, none⟩ = some (.string p.name) := by simp (disch := first | (simp only [World.size_alloc, World.size_drew, World.size_setCell]; omega) | omega | (simp; done) | (simp; omega)) only [c6, c5, c4, c3, c2, c1, cell_alloc_old, cell_alloc_new, World.cell?_drewN, World.cell?_drew]; first | done | rfl | (simp; done)
  have j1 : w6.cell? ⟨w.heap.size, 1, none⟩ = some (iv) := by simp (disch := first | (simp only [World.size_alloc, World.size_drew, World.size_setCell]; omega) | omega | (simp; done) | (simp; omega)) only [c6, c5, c4, c3, c2, c1, cell_alloc_old, cell_alloc_new, World.cell?_drewN, World.cell?_drew]; first | done | rfl | (simp; done)
  have j2 : w6.cell? ⟨w.heap.size, 2, none⟩ = some (vv) := by simp (disch := first | (simp only [World.size_alloc, World.size_drew, World.size_setCell]; omega) | omega | (simp; done) | (simp; omega)) only [c6, c5, c4, c3, c2, c1, cell_alloc_old, cell_alloc_new, World.cell?_drewN, World.cell?_drew]; first | done | rfl | (simp; done)
  have j3 : w6.cell? ⟨w.heap.size, 3, none⟩ = some (ov) := by simp (disch := first | (simp only [World.size_alloc, World.size_drew, World.size_setCell]; omega) | omega | (simp; done) | (simp; omega)) only [c6, c5, c4, c3, c2, c1, cell_alloc_old, cell_alloc_new, World.cell?_drewN, World.cell?_drew]; first | done | rfl | (simp; done)
  have j4 : w6.cell? ⟨w.heap.size, 4, none⟩ = some (.string p.guard) := by simp (disch := first | (simp only [World.size_alloc, World.size_drew, World.size_setCell]; omega) | omega | (simp; done) | (simp; omega)) only [c6, c5, c4, c3, c2, c1, cell_alloc_old, cell_alloc_new, World.cell?_drewN, World.cell?_drew]; first | done | rfl | (simp; done)
  have j5 : w6.cell? ⟨w.heap.size, 5, none⟩ = some (lv) := by simp (disch := first | (simp only [World.size_alloc, World.size_drew, World.size_setCell]; omega) | omega | (simp; done) | (simp; omega)) only [c6, c5, c4, c3, c2, c1, cell_alloc_old, cell_alloc_new, World.cell?_drewN, World.cell?_drew]; first | done | rfl | (simp; done)
  have HQ4 := Lib.hid q4.rd
  refine wp_facts [fun X _ => X = valP p (.slice a1 p.inputs.length n1) (.slice a2 p.vars.length n2) (.slice a3 p.outputs.length n3) (.slice a4 p.lines.length n4), fun X _ => X = valP p iv vv ov lv, fun X W' => ∃ q r s t, X = valP p q r s t ∧ RdP W' p q r s t, fun X _ => X = .bool true, fun X _ => X = .bool false] (by kernel_rfl) (by kernel_rfl) ⟨stable_eq _, stable_eq _, fun X w0 w1 hn ⟨q1, q2, q3, q4, t43, r1⟩ => ⟨q1, q2, q3, q4, t43, r1.new hn⟩, stable_eq _, stable_eq _, trivial⟩ ?_ ?_
  · refine ⟨?_, ?_, ?_, ?_, ?_, trivial⟩
    · intro a w9 hw ho hk
      have t2 := ho 6 rfl
      dsimp at t2
      try with_reducible replace hw := New.undrawN hw
      try with_reducible replace hw := New.undraw hw
      obtain ⟨c, f'⟩ := hw.rules
      go_simp
      exact New.refl _
    · intro a w9 hw ho hk
      have t2 := ho 1 rfl
      dsimp at t2
      try with_reducible replace hw := New.undrawN hw
      try with_reducible replace hw := New.undraw hw
      obtain ⟨c, f'⟩ := hw.rules
      go_simp
      exact New.refl _
    · intro a w9 hw ho hk
      have t42 : a.tmps[42]?.getD undef = valP p iv vv ov lv := hk 1 42 (by kernel_rfl) rfl
      go_simp
      refine (toProgram_any p iv vv ov lv _ (HP.out.new (by repeat (first | with_reducible exact New.refl _ | with_reducible assumption | with_reducible refine New.drew ?_ | with_reducible refine New.drewN ?_ _ | with_reducible refine New.alloc ?_ _ | with_reducible refine New.setCell ?_ (by first | (simp; done) | (simp; omega) | omega) _ | with_reducible refine New.trans ?_ (by with_reducible assumption)))) hf).mono ?_; rintro e w2 ⟨q, r, s, t, rfl, hb, o1⟩
      exact ⟨hb, _, rfl, _, _, _, _, rfl, o1⟩
    · intro a w9 hw ho hk
      have t41 : a.tmps[41]?.getD undef = valP p (.slice a1 p.inputs.length n1) (.slice a2 p.vars.length n2) (.slice a3 p.outputs.length n3) (.slice a4 p.lines.length n4) := hk 0 41 (by kernel_rfl) rfl
      obtain ⟨q1, q2, q3, q4, t43, r1⟩ : ∃ q r s t, (a.tmps[43]?.getD undef) = valP p q r s t ∧ RdP w9 p q r s t := hk 2 43 (by kernel_rfl) rfl
      go_simp
      refine (eqProgram_any p _ _ _ _ _ _ _ _ _ (RdP.new HQ4.out (by repeat (first | with_reducible exact New.refl _ | with_reducible assumption | with_reducible refine New.drew ?_ | with_reducible refine New.drewN ?_ _ | with_reducible refine New.alloc ?_ _ | with_reducible refine New.setCell ?_ (by first | (simp; done) | (simp; omega) | omega) _ | with_reducible refine New.trans ?_ (by with_reducible assumption)))) r1).mono ?_; rintro e w2 ⟨rfl, hb⟩
      first | exact ⟨hb, _, rfl, by simp⟩ | exact ⟨hb, by simp⟩
    · intro a w9 hw ho hk
      have t44 : a.tmps[44]?.getD undef = .bool true := hk 3 44 (by kernel_rfl) rfl
      go_simp
      exact New.refl _
  intro w7 b7 x0 h0 x1 h1 x2 h2 x3 h3 x4 h4
  subst h0 h1 h3 h4
  try with_reducible replace b7 := New.undrawN b7
  try with_reducible replace b7 := New.undraw b7
  obtain ⟨c7, f7⟩ := b7.rules
  have z7 := b7.size
  try simp only [World.size_alloc, World.size_drew, World.heap_drewN, World.size_setCell] at z7
  have z7_0 : w.heap.size < w7.heap.size := by omega
  have z7_1 : w4.heap.size < w7.heap.size := by omega
  have m0 : w7.cell? ⟨w4.heap.size, 0, none⟩ = some (.string p.name) := by simp (disch := first | (simp only [World.size_alloc, World.size_drew, World.size_setCell]; omega) | omega | (simp; done) | (simp; omega)) only [c7, k0, cell_alloc_old, cell_alloc_new, World.cell?_drewN, World.cell?_drew]; first | done | rfl | (simp; done)
  have m1 : w7.cell? ⟨w4.heap.size, 1, none⟩ = some (.slice a1 p.inputs.length n1) := by simp (disch := first | (simp only [World.size_alloc, World.size_drew, World.size_setCell]; omega) | omega | (simp; done) | (simp; omega)) only [c7, k1, cell_alloc_old, cell_alloc_new, World.cell?_drewN, World.cell?_drew]; first | done | rfl | (simp; done)
  have m2 : w7.cell? ⟨w4.heap.size, 2, none⟩ = some (.slice a2 p.vars.length n2) := by simp (disch := first | (simp only [World.size_alloc, World.size_drew, World.size_setCell]; omega) | omega | (simp; done) | (simp; omega)) only [c7, k2, cell_alloc_old, cell_alloc_new, World.cell?_drewN, World.cell?_drew]; first | done | rfl | (simp; done)
  have m3 : w7.cell? ⟨w4.heap.size, 3, none⟩ = some (.slice a3 p.outputs.length n3) := by simp (disch := first | (simp only [World.size_alloc, World.size_drew, World.size_setCell]; omega) | omega | (simp; done) | (simp; omega)) only [c7, k3, cell_alloc_old, cell_alloc_new, World.cell?_drewN, World.cell?_drew]; first | done | rfl | (simp; done)
  have m4 : w7.cell? ⟨w4.heap.size, 4, none⟩ = some (.string p.guard) := by simp (disch := first | (simp only [World.size_alloc, World.size_drew, World.size_setCell]; omega) | omega | (simp; done) | (simp; omega)) only [c7, k4, cell_alloc_old, cell_alloc_new, World.cell?_drewN, World.cell?_drew]; first | done | rfl | (simp; done)
  have m5 : w7.cell? ⟨w4.heap.size, 5, none⟩ = some (.slice a4 p.lines.length n4) := by simp (disch := first | (simp only [World.size_alloc, World.size_drew, World.size_setCell]; omega) | omega | (simp; done) | (simp; omega)) only [c7, k5, cell_alloc_old, cell_alloc_new, World.cell?_drewN, World.cell?_drew]; first | done | rfl | (simp; done)
  simp only [EndAll, List.nil_append, List.cons_append, List.length_cons, List.length_nil, Nat.zero_add, Nat.reduceAdd, List.take_succ_cons, List.take_zero, List.drop_succ_cons, List.drop_zero, putAll, Act.put, List.setIfInBounds_toArray, List.set_cons_succ, List.set_cons_zero]
  go_wp2_with fail
  have o57 := own_new o5 (show New w5 w7 by exact (by repeat (first | with_reducible exact New.refl _ | with_reducible assumption | with_reducible refine New.drew ?_ | with_reducible refine New.drewN ?_ _ | with_reducible refine New.alloc ?_ _ | with_reducible refine New.setCell ?_ (by first | (simp; done) | (simp; omega) | omega) _ | with_reducible refine New.trans ?_ (by with_reducible assumption))))
  simp only [World.size_alloc] at o57
  refine (markProgram_any p _ _ _ _ w3.heap.size B1 B2 B3 w4 _ q4 (show New w4 _ by exact (by repeat (first | with_reducible exact New.refl _ | with_reducible assumption | with_reducible refine New.drew ?_ | with_reducible refine New.drewN ?_ _ | with_reducible refine New.alloc ?_ _ | with_reducible refine New.setCell ?_ (by first | (simp; done) | (simp; omega) | omega) _ | with_reducible refine New.trans ?_ (by with_reducible assumption)))) hf hcn).mono ?_
  rintro e w8 ⟨rfl, t8⟩
  have b8 : New w3 w8 := t8.new (by repeat (first | with_reducible exact New.refl _ | with_reducible assumption | with_reducible refine New.drew ?_ | with_reducible refine New.drewN ?_ _ | with_reducible refine New.alloc ?_ _ | with_reducible refine New.setCell ?_ (by first | (simp; done) | (simp; omega) | omega) _ | with_reducible refine New.trans ?_ (by with_reducible assumption))) (Nat.le_refl _)
  have o58 := t8.own o57 (by omega)
  obtain ⟨c8, f8⟩ := b8.rules
  have z8 := b8.size
  have z8_0 : w.heap.size < w8.heap.size := by omega
  clear c7 f7 b7
  go_wp2_with fail
  refine (eqStringS_any _ _ L _ (own_rd o58) (own_rd (own_new o3 b8))).mono ?_; rintro e w9 ⟨rfl, b9⟩
  try replace b9 := New.undrawN b9
  try replace b9 := New.undraw b9
  obtain ⟨c9, f9⟩ := b9.rules
  have z9 := b9.size
  try simp only [World.size_alloc, World.size_drew, World.heap_drewN, World.size_setCell] at z9
  have z9_0 : w.heap.size < w9.heap.size := by omega
  go_wp2_with fail
  refine (markStringS_any _ L (w4.heap.size + 1) 1 _ (own_new o58 (show New w8 _ by exact (by repeat (first | with_reducible exact New.refl _ | with_reducible assumption | with_reducible refine New.drew ?_ | with_reducible refine New.drewN ?_ _ | with_reducible refine New.alloc ?_ _ | with_reducible refine New.setCell ?_ (by first | (simp; done) | (simp; omega) | omega) _ | with_reducible refine New.trans ?_ (by with_reducible assumption))))) hLL (by omega)).mono ?_
  rintro e w10 ⟨rfl, on10, own10⟩
  have b10 : New w3 w10 := on10.new (show New w3 _ by exact b8.trans b9) (fun k hk => by have := (own_block_lt o58 k hk).1; omega)
  obtain ⟨c10, f10⟩ := b10.rules
  have z10 := b10.size
  have z10_0 : w.heap.size < w10.heap.size := by omega
  have rd10 : RdS w10 r5 (marksE (mkString 1) L.length) := by rw [RdS, marksE_length]; exact own_rd own10
  clear c8 f8 on10
  try clear c9 f9
  go_wp2_with fail
  refine (heldStringS_any _ 1 L.length _ (rd10) hLL (by omega)).mono ?_; rintro e w11 ⟨rfl, b11⟩
  try replace b11 := New.undrawN b11
  try replace b11 := New.undraw b11
  obtain ⟨c11, f11⟩ := b11.rules
  have z11 := b11.size
  try simp only [World.size_alloc, World.size_drew, World.heap_drewN, World.size_setCell] at z11
  have z11_0 : w.heap.size < w11.heap.size := by omega
  go_wp2_with fail
  refine (toProgram_any p iv vv ov lv _ (HP.out.new (by repeat (first | with_reducible exact New.refl _ | with_reducible assumption | with_reducible refine New.drew ?_ | with_reducible refine New.drewN ?_ _ | with_reducible refine New.alloc ?_ _ | with_reducible refine New.setCell ?_ (by first | (simp; done) | (simp; omega) | omega) _ | with_reducible refine New.trans ?_ (by with_reducible assumption)))) hf).mono ?_; rintro e w12 ⟨i12, v12, o12, l12, rfl, b12, q12⟩
  obtain ⟨c12, f12⟩ := b12.rules
  have z12 := b12.size
  try simp only [World.size_alloc, World.size_drew, World.heap_drewN, World.size_setCell] at z12
  have z12_0 : w.heap.size < w12.heap.size := by omega
  go_wp2_with fail
  refine (HI.out i12 v12 o12 l12 _ q12 (HK.out.new (New.trans (show New w w3 by exact (by repeat (first | with_reducible exact New.refl _ | with_reducible assumption | with_reducible refine New.drew ?_ | with_reducible refine New.drewN ?_ _ | with_reducible refine New.alloc ?_ _ | with_reducible refine New.setCell ?_ (by first | (simp; done) | (simp; omega) | omega) _ | with_reducible refine New.trans ?_ (by with_reducible assumption)))) (New.trans b10 (New.trans b11 b12))))).mono ?_; rintro e w13 ⟨r13, rfl, b13, o13⟩
  obtain ⟨c13, f13⟩ := b13.rules
  have z13 := b13.size
  try simp only [World.size_alloc, World.size_drew, World.heap_drewN, World.size_setCell] at z13
  have z13_0 : w.heap.size < w13.heap.size := by omega
  go_wp2_with fail
  refine (eqStringS_any _ _ L _ (own_rd o13) (Rd.new (own_rd o3) (show New w3 _ by exact (New.trans b10 (New.trans b11 b12)).trans b13))).mono ?_; rintro e w14 ⟨rfl, b14⟩
  try replace b14 := New.undrawN b14
  try replace b14 := New.undraw b14
  obtain ⟨c14, f14⟩ := b14.rules
  have z14 := b14.size
  try simp only [World.size_alloc, World.size_drew, World.heap_drewN, World.size_setCell] at z14
  have z14_0 : w.heap.size < w14.heap.size := by omega
  go_wp2_with fail
  refine (heldStringS_any _ 1 L.length _ (Rd.new rd10 (by repeat (first | with_reducible exact New.refl _ | with_reducible assumption | with_reducible refine New.drew ?_ | with_reducible refine New.drewN ?_ _ | with_reducible refine New.alloc ?_ _ | with_reducible refine New.setCell ?_ (by first | (simp; done) | (simp; omega) | omega) _ | with_reducible refine New.trans ?_ (by with_reducible assumption)))) hLL (by omega)).mono ?_; rintro e w15 ⟨rfl, b15⟩
  try replace b15 := New.undrawN b15
  try replace b15 := New.undraw b15
  obtain ⟨c15, f15⟩ := b15.rules
  have z15 := b15.size
  try simp only [World.size_alloc, World.size_drew, World.heap_drewN, World.size_setCell] at z15
  have z15_0 : w.heap.size < w15.heap.size := by omega
  go_wp2_with fail
  go_ret
  exact ⟨rfl, (by repeat (first | with_reducible exact New.refl _ | with_reducible assumption | with_reducible refine New.drew ?_ | with_reducible refine New.drewN ?_ _ | with_reducible refine New.alloc ?_ _ | with_reducible refine New.setCell ?_ (by first | (simp; done) | (simp; omega) | omega) _ | with_reducible refine New.trans ?_ (by with_reducible assumption)))⟩
namespace fnExactUnusedNames
theorem own : ownKnob Tryd.prog.godebug = none := by kernel_rfl
theorem reads : (Tryd.f11.params.toList.all fun t => Tryd.prog.readableRec t && decide (t < Tryd.prog.types.size)) = true := by kernel_rfl
set_option maxRecDepth 100000 in
noncomputable def laidWorld (os : Os) : World :=
  { World.holding Tryd.prog os ⟨#[], #[], []⟩ with heap := (World.holding Tryd.prog os ⟨#[], #[], []⟩).heap.modify 0 fun
      | .cells _ t frozen => .cells (keyData.map fun z => Value.string (kw z)).toArray t frozen
      | o => o }
theorem laid_met (os : Os) : laidMet Tryd.prog Rows.fnExactUnusedNamesRow.laid ((laidWorld os).forCall (fun _ _ => 0) ⟨#[], #[.agg #[.string ⟨#[]⟩, .slice none 0 0, .slice none 0 0, .slice none 0 0, .string ⟨#[]⟩, .slice none 0 0]], []⟩).memory :=
  laidMet_of_run' 8 (by kernel_rfl) (by kernel_rfl)
theorem reading (os : Os) {H : Type} (enc : TypeId × Value → H) : ∃ x, DataW.whole enc Tryd.prog ((laidWorld os).forCall (fun _ _ => 0) ⟨#[], #[.agg #[.string ⟨#[]⟩, .slice none 0 0, .slice none 0 0, .slice none 0 0, .string ⟨#[]⟩, .slice none 0 0]], []⟩).memory Tryd.f11.params.toList Rows.fnExactUnusedNamesSpec.vars false (#[.agg #[.string ⟨#[]⟩, .slice none 0 0, .slice none 0 0, .slice none 0 0, .string ⟨#[]⟩, .slice none 0 0]] : Array Value).toList 8 = some x :=
  Option.isSome_iff_exists.1 (by kernel_rfl)
theorem lifted (os : Os) (started : os.Started) (H : Type) (enc : TypeId × Value → H) (F : Stop.Interp) :
    ReturnsInHanded {} Tryd.checked os 11 .any ((OpenSpec.ofChange Rows.fnExactUnusedNamesSpec).preRow enc Tryd.prog Tryd.f11 Rows.fnExactUnusedNamesRow.domain false Rows.fnExactUnusedNamesRow.laid) (((OpenSpec.ofChange Rows.fnExactUnusedNamesSpec).at F).post enc Tryd.prog Tryd.f11 false true false false) := by
  obtain ⟨x, hx⟩ := reading os enc
  refine returnsInHanded_of_row (C := Tryd.checked) (s := OpenSpec.ofChange Rows.fnExactUnusedNamesSpec) own started (by kernel_rfl) Tryd.func11
    (witness_row_at (enc := enc) (C := Tryd.checked) false (laidWorld os) #[.agg #[.string ⟨#[]⟩, .slice none 0 0, .slice none 0 0, .slice none 0 0, .string ⟨#[]⟩, .slice none 0 0]] rfl (by kernel_rfl) (by kernel_rfl) (by kernel_rfl)
      (OpenSpec.preRow_of_cond 8 hx (by first | rfl | kernel_rfl) (fun k hk => by cases hk) (by kernel_rfl) (laid_met os))) ?_
  intro W base args ds gs before hval0 hW _ _ _ hL _ _
  have hkw : KW W := keys_of_laid hL
  have hval : ∀ (j : Nat) t v, Tryd.f11.params[j]? = some t → args[j]? = some v → Value.okWide Tryd.prog W .any base t v := hval0
  have hW' := hW
  obtain ⟨p, q, hA0, hV, rfl, hfz, hnd⟩ := hW
  have hA : DataW.TrodAll enc Tryd.prog W 0 (fun _ => true) true Tryd.f11.params.toList args.toList ds p := hA0
  rw [Tryd.params11] at hA hval
  obtain ⟨v0, vs0, d0, ds0, p0, q0, hargs, rfl, rfl, h0, r0⟩ := trodAll_cons hA
  obtain ⟨rfl, rfl, rfl⟩ := trodAll_nil r0
  obtain rfl : args = #[v0] := by cases args; simp_all
  have o0 := hval 0 25 v0 rfl rfl
  clear hA0 hval hval0
  obtain ⟨_, _, _, _, gd, _, rfl, _, _, _, _, rfl⟩ := trodVars_one hV
  have walk : Calls Tryd.prog 11 #[v0] W fun e w' => e = .returned (.bool true) ∧ New W w' := by
    obtain ⟨p, iv, vv, ov, lv, rfl, hp, ho⟩ := openProgram h0 o0
    exact lawUnusedNames_any p iv vv ov lv W hkw hp ho
  refine walk.mono fun e W' ⟨he, hg⟩ => ?_
  subst he
  exact ⟨_, rfl, law_post laidOut (fun t ht => reads_of reads t ht) (fun n hn g t hg ht => by
    obtain rfl : n = "loop.example/g00916/impl.keywords" := List.mem_singleton.1 hn
    obtain rfl : 0 = g := Option.some.inj ((show Tryd.prog.globalNamed "loop.example/g00916/impl.keywords" = some 0 by kernel_rfl).symm.trans hg)
    obtain rfl : 128 = t := Option.some.inj ((show (Tryd.prog.globals[0]?).map (·.type) = some 128 by kernel_rfl).symm.trans ht)
    exact ⟨by kernel_rfl, of_decide_eq_true (by kernel_rfl)⟩) rfl Tryd.underlying4 hW' rfl hg⟩
theorem said : Rows.FnExactUnusedNamesSaid :=
  OpenClaim.holds_of_cond 11 Tryd.f11 rfl rfl rfl rfl rfl rfl rfl ⟨rfl, rfl, rfl, rfl, rfl⟩ rfl rfl rfl rfl rfl (by kernel_rfl) Tryd.func11 (by kernel_rfl)
    (of_decide_eq_true (by kernel_rfl)) (by unfold Func.isWrapper; first | (rw [if_pos (by decide +kernel)]; kernel_rfl) | (rw [if_neg (by decide +kernel)]; exact ⟨rfl, rfl⟩))
    (fun os started H enc _ F => by rw [OpenClaim.pre_eq_preRow]; exact lifted os started H enc F)
theorem plain (f : FuncId) (fn : Func) (hf : Tryd.pinned.checked.prog.funcNamed "loop.example/g00916/laws.FnExactUnusedNames" = some f) (hfn : Tryd.pinned.checked.prog.funcs[f]? = some fn) :
    false = Tryd.pinned.checked.prog.looks [] ∧ ∀ (j : Nat) t, fn.params[j]? = some t → Tryd.pinned.checked.prog.wantsStandIn t = false := by
  obtain rfl : f = 11 := Option.some.inj ((show Tryd.prog.funcNamed "loop.example/g00916/laws.FnExactUnusedNames" = some 11 by kernel_rfl).symm.trans hf) |>.symm
  obtain rfl : fn = Tryd.f11 := (Option.some.inj (Tryd.func11.symm.trans hfn)).symm
  refine ⟨by kernel_rfl, fun j t ht => ?_⟩
  rw [Tryd.params11] at ht
  have hm : t ∈ ([25] : List TypeId) := by simpa using Array.mem_of_getElem? ht
  have all : (([25] : List TypeId).all fun t => !Tryd.prog.wantsStandIn t) = true := by kernel_rfl
  have := List.all_eq_true.1 all t hm
  show Tryd.prog.wantsStandIn t = false
  exact (Bool.not_eq_true _).mp (fun h => by rw [h] at this; cases this)
theorem card : Rows.FnExactUnusedNamesCardSaid :=
  Claim7.holds_tied_plain_at .later [] _ _ _ _ said (fun _ h => by cases h) (by kernel_rfl) (fun _ h => by cases h) fnExactUnusedNames_row_tie rfl ⟨rfl, rfl⟩ (by kernel_rfl) rfl plain (by kernel_rfl)
#print axioms card
end fnExactUnusedNames
end Go.Proofs.YtjdkmjdobaeaoaaDoor
