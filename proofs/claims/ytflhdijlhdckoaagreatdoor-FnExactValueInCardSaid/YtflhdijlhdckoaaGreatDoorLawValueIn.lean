/- The program's ValueIn returns what the reference's returns, for every argument. No condition but the row's own: the table of keywords holds what the program's text lays. -/
import Derived.Test.YtflhdijlhdckoaaGreatDoorRows
import Derived.Test.YtflhdijlhdckoaaGreatDoorCards
import Derived.Test.YtflhdijlhdckoaaGreatDoorTie
import Derived.Test.YtflhdijlhdckoaaGreatDoorShape
import Derived.Test.YtflhdijlhdckoaaGreatDoorLawBase
import Derived.Test.YtflhdijlhdckoaaGreatDoorFacts
import Derived.Test.YtflhdijlhdckoaaGreatDoorKeys
import Derived.Test.YtflhdijlhdckoaaGreatDoorOpenMemory
import Derived.Test.YtflhdijlhdckoaaGreatDoorMemV
import Derived.Test.YtflhdijlhdckoaaGreatDoorRegion
import Derived.Test.YtflhdijlhdckoaaGreatDoorCells
namespace Go.Proofs.YtflhdijlhdckoaaGreatDoor
open Go Go.Proofs Go.RowKit Go.ChangeShapes Go.WideShapes Go.ChangeAt
set_option linter.unusedVariables false
set_option linter.unusedSimpArgs false
set_option maxRecDepth 100000
set_option maxHeartbeats 2000000 in
theorem lawValueIn_any (p : ProgD) (m : MemD) (iv vv ov lv va bl : Value) (s0 : ByteArray) (w : World) (hk : KW w) (hp : RdP w p iv vv ov lv) (ho : OkP p) (hm : RdMm w m va bl) (ks0 : okS s0) :
    Calls Tryz.prog 5 #[valP p iv vv ov lv, .agg #[va, bl], .string s0] w fun e w' => e = .returned (.bool true) ∧ New w w' := by
  have HK := Lib.hid hk; clear hk
  have HP := Lib.hid hp; clear hp
  have HM := Lib.hid hm; clear hm
  have gs0 : s0.size ≤ 9223372036854775807 := ks0
  have zz : w.heap.size < w.heap.size + 1 + 1 := by omega
  by_cases hs0 : 1048576 < (s0.size : Int)
  · go_enter Tryz.func5, Tryz.ntmps5
    go_wp2_with fail
    go_ret
    exact ⟨rfl, (by repeat (first | with_reducible exact New.refl _ | with_reducible assumption | with_reducible refine New.drew ?_ | with_reducible refine New.drewN ?_ _ | with_reducible refine New.alloc ?_ _ | with_reducible refine New.setCell ?_ (by first | (simp; done) | (simp; omega) | omega) _ | with_reducible refine New.trans ?_ (by with_reducible assumption)))⟩
  have hbd := szP_bd p 1048576 (by omega)
  by_cases hz : szP p 1048576 < 0
  · go_enter Tryz.func5, Tryz.ntmps5
    go_wp2_with fail
    refine (szProgram_any p iv vv ov lv 1048576 _ (HP.out.new (by repeat (first | with_reducible exact New.refl _ | with_reducible assumption | with_reducible refine New.drew ?_ | with_reducible refine New.drewN ?_ _ | with_reducible refine New.alloc ?_ _ | with_reducible refine New.setCell ?_ (by first | (simp; done) | (simp; omega) | omega) _ | with_reducible refine New.trans ?_ (by with_reducible assumption)))) (by omega) (by omega) ho).mono ?_; rintro e w1 ⟨rfl, b1⟩
    try replace b1 := New.undrawN b1
    try replace b1 := New.undraw b1
    obtain ⟨c1, f1⟩ := b1.rules
    have z1 := b1.size
    try simp only [World.size_alloc, World.size_drew, World.heap_drewN, World.size_setCell] at z1
    have z1_0 : w.heap.size < w1.heap.size := by omega
    have z1_1 : w.heap.size + 1 < w1.heap.size := by omega
    go_wp2_with fail
    go_ret
    exact ⟨rfl, (by repeat (first | with_reducible exact New.refl _ | with_reducible assumption | with_reducible refine New.drew ?_ | with_reducible refine New.drewN ?_ _ | with_reducible refine New.alloc ?_ _ | with_reducible refine New.setCell ?_ (by first | (simp; done) | (simp; omega) | omega) _ | with_reducible refine New.trans ?_ (by with_reducible assumption)))⟩
  have hf := szP_fit p 1048576 (by omega) (by omega) (by omega)
  have hbd2 := szMm_bd m (szP p 1048576) (by omega)
  by_cases hz2 : szMm m (szP p 1048576) < 0
  · go_enter Tryz.func5, Tryz.ntmps5
    go_wp2_with fail
    refine (szProgram_any p iv vv ov lv 1048576 _ (HP.out.new (by repeat (first | with_reducible exact New.refl _ | with_reducible assumption | with_reducible refine New.drew ?_ | with_reducible refine New.drewN ?_ _ | with_reducible refine New.alloc ?_ _ | with_reducible refine New.setCell ?_ (by first | (simp; done) | (simp; omega) | omega) _ | with_reducible refine New.trans ?_ (by with_reducible assumption)))) (by omega) (by omega) ho).mono ?_; rintro e w1 ⟨rfl, b1⟩
    try replace b1 := New.undrawN b1
    try replace b1 := New.undraw b1
    obtain ⟨c1, f1⟩ := b1.rules
    have z1 := b1.size
    try simp only [World.size_alloc, World.size_drew, World.heap_drewN, World.size_setCell] at z1
    have z1_0 : w.heap.size < w1.heap.size := by omega
    have z1_1 : w.heap.size + 1 < w1.heap.size := by omega
    go_wp2_with fail
    refine (szMemory_any m va bl (szP p 1048576) _ (HM.out.new (by repeat (first | with_reducible exact New.refl _ | with_reducible assumption | with_reducible refine New.drew ?_ | with_reducible refine New.drewN ?_ _ | with_reducible refine New.alloc ?_ _ | with_reducible refine New.setCell ?_ (by first | (simp; done) | (simp; omega) | omega) _ | with_reducible refine New.trans ?_ (by with_reducible assumption)))) (by omega) (by omega)).mono ?_; rintro e w2 ⟨rfl, b2⟩
    try replace b2 := New.undrawN b2
    try replace b2 := New.undraw b2
    obtain ⟨c2, f2⟩ := b2.rules
    have z2 := b2.size
    try simp only [World.size_alloc, World.size_drew, World.heap_drewN, World.size_setCell] at z2
    have z2_0 : w.heap.size < w2.heap.size := by omega
    have z2_1 : w.heap.size + 1 < w2.heap.size := by omega
    go_wp2_with fail
    go_ret
    exact ⟨rfl, (by repeat (first | with_reducible exact New.refl _ | with_reducible assumption | with_reducible refine New.drew ?_ | with_reducible refine New.drewN ?_ _ | with_reducible refine New.alloc ?_ _ | with_reducible refine New.setCell ?_ (by first | (simp; done) | (simp; omega) | omega) _ | with_reducible refine New.trans ?_ (by with_reducible assumption)))⟩
  obtain ⟨hm1, hm2⟩ := szMm_fit m (szP p 1048576) (by omega) (by omega) (by omega)
  have HSP := Lib.hid (fun (q r s t u v : Value) (w0 : World) (h : RdP w0 p q r s t) (h' : RdMm w0 m u v) => sValueIn_any p m q r s t u v s0 w0 h hf h')
  have HI := Lib.hid (fun (q r s t u v : Value) (w0 : World) (h : RdP w0 p q r s t) (h' : RdMm w0 m u v) (k : KW w0) => iValueIn_any p m q r s t u v s0 w0 h hf h' k)
  generalize valR p m s0 = R at HSP HI
  obtain ⟨F, C⟩ := R
  dsimp only at HSP HI
  have hFF : (F != F) = false := by simp
  have hCC : (C != C) = false := by simp
  go_enter Tryz.func5, Tryz.ntmps5
  go_wp2_with fail
  refine (szProgram_any p iv vv ov lv 1048576 _ (HP.out.new (by repeat (first | with_reducible exact New.refl _ | with_reducible assumption | with_reducible refine New.drew ?_ | with_reducible refine New.drewN ?_ _ | with_reducible refine New.alloc ?_ _ | with_reducible refine New.setCell ?_ (by first | (simp; done) | (simp; omega) | omega) _ | with_reducible refine New.trans ?_ (by with_reducible assumption)))) (by omega) (by omega) ho).mono ?_; rintro e w1 ⟨rfl, b1⟩
  try replace b1 := New.undrawN b1
  try replace b1 := New.undraw b1
  obtain ⟨c1, f1⟩ := b1.rules
  have z1 := b1.size
  try simp only [World.size_alloc, World.size_drew, World.heap_drewN, World.size_setCell] at z1
  have z1_0 : w.heap.size < w1.heap.size := by omega
  have z1_1 : w.heap.size + 1 < w1.heap.size := by omega
  go_wp2_with fail
  refine (szMemory_any m va bl (szP p 1048576) _ (HM.out.new (by repeat (first | with_reducible exact New.refl _ | with_reducible assumption | with_reducible refine New.drew ?_ | with_reducible refine New.drewN ?_ _ | with_reducible refine New.alloc ?_ _ | with_reducible refine New.setCell ?_ (by first | (simp; done) | (simp; omega) | omega) _ | with_reducible refine New.trans ?_ (by with_reducible assumption)))) (by omega) (by omega)).mono ?_; rintro e w2 ⟨rfl, b2⟩
  try replace b2 := New.undrawN b2
  try replace b2 := New.undraw b2
  obtain ⟨c2, f2⟩ := b2.rules
  have z2 := b2.size
  try simp only [World.size_alloc, World.size_drew, World.heap_drewN, World.size_setCell] at z2
  have z2_0 : w.heap.size < w2.heap.size := by omega
  have z2_1 : w.heap.size + 1 < w2.heap.size := by omega
  go_wp2_with fail
  refine wp_facts [fun X _ => X = valP p iv vv ov lv, fun X W' => ∃ q r s t, X = valP p q r s t ∧ RdP W' p q r s t, fun X _ => X = .agg #[va, bl], fun X W' => ∃ u v, X = .agg #[u, v] ∧ RdMm W' m u v, fun X _ => X = .string s0, fun X _ => X = .tuple #[.int .i64 F, .int .i64 C], fun X _ => X = .tuple #[.int .i64 F, .int .i64 C], fun X _ => X = .int .i64 F, fun X _ => X = .int .i64 C, fun X _ => X = .int .i64 F, fun X _ => X = .int .i64 C] (by kernel_rfl) (by kernel_rfl) ⟨stable_eq _, fun X w0 w1 hn ⟨q1, q2, q3, q4, t29, r1⟩ => ⟨q1, q2, q3, q4, t29, r1.new hn⟩, stable_eq _, fun X w0 w1 hn ⟨q5, q6, t31, r3⟩ => ⟨q5, q6, t31, r3.new hn⟩, stable_eq _, stable_eq _, stable_eq _, stable_eq _, stable_eq _, stable_eq _, stable_eq _, trivial⟩ ?_ ?_
  · refine ⟨?_, ?_, ?_, ?_, ?_, ?_, ?_, ?_, ?_, ?_, ?_, trivial⟩
    · intro a w9 hw ho hk
      have t2 := ho 3 rfl
      dsimp at t2
      try with_reducible replace hw := New.undrawN hw
      try with_reducible replace hw := New.undraw hw
      obtain ⟨c, f'⟩ := hw.rules
      go_simp
      exact New.refl _
    · intro a w9 hw ho hk
      have t28 : a.tmps[28]?.getD undef = valP p iv vv ov lv := hk 0 28 (by kernel_rfl) rfl
      go_simp
      refine (toProgram_any p iv vv ov lv _ (HP.out.new (by repeat (first | with_reducible exact New.refl _ | with_reducible assumption | with_reducible refine New.drew ?_ | with_reducible refine New.drewN ?_ _ | with_reducible refine New.alloc ?_ _ | with_reducible refine New.setCell ?_ (by first | (simp; done) | (simp; omega) | omega) _ | with_reducible refine New.trans ?_ (by with_reducible assumption)))) hf).mono ?_; rintro e w2 ⟨q, r, s, t, rfl, hb, o1⟩
      exact ⟨hb, _, rfl, _, _, _, _, rfl, o1⟩
    · intro a w9 hw ho hk
      have t2 := ho 4 rfl
      dsimp at t2
      try with_reducible replace hw := New.undrawN hw
      try with_reducible replace hw := New.undraw hw
      obtain ⟨c, f'⟩ := hw.rules
      go_simp
      exact New.refl _
    · intro a w9 hw ho hk
      have t30 : a.tmps[30]?.getD undef = .agg #[va, bl] := hk 2 30 (by kernel_rfl) rfl
      go_simp
      refine (toMemory_any m va bl _ (HM.out.new (by repeat (first | with_reducible exact New.refl _ | with_reducible assumption | with_reducible refine New.drew ?_ | with_reducible refine New.drewN ?_ _ | with_reducible refine New.alloc ?_ _ | with_reducible refine New.setCell ?_ (by first | (simp; done) | (simp; omega) | omega) _ | with_reducible refine New.trans ?_ (by with_reducible assumption)))) hm1 hm2).mono ?_; rintro e w2 ⟨u, v, rfl, hb, o1⟩
      exact ⟨hb, _, rfl, _, _, rfl, o1⟩
    · intro a w9 hw ho hk
      have t2 := ho 2 rfl
      dsimp at t2
      try with_reducible replace hw := New.undrawN hw
      try with_reducible replace hw := New.undraw hw
      obtain ⟨c, f'⟩ := hw.rules
      go_simp
      exact New.refl _
    · intro a w9 hw ho hk
      obtain ⟨q1, q2, q3, q4, t29, r1⟩ : ∃ q r s t, (a.tmps[29]?.getD undef) = valP p q r s t ∧ RdP w9 p q r s t := hk 1 29 (by kernel_rfl) rfl
      obtain ⟨q5, q6, t31, r3⟩ : ∃ u v, (a.tmps[31]?.getD undef) = .agg #[u, v] ∧ RdMm w9 m u v := hk 3 31 (by kernel_rfl) rfl
      have t32 : a.tmps[32]?.getD undef = .string s0 := hk 4 32 (by kernel_rfl) rfl
      go_simp
      refine (HSP.out q1 q2 q3 q4 q5 q6 _ r1 r3).mono ?_; rintro e w2 ⟨rfl, hb⟩
      first | exact ⟨hb, _, rfl, by simp⟩ | exact ⟨hb, by simp⟩
    · intro a w9 hw ho hk
      have t33 : a.tmps[33]?.getD undef = .tuple #[.int .i64 F, .int .i64 C] := hk 5 33 (by kernel_rfl) rfl
      go_simp
      exact New.refl _
    · intro a w9 hw ho hk
      have t27 : a.tmps[27]?.getD undef = .tuple #[.int .i64 F, .int .i64 C] := hk 6 27 (by kernel_rfl) rfl
      go_simp
      exact New.refl _
    · intro a w9 hw ho hk
      have t27 : a.tmps[27]?.getD undef = .tuple #[.int .i64 F, .int .i64 C] := hk 6 27 (by kernel_rfl) rfl
      go_simp
      exact New.refl _
    · intro a w9 hw ho hk
      have t34 : a.tmps[34]?.getD undef = .int .i64 F := hk 7 34 (by kernel_rfl) rfl
      go_simp
      exact New.refl _
    · intro a w9 hw ho hk
      have t35 : a.tmps[35]?.getD undef = .int .i64 C := hk 8 35 (by kernel_rfl) rfl
      go_simp
      exact New.refl _
  intro w3 b3 x0 h0 x1 h1 x2 h2 x3 h3 x4 h4 x5 h5 x6 h6 x7 h7 x8 h8 x9 h9 x10 h10
  subst h0 h2 h4 h5 h6 h7 h8 h9 h10
  try with_reducible replace b3 := New.undrawN b3
  try with_reducible replace b3 := New.undraw b3
  obtain ⟨c3, f3⟩ := b3.rules
  have z3 := b3.size
  try simp only [World.size_alloc, World.size_drew, World.heap_drewN, World.size_setCell] at z3
  have z3_0 : w.heap.size < w3.heap.size := by omega
  have z3_1 : w.heap.size + 1 < w3.heap.size := by omega
  simp only [EndAll, List.nil_append, List.cons_append, List.length_cons, List.length_nil, Nat.zero_add, Nat.reduceAdd, List.take_succ_cons, List.take_zero, List.drop_succ_cons, List.drop_zero, putAll, Act.put, List.setIfInBounds_toArray, List.set_cons_succ, List.set_cons_zero]
  go_wp2_with fail
  refine (toProgram_any p iv vv ov lv _ (HP.out.new (by repeat (first | with_reducible exact New.refl _ | with_reducible assumption | with_reducible refine New.drew ?_ | with_reducible refine New.drewN ?_ _ | with_reducible refine New.alloc ?_ _ | with_reducible refine New.setCell ?_ (by first | (simp; done) | (simp; omega) | omega) _ | with_reducible refine New.trans ?_ (by with_reducible assumption)))) hf).mono ?_; rintro e w4 ⟨i4, v4, o4, l4, rfl, b4, r4⟩
  obtain ⟨a1, n1, rfl, _⟩ := id r4.ins; obtain ⟨a2, n2, rfl, _⟩ := id r4.vars; obtain ⟨a3, n3, rfl, _⟩ := id r4.outs; obtain ⟨a4, n4, rfl⟩ := id r4.lines.slice
  obtain ⟨c4, f4⟩ := b4.rules
  have z4 := b4.size
  try simp only [World.size_alloc, World.size_drew, World.heap_drewN, World.size_setCell] at z4
  have z4_0 : w.heap.size < w4.heap.size := by omega
  have z4_1 : w.heap.size + 1 < w4.heap.size := by omega
  go_wp2_with fail
  refine (toMemory_any m va bl _ (HM.out.new (by repeat (first | with_reducible exact New.refl _ | with_reducible assumption | with_reducible refine New.drew ?_ | with_reducible refine New.drewN ?_ _ | with_reducible refine New.alloc ?_ _ | with_reducible refine New.setCell ?_ (by first | (simp; done) | (simp; omega) | omega) _ | with_reducible refine New.trans ?_ (by with_reducible assumption)))) hm1 hm2).mono ?_; rintro e w5 ⟨m1, m2, rfl, b5, o5⟩
  obtain ⟨a5, n5, rfl, _⟩ := id o5.va; obtain ⟨a6, n6, rfl, _⟩ := id o5.bl
  obtain ⟨c5, f5⟩ := b5.rules
  have z5 := b5.size
  try simp only [World.size_alloc, World.size_drew, World.heap_drewN, World.size_setCell] at z5
  have z5_0 : w.heap.size < w5.heap.size := by omega
  have z5_1 : w.heap.size + 1 < w5.heap.size := by omega
  have z5_2 : w4.heap.size < w5.heap.size := by omega
  go_wp2_with fail
  refine (HI.out _ _ _ _ _ _ _ (r4.new (by repeat (first | with_reducible exact New.refl _ | with_reducible assumption | with_reducible refine New.drew ?_ | with_reducible refine New.drewN ?_ _ | with_reducible refine New.alloc ?_ _ | with_reducible refine New.setCell ?_ (by first | (simp; done) | (simp; omega) | omega) _ | with_reducible refine New.trans ?_ (by with_reducible assumption)))) (o5.new (by repeat (first | with_reducible exact New.refl _ | with_reducible assumption | with_reducible refine New.drew ?_ | with_reducible refine New.drewN ?_ _ | with_reducible refine New.alloc ?_ _ | with_reducible refine New.setCell ?_ (by first | (simp; done) | (simp; omega) | omega) _ | with_reducible refine New.trans ?_ (by with_reducible assumption)))) (HK.out.new (by repeat (first | with_reducible exact New.refl _ | with_reducible assumption | with_reducible refine New.drew ?_ | with_reducible refine New.drewN ?_ _ | with_reducible refine New.alloc ?_ _ | with_reducible refine New.setCell ?_ (by first | (simp; done) | (simp; omega) | omega) _ | with_reducible refine New.trans ?_ (by with_reducible assumption))))).mono ?_; rintro e w6 ⟨rfl, b6⟩
  try replace b6 := New.undrawN b6
  try replace b6 := New.undraw b6
  obtain ⟨c6, f6⟩ := b6.rules
  have z6 := b6.size
  try simp only [World.size_alloc, World.size_drew, World.heap_drewN, World.size_setCell] at z6
  have z6_0 : w.heap.size < w6.heap.size := by omega
  have z6_1 : w.heap.size + 1 < w6.heap.size := by omega
  have z6_2 : w4.heap.size < w6.heap.size := by omega
  have z6_3 : w5.heap.size < w6.heap.size := by omega
  go_wp2_with fail
  have ka0 : w6.cell? ⟨w4.heap.size, 0, none⟩ = some (.string p.name) := by simp (disch := first | (simp only [World.size_alloc, World.size_drew, World.size_setCell]; omega) | omega | (simp; done) | (simp; omega)) only [c6, c5, c4, c3, c2, c1, cell_alloc_old, cell_alloc_new, World.cell?_drewN, World.cell?_drew]; first | done | rfl | (simp; done)
  have ka1 : w6.cell? ⟨w4.heap.size, 1, none⟩ = some (.slice a1 p.inputs.length n1) := by simp (disch := first | (simp only [World.size_alloc, World.size_drew, World.size_setCell]; omega) | omega | (simp; done) | (simp; omega)) only [c6, c5, c4, c3, c2, c1, cell_alloc_old, cell_alloc_new, World.cell?_drewN, World.cell?_drew]; first | done | rfl | (simp; done)
  have ka2 : w6.cell? ⟨w4.heap.size, 2, none⟩ = some (.slice a2 p.vars.length n2) := by simp (disch := first | (simp only [World.size_alloc, World.size_drew, World.size_setCell]; omega) | omega | (simp; done) | (simp; omega)) only [c6, c5, c4, c3, c2, c1, cell_alloc_old, cell_alloc_new, World.cell?_drewN, World.cell?_drew]; first | done | rfl | (simp; done)
  have ka3 : w6.cell? ⟨w4.heap.size, 3, none⟩ = some (.slice a3 p.outputs.length n3) := by simp (disch := first | (simp only [World.size_alloc, World.size_drew, World.size_setCell]; omega) | omega | (simp; done) | (simp; omega)) only [c6, c5, c4, c3, c2, c1, cell_alloc_old, cell_alloc_new, World.cell?_drewN, World.cell?_drew]; first | done | rfl | (simp; done)
  have ka4 : w6.cell? ⟨w4.heap.size, 4, none⟩ = some (.string p.guard) := by simp (disch := first | (simp only [World.size_alloc, World.size_drew, World.size_setCell]; omega) | omega | (simp; done) | (simp; omega)) only [c6, c5, c4, c3, c2, c1, cell_alloc_old, cell_alloc_new, World.cell?_drewN, World.cell?_drew]; first | done | rfl | (simp; done)
  have ka5 : w6.cell? ⟨w4.heap.size, 5, none⟩ = some (.slice a4 p.lines.length n4) := by simp (disch := first | (simp only [World.size_alloc, World.size_drew, World.size_setCell]; omega) | omega | (simp; done) | (simp; omega)) only [c6, c5, c4, c3, c2, c1, cell_alloc_old, cell_alloc_new, World.cell?_drewN, World.cell?_drew]; first | done | rfl | (simp; done)
  have kb0 : w6.cell? ⟨w5.heap.size, 0, none⟩ = some (.slice a5 m.vals.length n5) := by simp (disch := first | (simp only [World.size_alloc, World.size_drew, World.size_setCell]; omega) | omega | (simp; done) | (simp; omega)) only [c6, c5, c4, c3, c2, c1, cell_alloc_old, cell_alloc_new, World.cell?_drewN, World.cell?_drew]; first | done | rfl | (simp; done)
  have kb1 : w6.cell? ⟨w5.heap.size, 1, none⟩ = some (.slice a6 m.blocks.length n6) := by simp (disch := first | (simp only [World.size_alloc, World.size_drew, World.size_setCell]; omega) | omega | (simp; done) | (simp; omega)) only [c6, c5, c4, c3, c2, c1, cell_alloc_old, cell_alloc_new, World.cell?_drewN, World.cell?_drew]; first | done | rfl | (simp; done)
  have kc0 : w6.cell? ⟨w.heap.size, 0, none⟩ = some (.string p.name) := by simp (disch := first | (simp only [World.size_alloc, World.size_drew, World.size_setCell]; omega) | omega | (simp; done) | (simp; omega)) only [c6, c5, c4, c3, c2, c1, cell_alloc_old, cell_alloc_new, World.cell?_drewN, World.cell?_drew]; first | done | rfl | (simp; done)
  have kc1 : w6.cell? ⟨w.heap.size, 1, none⟩ = some (iv) := by simp (disch := first | (simp only [World.size_alloc, World.size_drew, World.size_setCell]; omega) | omega | (simp; done) | (simp; omega)) only [c6, c5, c4, c3, c2, c1, cell_alloc_old, cell_alloc_new, World.cell?_drewN, World.cell?_drew]; first | done | rfl | (simp; done)
  have kc2 : w6.cell? ⟨w.heap.size, 2, none⟩ = some (vv) := by simp (disch := first | (simp only [World.size_alloc, World.size_drew, World.size_setCell]; omega) | omega | (simp; done) | (simp; omega)) only [c6, c5, c4, c3, c2, c1, cell_alloc_old, cell_alloc_new, World.cell?_drewN, World.cell?_drew]; first | done | rfl | (simp; done)
  have kc3 : w6.cell? ⟨w.heap.size, 3, none⟩ = some (ov) := by simp (disch := first | (simp only [World.size_alloc, World.size_drew, World.size_setCell]; omega) | omega | (simp; done) | (simp; omega)) only [c6, c5, c4, c3, c2, c1, cell_alloc_old, cell_alloc_new, World.cell?_drewN, World.cell?_drew]; first | done | rfl | (simp; done)
  have kc4 : w6.cell? ⟨w.heap.size, 4, none⟩ = some (.string p.guard) := by simp (disch := first | (simp only [World.size_alloc, World.size_drew, World.size_setCell]; omega) | omega | (simp; done) | (simp; omega)) only [c6, c5, c4, c3, c2, c1, cell_alloc_old, cell_alloc_new, World.cell?_drewN, World.cell?_drew]; first | done | rfl | (simp; done)
  have kc5 : w6.cell? ⟨w.heap.size, 5, none⟩ = some (lv) := by simp (disch := first | (simp only [World.size_alloc, World.size_drew, World.size_setCell]; omega) | omega | (simp; done) | (simp; omega)) only [c6, c5, c4, c3, c2, c1, cell_alloc_old, cell_alloc_new, World.cell?_drewN, World.cell?_drew]; first | done | rfl | (simp; done)
  have kd0 : w6.cell? ⟨w.heap.size + 1, 0, none⟩ = some (va) := by simp (disch := first | (simp only [World.size_alloc, World.size_drew, World.size_setCell]; omega) | omega | (simp; done) | (simp; omega)) only [c6, c5, c4, c3, c2, c1, cell_alloc_old, cell_alloc_new, World.cell?_drewN, World.cell?_drew]; first | done | rfl | (simp; done)
  have kd1 : w6.cell? ⟨w.heap.size + 1, 1, none⟩ = some (bl) := by simp (disch := first | (simp only [World.size_alloc, World.size_drew, World.size_setCell]; omega) | omega | (simp; done) | (simp; omega)) only [c6, c5, c4, c3, c2, c1, cell_alloc_old, cell_alloc_new, World.cell?_drewN, World.cell?_drew]; first | done | rfl | (simp; done)
  refine wp_facts [fun X _ => X = valP p (.slice a1 p.inputs.length n1) (.slice a2 p.vars.length n2) (.slice a3 p.outputs.length n3) (.slice a4 p.lines.length n4), fun X _ => X = valP p iv vv ov lv, fun X W' => ∃ q r s t, X = valP p q r s t ∧ RdP W' p q r s t, fun X _ => X = .bool true, fun X _ => X = .bool false] (by kernel_rfl) (by kernel_rfl) ⟨stable_eq _, stable_eq _, fun X w0 w1 hn ⟨q1, q2, q3, q4, t57, r1⟩ => ⟨q1, q2, q3, q4, t57, r1.new hn⟩, stable_eq _, stable_eq _, trivial⟩ ?_ ?_
  · refine ⟨?_, ?_, ?_, ?_, ?_, trivial⟩
    · intro a w9 hw ho hk
      have t2 := ho 10 rfl
      dsimp at t2
      try with_reducible replace hw := New.undrawN hw
      try with_reducible replace hw := New.undraw hw
      obtain ⟨c, f'⟩ := hw.rules
      go_simp
      exact New.refl _
    · intro a w9 hw ho hk
      have t2 := ho 3 rfl
      dsimp at t2
      try with_reducible replace hw := New.undrawN hw
      try with_reducible replace hw := New.undraw hw
      obtain ⟨c, f'⟩ := hw.rules
      go_simp
      exact New.refl _
    · intro a w9 hw ho hk
      have t56 : a.tmps[56]?.getD undef = valP p iv vv ov lv := hk 1 56 (by kernel_rfl) rfl
      go_simp
      refine (toProgram_any p iv vv ov lv _ (HP.out.new (by repeat (first | with_reducible exact New.refl _ | with_reducible assumption | with_reducible refine New.drew ?_ | with_reducible refine New.drewN ?_ _ | with_reducible refine New.alloc ?_ _ | with_reducible refine New.setCell ?_ (by first | (simp; done) | (simp; omega) | omega) _ | with_reducible refine New.trans ?_ (by with_reducible assumption)))) hf).mono ?_; rintro e w2 ⟨q, r, s, t, rfl, hb, o1⟩
      exact ⟨hb, _, rfl, _, _, _, _, rfl, o1⟩
    · intro a w9 hw ho hk
      have t55 : a.tmps[55]?.getD undef = valP p (.slice a1 p.inputs.length n1) (.slice a2 p.vars.length n2) (.slice a3 p.outputs.length n3) (.slice a4 p.lines.length n4) := hk 0 55 (by kernel_rfl) rfl
      obtain ⟨q1, q2, q3, q4, t57, r1⟩ : ∃ q r s t, (a.tmps[57]?.getD undef) = valP p q r s t ∧ RdP w9 p q r s t := hk 2 57 (by kernel_rfl) rfl
      go_simp
      refine (eqProgram_any p _ _ _ _ _ _ _ _ _ (r4.new (by repeat (first | with_reducible exact New.refl _ | with_reducible assumption | with_reducible refine New.drew ?_ | with_reducible refine New.drewN ?_ _ | with_reducible refine New.alloc ?_ _ | with_reducible refine New.setCell ?_ (by first | (simp; done) | (simp; omega) | omega) _ | with_reducible refine New.trans ?_ (by with_reducible assumption)))) r1).mono ?_; rintro e w2 ⟨rfl, hb⟩
      first | exact ⟨hb, _, rfl, by simp⟩ | exact ⟨hb, by simp⟩
    · intro a w9 hw ho hk
      have t58 : a.tmps[58]?.getD undef = .bool true := hk 3 58 (by kernel_rfl) rfl
      go_simp
      exact New.refl _
  intro w7 b7 x0 h0 x1 h1 x2 h2 x3 h3 x4 h4
  subst h0 h1 h3 h4
  try with_reducible replace b7 := New.undrawN b7
  try with_reducible replace b7 := New.undraw b7
  obtain ⟨c7, f7⟩ := b7.rules
  have z7 := b7.size
  try simp only [World.size_alloc, World.size_drew, World.heap_drewN, World.size_setCell] at z7
  have z7_0 : w.heap.size < w7.heap.size := by omega
  have z7_1 : w.heap.size + 1 < w7.heap.size := by omega
  have z7_2 : w4.heap.size < w7.heap.size := by omega
  have z7_3 : w5.heap.size < w7.heap.size := by omega
  have lb0 : w7.cell? ⟨w5.heap.size, 0, none⟩ = some (.slice a5 m.vals.length n5) := by simp (disch := first | (simp only [World.size_alloc, World.size_drew, World.size_setCell]; omega) | omega | (simp; done) | (simp; omega)) only [c7, kb0, cell_alloc_old, cell_alloc_new, World.cell?_drewN, World.cell?_drew]; first | done | rfl | (simp; done)
  have lb1 : w7.cell? ⟨w5.heap.size, 1, none⟩ = some (.slice a6 m.blocks.length n6) := by simp (disch := first | (simp only [World.size_alloc, World.size_drew, World.size_setCell]; omega) | omega | (simp; done) | (simp; omega)) only [c7, kb1, cell_alloc_old, cell_alloc_new, World.cell?_drewN, World.cell?_drew]; first | done | rfl | (simp; done)
  have ld0 : w7.cell? ⟨w.heap.size + 1, 0, none⟩ = some (va) := by simp (disch := first | (simp only [World.size_alloc, World.size_drew, World.size_setCell]; omega) | omega | (simp; done) | (simp; omega)) only [c7, kd0, cell_alloc_old, cell_alloc_new, World.cell?_drewN, World.cell?_drew]; first | done | rfl | (simp; done)
  have ld1 : w7.cell? ⟨w.heap.size + 1, 1, none⟩ = some (bl) := by simp (disch := first | (simp only [World.size_alloc, World.size_drew, World.size_setCell]; omega) | omega | (simp; done) | (simp; omega)) only [c7, kd1, cell_alloc_old, cell_alloc_new, World.cell?_drewN, World.cell?_drew]; first | done | rfl | (simp; done)
  simp only [EndAll, List.nil_append, List.cons_append, List.length_cons, List.length_nil, Nat.zero_add, Nat.reduceAdd, List.take_succ_cons, List.take_zero, List.drop_succ_cons, List.drop_zero, putAll, Act.put, List.setIfInBounds_toArray, List.set_cons_succ, List.set_cons_zero]
  go_wp2_with fail
  refine wp_facts [fun X _ => X = .agg #[.slice a5 m.vals.length n5, .slice a6 m.blocks.length n6], fun X _ => X = .agg #[va, bl], fun X W' => ∃ u v, X = .agg #[u, v] ∧ RdMm W' m u v, fun X _ => X = .bool true, fun X _ => X = .bool false] (by kernel_rfl) (by kernel_rfl) ⟨stable_eq _, stable_eq _, fun X w0 w1 hn ⟨q5, q6, t62, r3⟩ => ⟨q5, q6, t62, r3.new hn⟩, stable_eq _, stable_eq _, trivial⟩ ?_ ?_
  · refine ⟨?_, ?_, ?_, ?_, ?_, trivial⟩
    · intro a w9 hw ho hk
      have t2 := ho 11 rfl
      dsimp at t2
      try with_reducible replace hw := New.undrawN hw
      try with_reducible replace hw := New.undraw hw
      obtain ⟨c, f'⟩ := hw.rules
      go_simp
      exact New.refl _
    · intro a w9 hw ho hk
      have t2 := ho 4 rfl
      dsimp at t2
      try with_reducible replace hw := New.undrawN hw
      try with_reducible replace hw := New.undraw hw
      obtain ⟨c, f'⟩ := hw.rules
      go_simp
      exact New.refl _
    · intro a w9 hw ho hk
      have t61 : a.tmps[61]?.getD undef = .agg #[va, bl] := hk 1 61 (by kernel_rfl) rfl
      go_simp
      refine (toMemory_any m va bl _ (HM.out.new (by repeat (first | with_reducible exact New.refl _ | with_reducible assumption | with_reducible refine New.drew ?_ | with_reducible refine New.drewN ?_ _ | with_reducible refine New.alloc ?_ _ | with_reducible refine New.setCell ?_ (by first | (simp; done) | (simp; omega) | omega) _ | with_reducible refine New.trans ?_ (by with_reducible assumption)))) hm1 hm2).mono ?_; rintro e w2 ⟨u, v, rfl, hb, o1⟩
      exact ⟨hb, _, rfl, _, _, rfl, o1⟩
    · intro a w9 hw ho hk
      have t60 : a.tmps[60]?.getD undef = .agg #[.slice a5 m.vals.length n5, .slice a6 m.blocks.length n6] := hk 0 60 (by kernel_rfl) rfl
      obtain ⟨q5, q6, t62, r3⟩ : ∃ u v, (a.tmps[62]?.getD undef) = .agg #[u, v] ∧ RdMm w9 m u v := hk 2 62 (by kernel_rfl) rfl
      go_simp
      refine (eqMemory_any m _ _ _ _ _ (o5.new (by repeat (first | with_reducible exact New.refl _ | with_reducible assumption | with_reducible refine New.drew ?_ | with_reducible refine New.drewN ?_ _ | with_reducible refine New.alloc ?_ _ | with_reducible refine New.setCell ?_ (by first | (simp; done) | (simp; omega) | omega) _ | with_reducible refine New.trans ?_ (by with_reducible assumption)))) r3).mono ?_; rintro e w2 ⟨rfl, hb⟩
      first | exact ⟨hb, _, rfl, by simp⟩ | exact ⟨hb, by simp⟩
    · intro a w9 hw ho hk
      have t63 : a.tmps[63]?.getD undef = .bool true := hk 3 63 (by kernel_rfl) rfl
      go_simp
      exact New.refl _
  intro w8 b8 y0 g0 y1 g1 y2 g2 y3 g3 y4 g4
  subst g0 g1 g3 g4
  try with_reducible replace b8 := New.undrawN b8
  try with_reducible replace b8 := New.undraw b8
  obtain ⟨c8, f8⟩ := b8.rules
  have z8 := b8.size
  try simp only [World.size_alloc, World.size_drew, World.heap_drewN, World.size_setCell] at z8
  have z8_0 : w.heap.size < w8.heap.size := by omega
  have z8_1 : w.heap.size + 1 < w8.heap.size := by omega
  simp only [EndAll, List.nil_append, List.cons_append, List.length_cons, List.length_nil, Nat.zero_add, Nat.reduceAdd, List.take_succ_cons, List.take_zero, List.drop_succ_cons, List.drop_zero, putAll, Act.put, List.setIfInBounds_toArray, List.set_cons_succ, List.set_cons_zero]
  go_wp2_with fail
  go_ret
  exact ⟨rfl, (by repeat (first | with_reducible exact New.refl _ | with_reducible assumption | with_reducible refine New.drew ?_ | with_reducible refine New.drewN ?_ _ | with_reducible refine New.alloc ?_ _ | with_reducible refine New.setCell ?_ (by first | (simp; done) | (simp; omega) | omega) _ | with_reducible refine New.trans ?_ (by with_reducible assumption)))⟩
namespace fnExactValueIn
theorem own : ownKnob Tryz.prog.godebug = none := by kernel_rfl
theorem reads : (Tryz.f5.params.toList.all fun t => Tryz.prog.readableRec t && decide (t < Tryz.prog.types.size)) = true := by kernel_rfl
set_option maxRecDepth 100000 in
noncomputable def laidWorld (os : Os) : World :=
  { World.holding Tryz.prog os ⟨#[], #[], []⟩ with heap := (World.holding Tryz.prog os ⟨#[], #[], []⟩).heap.modify 0 fun
      | .cells _ t frozen => .cells (keyData.map fun z => Value.string (kw z)).toArray t frozen
      | o => o }
theorem laid_met (os : Os) : laidMet Tryz.prog Rows.fnExactValueInRow.laid ((laidWorld os).forCall (fun _ _ => 0) ⟨#[], #[.agg #[.string ⟨#[]⟩, .slice none 0 0, .slice none 0 0, .slice none 0 0, .string ⟨#[]⟩, .slice none 0 0], .agg #[.slice none 0 0, .slice none 0 0], .string ⟨#[]⟩], []⟩).memory :=
  laidMet_of_run' 8 (by kernel_rfl) (by kernel_rfl)
theorem reading (os : Os) {H : Type} (enc : TypeId × Value → H) : ∃ x, DataW.whole enc Tryz.prog ((laidWorld os).forCall (fun _ _ => 0) ⟨#[], #[.agg #[.string ⟨#[]⟩, .slice none 0 0, .slice none 0 0, .slice none 0 0, .string ⟨#[]⟩, .slice none 0 0], .agg #[.slice none 0 0, .slice none 0 0], .string ⟨#[]⟩], []⟩).memory Tryz.f5.params.toList Rows.fnExactValueInSpec.vars false (#[.agg #[.string ⟨#[]⟩, .slice none 0 0, .slice none 0 0, .slice none 0 0, .string ⟨#[]⟩, .slice none 0 0], .agg #[.slice none 0 0, .slice none 0 0], .string ⟨#[]⟩] : Array Value).toList 8 = some x :=
  Option.isSome_iff_exists.1 (by kernel_rfl)
theorem lifted (os : Os) (started : os.Started) (H : Type) (enc : TypeId × Value → H) (F : Stop.Interp) :
    ReturnsInHanded {} Tryz.checked os 5 .any ((OpenSpec.ofChange Rows.fnExactValueInSpec).preRow enc Tryz.prog Tryz.f5 Rows.fnExactValueInRow.domain false Rows.fnExactValueInRow.laid) (((OpenSpec.ofChange Rows.fnExactValueInSpec).at F).post enc Tryz.prog Tryz.f5 false true false false) := by
  obtain ⟨x, hx⟩ := reading os enc
  refine returnsInHanded_of_row (C := Tryz.checked) (s := OpenSpec.ofChange Rows.fnExactValueInSpec) own started (by kernel_rfl) Tryz.func5
    (witness_row_at (enc := enc) (C := Tryz.checked) false (laidWorld os) #[.agg #[.string ⟨#[]⟩, .slice none 0 0, .slice none 0 0, .slice none 0 0, .string ⟨#[]⟩, .slice none 0 0], .agg #[.slice none 0 0, .slice none 0 0], .string ⟨#[]⟩] rfl (by kernel_rfl) (by kernel_rfl) (by kernel_rfl)
      (OpenSpec.preRow_of_cond 8 hx (by first | rfl | kernel_rfl) (fun k hk => by cases hk) (by kernel_rfl) (laid_met os))) ?_
  intro W base args ds gs before hval0 hW _ _ _ hL _ _
  have hkw : KW W := keys_of_laid hL
  have hval : ∀ (j : Nat) t v, Tryz.f5.params[j]? = some t → args[j]? = some v → Value.okWide Tryz.prog W .any base t v := hval0
  have hW' := hW
  obtain ⟨p, q, hA0, hV, rfl, hfz, hnd⟩ := hW
  have hA : DataW.TrodAll enc Tryz.prog W 0 (fun _ => true) true Tryz.f5.params.toList args.toList ds p := hA0
  rw [Tryz.params5] at hA hval
  obtain ⟨v0, vs0, d0, ds0, p0, q0, hargs, rfl, rfl, h0, r0⟩ := trodAll_cons hA
  obtain ⟨v1, vs1, d1, ds1, p1, q1, rfl, rfl, rfl, h1, r1⟩ := trodAll_cons r0
  obtain ⟨v2, vs2, d2, ds2, p2, q2, rfl, rfl, rfl, h2, r2⟩ := trodAll_cons r1
  obtain ⟨rfl, rfl, rfl⟩ := trodAll_nil r2
  obtain rfl : args = #[v0, v1, v2] := by cases args; simp_all
  have o0 := hval 0 25 v0 rfl rfl
  have o1 := hval 1 29 v1 rfl rfl
  have o2 := hval 2 9 v2 rfl rfl
  clear hA0 hval hval0
  obtain ⟨_, _, _, _, gd, _, rfl, _, _, _, _, rfl⟩ := trodVars_one hV
  have walk : Calls Tryz.prog 5 #[v0, v1, v2] W fun e w' => e = .returned (.bool true) ∧ New W w' := by
    obtain ⟨p, iv, vv, ov, lv, rfl, hp, ho⟩ := openProgram h0 o0
    obtain ⟨m, va, bl, rfl, hm⟩ := openMemory h1 o1
    obtain ⟨s0, rfl, ks0⟩ := openStr h2 o2
    exact lawValueIn_any p m iv vv ov lv va bl s0 W hkw hp ho hm ks0
  refine walk.mono fun e W' ⟨he, hg⟩ => ?_
  subst he
  exact ⟨_, rfl, law_post laidOut (fun t ht => reads_of reads t ht) (fun n hn g t hg ht => by
    obtain rfl : n = "loop.example/g00916/impl.keywords" := List.mem_singleton.1 hn
    obtain rfl : 0 = g := Option.some.inj ((show Tryz.prog.globalNamed "loop.example/g00916/impl.keywords" = some 0 by kernel_rfl).symm.trans hg)
    obtain rfl : 103 = t := Option.some.inj ((show (Tryz.prog.globals[0]?).map (·.type) = some 103 by kernel_rfl).symm.trans ht)
    exact ⟨by kernel_rfl, of_decide_eq_true (by kernel_rfl)⟩) rfl Tryz.underlying4 hW' rfl hg⟩
theorem said : Rows.FnExactValueInSaid :=
  OpenClaim.holds_of_cond 5 Tryz.f5 rfl rfl rfl rfl rfl rfl rfl ⟨rfl, rfl, rfl, rfl, rfl⟩ rfl rfl rfl rfl rfl (by kernel_rfl) Tryz.func5 (by kernel_rfl)
    (of_decide_eq_true (by kernel_rfl)) (by unfold Func.isWrapper; first | (rw [if_pos (by decide +kernel)]; kernel_rfl) | (rw [if_neg (by decide +kernel)]; exact ⟨rfl, rfl⟩))
    (fun os started H enc _ F => by rw [OpenClaim.pre_eq_preRow]; exact lifted os started H enc F)
theorem plain (f : FuncId) (fn : Func) (hf : Tryz.pinned.checked.prog.funcNamed "loop.example/g00916/laws.FnExactValueIn" = some f) (hfn : Tryz.pinned.checked.prog.funcs[f]? = some fn) :
    true = Tryz.pinned.checked.prog.looks [] ∧ ∀ (j : Nat) t, fn.params[j]? = some t → Tryz.pinned.checked.prog.wantsStandIn t = false := by
  obtain rfl : f = 5 := Option.some.inj ((show Tryz.prog.funcNamed "loop.example/g00916/laws.FnExactValueIn" = some 5 by kernel_rfl).symm.trans hf) |>.symm
  obtain rfl : fn = Tryz.f5 := (Option.some.inj (Tryz.func5.symm.trans hfn)).symm
  refine ⟨by kernel_rfl, fun j t ht => ?_⟩
  rw [Tryz.params5] at ht
  have hm : t ∈ ([25, 29, 9] : List TypeId) := by simpa using Array.mem_of_getElem? ht
  have all : (([25, 29, 9] : List TypeId).all fun t => !Tryz.prog.wantsStandIn t) = true := by kernel_rfl
  have := List.all_eq_true.1 all t hm
  show Tryz.prog.wantsStandIn t = false
  exact (Bool.not_eq_true _).mp (fun h => by rw [h] at this; cases this)
theorem card : Rows.FnExactValueInCardSaid :=
  Claim7.holds_tied_plain_at .later [] _ _ _ _ said (fun _ h => by cases h) (by kernel_rfl) (fun _ h => by cases h) fnExactValueIn_row_tie rfl ⟨rfl, rfl⟩ (by kernel_rfl) rfl plain (by kernel_rfl)
#print axioms card
end fnExactValueIn
end Go.Proofs.YtflhdijlhdckoaaGreatDoor
