/- The program's CompileProgram returns what the reference's returns, for every argument. No condition but the row's own: the table of keywords holds what the program's text lays. -/
import Derived.Test.YtadoocadohdfcaaGreatDoorRows
import Derived.Test.YtadoocadohdfcaaGreatDoorCards
import Derived.Test.YtadoocadohdfcaaGreatDoorTie
import Derived.Test.YtadoocadohdfcaaGreatDoorShape
import Derived.Test.YtadoocadohdfcaaGreatDoorMrgA
import Derived.Test.YtadoocadohdfcaaGreatDoorKeys
import Derived.Test.YtadoocadohdfcaaGreatDoorMrgB
import Derived.Test.YtadoocadohdfcaaGreatDoorMrgC
import Derived.Test.YtadoocadohdfcaaGreatDoorCompT
import Derived.Test.YtadoocadohdfcaaGreatDoorMrgD
import Derived.Test.YtadoocadohdfcaaGreatDoorRegion
import Derived.Test.YtadoocadohdfcaaGreatDoorCells
namespace Go.Proofs.YtadoocadohdfcaaGreatDoor
open Go Go.Proofs Go.RowKit Go.ChangeShapes Go.WideShapes Go.ChangeAt
set_option linter.unusedVariables false
set_option linter.unusedSimpArgs false
set_option maxRecDepth 100000
theorem blk_turned {B E b : Nat} {w w' : World} {cs : Array Value} {T : TypeId} (h : Blk w b cs T) (ht : Turned B E w w') (hb : b < B ∨ E ≤ b) : Blk w' b cs T := by
  rcases hb with hb | hb
  · exact (Below.block ht.1 b hb).trans h
  · exact (ht.2 b hb h.lt).trans h
set_option maxHeartbeats 4000000 in
theorem lawCompileProgram_any (p : ProgD) (iv vv ov lv : Value) (w : World) (hk : KW w) (hp : RdP w p iv vv ov lv) (ho : OkP p) :
    Calls Tryz.prog 3 #[valP p iv vv ov lv] w fun e w' => e = .returned (.bool true) ∧ New w w' := by
  have HK := Lib.hid hk; clear hk
  have HP := Lib.hid hp; clear hp
  have hbd := szP_bd p 1048576 (by omega)
  by_cases hz : szP p 1048576 < 0
  · go_enter Tryz.func3, Tryz.ntmps3
    go_wp2_with fail
    refine (szProgram_any p iv vv ov lv 1048576 _ (HP.out.new (by repeat (first | with_reducible exact New.refl _ | with_reducible assumption | with_reducible refine New.drew ?_ | with_reducible refine New.drewN ?_ _ | with_reducible refine New.alloc ?_ _ | with_reducible refine New.setCell ?_ (by first | (simp; done) | (simp; omega) | omega) _ | with_reducible refine New.trans ?_ (by with_reducible assumption)))) (by omega) (by omega) ho).mono ?_; rintro e w1 ⟨rfl, b1⟩
    try with_reducible replace b1 := New.undrawN b1
    try with_reducible replace b1 := New.undraw b1
    obtain ⟨c1, f1⟩ := b1.rules
    have z1 := b1.size
    try simp only [World.size_alloc, World.size_drew, World.heap_drewN, World.size_setCell] at z1
    have z1_0 : w.heap.size < w1.heap.size := by omega
    go_wp2_with fail
    go_ret
    exact ⟨rfl, (by repeat (first | with_reducible exact New.refl _ | with_reducible assumption | with_reducible refine New.drew ?_ | with_reducible refine New.drewN ?_ _ | with_reducible refine New.alloc ?_ _ | with_reducible refine New.setCell ?_ (by first | (simp; done) | (simp; omega) | omega) _ | with_reducible refine New.trans ?_ (by with_reducible assumption)))⟩
  have hf := szP_fit p 1048576 (by omega) (by omega) (by omega)
  have hcn := szP_cnt p (by omega)
  have HSP := Lib.hid (fun (q r s t : Value) (w0 : World) (h : RdP w0 p q r s t) => sCompile_any p q r s t w0 h hf)
  have HI := Lib.hid (fun (q r s t : Value) (w0 : World) (h : RdP w0 p q r s t) (k : KW w0) => iCompile_any p q r s t w0 h hf k)
  have hLL := compR_len p
  generalize compR p = R at HSP HI hLL
  obtain ⟨D, C⟩ := R
  unfold RetC17 at HSP HI
  dsimp only at HSP HI hLL
  obtain ⟨hD1, hD2⟩ := hLL
  have hCC : (C != C) = false := by simp
  have hqq : (((1 + D.blocks.length * 3 + D.steps.length * 2 : Nat) : Int) != ((1 + D.blocks.length * 3 + D.steps.length * 2 : Nat) : Int)) = false := by simp
  go_enter Tryz.func3, Tryz.ntmps3
  go_wp2_with fail
  refine (szProgram_any p iv vv ov lv 1048576 _ (HP.out.new (by repeat (first | with_reducible exact New.refl _ | with_reducible assumption | with_reducible refine New.drew ?_ | with_reducible refine New.drewN ?_ _ | with_reducible refine New.alloc ?_ _ | with_reducible refine New.setCell ?_ (by first | (simp; done) | (simp; omega) | omega) _ | with_reducible refine New.trans ?_ (by with_reducible assumption)))) (by omega) (by omega) ho).mono ?_; rintro e w1 ⟨rfl, b1⟩
  try with_reducible replace b1 := New.undrawN b1
  try with_reducible replace b1 := New.undraw b1
  obtain ⟨c1, f1⟩ := b1.rules
  have z1 := b1.size
  try simp only [World.size_alloc, World.size_drew, World.heap_drewN, World.size_setCell] at z1
  have z1_0 : w.heap.size < w1.heap.size := by omega
  go_wp2_with fail
  refine (toProgram_any p iv vv ov lv _ (HP.out.new (by repeat (first | with_reducible exact New.refl _ | with_reducible assumption | with_reducible refine New.drew ?_ | with_reducible refine New.drewN ?_ _ | with_reducible refine New.alloc ?_ _ | with_reducible refine New.setCell ?_ (by first | (simp; done) | (simp; omega) | omega) _ | with_reducible refine New.trans ?_ (by with_reducible assumption)))) hf).mono ?_; rintro e w2 ⟨i2, v2, o2, l2, rfl, b2, q2⟩
  obtain ⟨c2, f2⟩ := b2.rules
  have z2 := b2.size
  try simp only [World.size_alloc, World.size_drew, World.heap_drewN, World.size_setCell] at z2
  have z2_0 : w.heap.size < w2.heap.size := by omega
  go_wp2_with fail
  refine (HSP.out i2 v2 o2 l2 _ q2).mono ?_; rintro e w3 ⟨r3, s3, rfl, b3, ⟨o3, o3'⟩⟩
  obtain ⟨a3, k3, rfl⟩ := own_slice o3; obtain ⟨a3', k3', rfl⟩ := own_slice o3'
  obtain ⟨c3, f3⟩ := b3.rules
  have z3 := b3.size
  try simp only [World.size_alloc, World.size_drew, World.heap_drewN, World.size_setCell] at z3
  have z3_0 : w.heap.size < w3.heap.size := by omega
  go_wp2_with fail
  have R3 := Lib.hid (own_rd o3)
  have R3' := Lib.hid (own_rd o3')
  clear o3 o3'
  refine (toProgramO_any p iv vv ov lv _ (HP.out.new (by repeat (first | with_reducible exact New.refl _ | with_reducible assumption | with_reducible refine New.drew ?_ | with_reducible refine New.drewN ?_ _ | with_reducible refine New.alloc ?_ _ | with_reducible refine New.setCell ?_ (by first | (simp; done) | (simp; omega) | omega) _ | with_reducible refine New.trans ?_ (by with_reducible assumption)))) hf).mono ?_; rintro e w4 ⟨i4, v4, o4, l4, B1, B2, B3, rfl, b4, q4⟩
  obtain ⟨p1, n1, rfl, _⟩ := id q4.rd.ins; obtain ⟨p2, n2, rfl, _⟩ := id q4.rd.vars; obtain ⟨p3, n3, rfl, _⟩ := id q4.rd.outs; obtain ⟨p4, n4, rfl⟩ := id q4.rd.lines.slice
  obtain ⟨c4, f4⟩ := b4.rules
  have z4 := b4.size
  try simp only [World.size_alloc, World.size_drew, World.heap_drewN, World.size_setCell] at z4
  have z4_0 : w.heap.size < w4.heap.size := by omega
  have z4_1 : w3.heap.size < w4.heap.size := by omega
  go_wp2_with fail
  simp only [World.size_alloc, World.size_setCell] at q4
  refine (HI.out _ _ _ _ _ (q4.rd.new (by repeat (first | with_reducible exact New.refl _ | with_reducible assumption | with_reducible refine New.drew ?_ | with_reducible refine New.drewN ?_ _ | with_reducible refine New.alloc ?_ _ | with_reducible refine New.setCell ?_ (by first | (simp; done) | (simp; omega) | omega) _ | with_reducible refine New.trans ?_ (by with_reducible assumption)))) (HK.out.new (by repeat (first | with_reducible exact New.refl _ | with_reducible assumption | with_reducible refine New.drew ?_ | with_reducible refine New.drewN ?_ _ | with_reducible refine New.alloc ?_ _ | with_reducible refine New.setCell ?_ (by first | (simp; done) | (simp; omega) | omega) _ | with_reducible refine New.trans ?_ (by with_reducible assumption))))).mono ?_; rintro e w5 ⟨r5, s5, rfl, b5, ⟨o5, o5'⟩⟩
  obtain ⟨a5, k5, rfl⟩ := own_slice o5; obtain ⟨a5', k5', rfl⟩ := own_slice o5'; simp only [World.size_alloc] at o5 o5'
  obtain ⟨c5, f5⟩ := b5.rules
  have z5 := b5.size
  try simp only [World.size_alloc, World.size_drew, World.heap_drewN, World.size_setCell] at z5
  have z5_0 : w.heap.size < w5.heap.size := by omega
  have z5_1 : w3.heap.size < w5.heap.size := by omega
  have z5_2 : w4.heap.size < w5.heap.size := by omega
  go_wp2_with fail
  refine (eqCode_any D _ _ _ _ _ (Rd.new (own_rd o5) (by repeat (first | with_reducible exact New.refl _ | with_reducible assumption | with_reducible refine New.drew ?_ | with_reducible refine New.drewN ?_ _ | with_reducible refine New.alloc ?_ _ | with_reducible refine New.setCell ?_ (by first | (simp; done) | (simp; omega) | omega) _ | with_reducible refine New.trans ?_ (by with_reducible assumption)))) (Rd.new (own_rd o5') (by repeat (first | with_reducible exact New.refl _ | with_reducible assumption | with_reducible refine New.drew ?_ | with_reducible refine New.drewN ?_ _ | with_reducible refine New.alloc ?_ _ | with_reducible refine New.setCell ?_ (by first | (simp; done) | (simp; omega) | omega) _ | with_reducible refine New.trans ?_ (by with_reducible assumption)))) (Rd.new R3.out (by repeat (first | with_reducible exact New.refl _ | with_reducible assumption | with_reducible refine New.drew ?_ | with_reducible refine New.drewN ?_ _ | with_reducible refine New.alloc ?_ _ | with_reducible refine New.setCell ?_ (by first | (simp; done) | (simp; omega) | omega) _ | with_reducible refine New.trans ?_ (by with_reducible assumption)))) (Rd.new R3'.out (by repeat (first | with_reducible exact New.refl _ | with_reducible assumption | with_reducible refine New.drew ?_ | with_reducible refine New.drewN ?_ _ | with_reducible refine New.alloc ?_ _ | with_reducible refine New.setCell ?_ (by first | (simp; done) | (simp; omega) | omega) _ | with_reducible refine New.trans ?_ (by with_reducible assumption))))).mono ?_; rintro e w6 ⟨rfl, b6⟩
  try with_reducible replace b6 := New.undrawN b6
  try with_reducible replace b6 := New.undraw b6
  obtain ⟨c6, f6⟩ := b6.rules
  have z6 := b6.size
  try simp only [World.size_alloc, World.size_drew, World.heap_drewN, World.size_setCell] at z6
  have z6_0 : w.heap.size < w6.heap.size := by omega
  have z6_1 : w3.heap.size < w6.heap.size := by omega
  have z6_2 : w4.heap.size < w6.heap.size := by omega
  have z6_3 : w5.heap.size < w6.heap.size := by omega
  go_wp2_with fail
  have KX : Blk w6 w.heap.size #[.string p.name, iv, vv, ov, .string p.guard, lv] 25 := (by repeat (first | with_reducible assumption | with_reducible exact Blk.alloc_at (by first | rfl | (simp; done) | (simp; omega)) | with_reducible apply Blk.alloc | with_reducible apply Blk.drew | with_reducible apply Blk.drewN | with_reducible apply Blk.set | ((with_reducible apply Blk.set_ne); rotate_left; (focus omega)) | ((with_reducible apply Blk.dr); rotate_left; (focus (with_reducible assumption)); (focus omega)) | ((with_reducible apply Blk.new); rotate_left; (focus (with_reducible assumption)))))
  have K3 : Blk w6 w3.heap.size #[.int .i64 D.ins, .int .i64 D.vars, .int .i64 D.outs, .slice a3 D.blocks.length k3, .slice a3' D.steps.length k3'] 30 := (by repeat (first | with_reducible assumption | with_reducible exact Blk.alloc_at (by first | rfl | (simp; done) | (simp; omega)) | with_reducible apply Blk.alloc | with_reducible apply Blk.drew | with_reducible apply Blk.drewN | with_reducible apply Blk.set | ((with_reducible apply Blk.set_ne); rotate_left; (focus omega)) | ((with_reducible apply Blk.dr); rotate_left; (focus (with_reducible assumption)); (focus omega)) | ((with_reducible apply Blk.new); rotate_left; (focus (with_reducible assumption)))))
  have K4 : Blk w6 w4.heap.size #[.string p.name, .slice p1 p.inputs.length n1, .slice p2 p.vars.length n2, .slice p3 p.outputs.length n3, .string p.guard, .slice p4 p.lines.length n4] 35 := (by repeat (first | with_reducible assumption | with_reducible exact Blk.alloc_at (by first | rfl | (simp; done) | (simp; omega)) | with_reducible apply Blk.alloc | with_reducible apply Blk.drew | with_reducible apply Blk.drewN | with_reducible apply Blk.set | ((with_reducible apply Blk.set_ne); rotate_left; (focus omega)) | ((with_reducible apply Blk.dr); rotate_left; (focus (with_reducible assumption)); (focus omega)) | ((with_reducible apply Blk.new); rotate_left; (focus (with_reducible assumption)))))
  have K5 : Blk w6 w5.heap.size #[.int .i64 D.ins, .int .i64 D.vars, .int .i64 D.outs, .slice a5 D.blocks.length k5, .slice a5' D.steps.length k5'] 30 := (by repeat (first | with_reducible assumption | with_reducible exact Blk.alloc_at (by first | rfl | (simp; done) | (simp; omega)) | with_reducible apply Blk.alloc | with_reducible apply Blk.drew | with_reducible apply Blk.drewN | with_reducible apply Blk.set | ((with_reducible apply Blk.set_ne); rotate_left; (focus omega)) | ((with_reducible apply Blk.dr); rotate_left; (focus (with_reducible assumption)); (focus omega)) | ((with_reducible apply Blk.new); rotate_left; (focus (with_reducible assumption)))))
  have N03 : New w w3 := by exact (by repeat (first | with_reducible exact New.refl _ | with_reducible assumption | with_reducible refine New.drew ?_ | with_reducible refine New.drewN ?_ _ | with_reducible refine New.alloc ?_ _ | with_reducible refine New.setCell ?_ (by first | (simp; done) | (simp; omega) | omega) _ | with_reducible refine New.trans ?_ (by with_reducible assumption)))
  have N56 : New w5 w6 := ((New.refl w5).alloc _).trans b6
  have N4 := b5.trans N56
  have N46 : New w4 w6 := ((New.refl w4).alloc _).trans N4
  have N3 := b4.trans N46
  have N36 : New w3 w6 := ((New.refl w3).alloc _).trans N3
  have N06 := N03.trans N36
  clear c1 c2 c3 c4 c5 c6 f1 f2 f3 f4 f5 f6
  obtain ⟨cX, fX⟩ := KX.rules
  obtain ⟨d4, g4⟩ := K4.rules
  have HQ4 := Lib.hid q4.rd
  refine wp_facts [fun X _ => X = valP p (.slice p1 p.inputs.length n1) (.slice p2 p.vars.length n2) (.slice p3 p.outputs.length n3) (.slice p4 p.lines.length n4), fun X _ => X = valP p iv vv ov lv, fun X W' => ∃ q r s t, X = valP p q r s t ∧ RdP W' p q r s t, fun X _ => X = .bool true, fun X _ => X = .bool false] (by kernel_rfl) (by kernel_rfl) ⟨stable_eq _, stable_eq _, fun X w0 w1 hn ⟨q1, q2, q3, q4, t43, r1⟩ => ⟨q1, q2, q3, q4, t43, r1.new hn⟩, stable_eq _, stable_eq _, trivial⟩ ?_ ?_
  · refine ⟨?_, ?_, ?_, ?_, ?_, trivial⟩
    · intro a w9 hw ho hk
      have t2 := ho 6 rfl
      dsimp at t2
      try with_reducible replace hw := New.undrawN hw
      try with_reducible replace hw := New.undraw hw
      obtain ⟨c, f'⟩ := hw.rules
      go_simp
      exact New.refl _
    · intro a w9 hw ho hk
      have t2 := ho 1 rfl
      dsimp at t2
      try with_reducible replace hw := New.undrawN hw
      try with_reducible replace hw := New.undraw hw
      obtain ⟨c, f'⟩ := hw.rules
      go_simp
      exact New.refl _
    · intro a w9 hw ho hk
      have t42 : a.tmps[42]?.getD undef = valP p iv vv ov lv := hk 1 42 (by kernel_rfl) rfl
      go_simp
      refine (toProgram_any p iv vv ov lv _ (HP.out.new (N06.trans hw)) hf).mono ?_; rintro e w2 ⟨q, r, s, t, rfl, hb, o1⟩
      exact ⟨hb, _, rfl, _, _, _, _, rfl, o1⟩
    · intro a w9 hw ho hk
      have t41 : a.tmps[41]?.getD undef = valP p (.slice p1 p.inputs.length n1) (.slice p2 p.vars.length n2) (.slice p3 p.outputs.length n3) (.slice p4 p.lines.length n4) := hk 0 41 (by kernel_rfl) rfl
      obtain ⟨q1, q2, q3, q4, t43, r1⟩ : ∃ q r s t, (a.tmps[43]?.getD undef) = valP p q r s t ∧ RdP w9 p q r s t := hk 2 43 (by kernel_rfl) rfl
      go_simp
      refine (eqProgram_any p _ _ _ _ _ _ _ _ _ (RdP.new HQ4.out (N46.trans hw)) r1).mono ?_; rintro e w2 ⟨rfl, hb⟩
      first | exact ⟨hb, _, rfl, by simp⟩ | exact ⟨hb, by simp⟩
    · intro a w9 hw ho hk
      have t44 : a.tmps[44]?.getD undef = .bool true := hk 3 44 (by kernel_rfl) rfl
      go_simp
      exact New.refl _
  intro w7 b7 x0 h0 x1 h1 x2 h2 x3 h3 x4 h4
  subst h0 h1 h3 h4
  clear cX fX d4 g4
  try with_reducible replace b7 := New.undrawN b7
  try with_reducible replace b7 := New.undraw b7
  obtain ⟨c7, f7⟩ := b7.rules
  have z7 := b7.size
  try simp only [World.size_alloc, World.size_drew, World.heap_drewN, World.size_setCell] at z7
  have z7_0 : w.heap.size < w7.heap.size := by omega
  have z7_1 : w3.heap.size < w7.heap.size := by omega
  have z7_2 : w4.heap.size < w7.heap.size := by omega
  have z7_3 : w5.heap.size < w7.heap.size := by omega
  clear c7 f7
  replace KX := KX.new b7
  replace K3 := K3.new b7
  replace K4 := K4.new b7
  replace K5 := K5.new b7
  have N07 := N06.trans b7
  have N37 := N3.trans b7
  obtain ⟨c4, f4⟩ := K4.rules
  simp only [EndAll, List.nil_append, List.cons_append, List.length_cons, List.length_nil, Nat.zero_add, Nat.reduceAdd, List.take_succ_cons, List.take_zero, List.drop_succ_cons, List.drop_zero, putAll, Act.put, List.setIfInBounds_toArray, List.set_cons_succ, List.set_cons_zero]
  go_wp2_with fail
  have hu5 := own_block_lt o5
  have hv5 := own_block_lt o5'
  have o57 := own_new o5 (N56.trans b7)
  have o57' := own_new o5' (N56.trans b7)
  refine (markProgram_any p _ _ _ _ (w3.heap.size + 1) B1 B2 B3 w4 _ q4 (N46.trans b7) hf hcn).mono ?_
  rintro e w8 ⟨rfl, t8⟩
  have N38 := t8.new N37 (by simp)
  have N38' : New w3 w8 := ((New.refl w3).alloc _).trans N38
  have N08 := t8.new N07 (by omega)
  have z8 := Below.size t8.1
  replace KX := blk_turned KX t8 (.inl (by omega))
  replace K3 := blk_turned K3 t8 (.inl (by omega))
  replace K5 := blk_turned K5 t8 (.inr (by omega))
  have o58 := t8.own o57 (by omega)
  have o58' := t8.own o57' (by omega)
  clear c4 f4 K4 t8 N37 N07 o57 o57' b7 N3 N4
  obtain ⟨cX, fX⟩ := KX.rules
  obtain ⟨d3, g3⟩ := K3.rules
  obtain ⟨d5, g5⟩ := K5.rules
  have y8_0 : w.heap.size < w8.heap.size := by omega
  have y8_1 : w3.heap.size < w8.heap.size := by omega
  have y8_2 : w5.heap.size < w8.heap.size := by omega
  go_wp2_with fail
  refine (eqCode_any D _ _ _ _ _ (own_rd o58) (own_rd o58') (Rd.new R3.out N38') (Rd.new R3'.out N38')).mono ?_; rintro e w9 ⟨rfl, b9⟩
  try with_reducible replace b9 := New.undrawN b9
  try with_reducible replace b9 := New.undraw b9
  obtain ⟨c9, f9⟩ := b9.rules
  have z9 := b9.size
  try simp only [World.size_alloc, World.size_drew, World.heap_drewN, World.size_setCell] at z9
  have z9_0 : w.heap.size < w9.heap.size := by omega
  have z9_1 : w3.heap.size < w9.heap.size := by omega
  have z9_2 : w5.heap.size < w9.heap.size := by omega
  go_wp2_with fail
  have N39 := N38'.trans b9
  have o59 := own_new o58 b9
  have o59' := own_new o58' b9
  have hne9 := own_ne_ownK o59 o59' (by decide)
  refine (markCode2_any D _ _ (w4.heap.size + 1) w5.heap.size 1 _ o59 o59' hne9 (by omega) hD1 hD2 (fun k hk => (hu5 k hk).2) (fun k hk => (hv5 k hk).2) (by omega) (by omega)).mono ?_
  rintro e w10 ⟨rfl, t10, m10, m10'⟩
  have z10 := Below.size t10.1
  replace KX := blk_turned (KX.new b9) t10 (.inl (by omega))
  replace K3 := blk_turned (K3.new b9) t10 (.inl (by omega))
  replace K5 := blk_turned (K5.new b9) t10 (.inr (by omega))
  have N010 := t10.new (N08.trans b9) (by omega)
  have N310 := t10.new N39 (by omega)
  clear cX fX d3 g3 d5 g5 c9 f9 t10 o58 o58' o59 o59' hne9
  obtain ⟨cX, fX⟩ := KX.rules
  obtain ⟨d3, g3⟩ := K3.rules
  obtain ⟨d5, g5⟩ := K5.rules
  have y10_0 : w.heap.size < w10.heap.size := by omega
  have y10_1 : w3.heap.size < w10.heap.size := by omega
  have y10_2 : w5.heap.size < w10.heap.size := by omega
  have M10 := Lib.hid m10
  have M10' := Lib.hid m10'
  clear m10 m10'
  go_wp2_with fail
  refine (heldCode_any D.ins D.vars D.outs _ _ 1 D.blocks.length D.steps.length _ M10.out M10'.out (by omega) hD1 hD2).mono ?_; rintro e w11 ⟨rfl, b11⟩
  try with_reducible replace b11 := New.undrawN b11
  try with_reducible replace b11 := New.undraw b11
  obtain ⟨c11, f11⟩ := b11.rules
  have z11 := b11.size
  try simp only [World.size_alloc, World.size_drew, World.heap_drewN, World.size_setCell] at z11
  have z11_0 : w.heap.size < w11.heap.size := by omega
  have z11_1 : w3.heap.size < w11.heap.size := by omega
  have z11_2 : w5.heap.size < w11.heap.size := by omega
  go_wp2_with fail
  have N011 := N010.trans b11
  have N311 := N310.trans b11
  refine (toProgram_any p iv vv ov lv _ (HP.out.new N011) hf).mono ?_; rintro e w12 ⟨i12, v12, o12, l12, rfl, b12, q12⟩
  obtain ⟨c12, f12⟩ := b12.rules
  have z12 := b12.size
  try simp only [World.size_alloc, World.size_drew, World.heap_drewN, World.size_setCell] at z12
  have z12_0 : w.heap.size < w12.heap.size := by omega
  have z12_1 : w3.heap.size < w12.heap.size := by omega
  have z12_2 : w5.heap.size < w12.heap.size := by omega
  go_wp2_with fail
  refine (HI.out _ _ _ _ _ q12 (HK.out.new (N011.trans b12))).mono ?_; rintro e w13 ⟨r13, s13, rfl, b13, ⟨o13, o13'⟩⟩
  obtain ⟨a13, k13, rfl⟩ := own_slice o13; obtain ⟨a13', k13', rfl⟩ := own_slice o13'
  obtain ⟨c13, f13⟩ := b13.rules
  have z13 := b13.size
  try simp only [World.size_alloc, World.size_drew, World.heap_drewN, World.size_setCell] at z13
  have z13_0 : w.heap.size < w13.heap.size := by omega
  have z13_1 : w3.heap.size < w13.heap.size := by omega
  have z13_2 : w5.heap.size < w13.heap.size := by omega
  go_wp2_with fail
  have N313 := N311.trans (b12.trans b13)
  refine (eqCode_any D _ _ _ _ _ (Rd.new (own_rd o13) (by repeat (first | with_reducible exact New.refl _ | with_reducible assumption | with_reducible refine New.drew ?_ | with_reducible refine New.drewN ?_ _ | with_reducible refine New.alloc ?_ _ | with_reducible refine New.setCell ?_ (by first | (simp; done) | (simp; omega) | omega) _ | with_reducible refine New.trans ?_ (by with_reducible assumption)))) (Rd.new (own_rd o13') (by repeat (first | with_reducible exact New.refl _ | with_reducible assumption | with_reducible refine New.drew ?_ | with_reducible refine New.drewN ?_ _ | with_reducible refine New.alloc ?_ _ | with_reducible refine New.setCell ?_ (by first | (simp; done) | (simp; omega) | omega) _ | with_reducible refine New.trans ?_ (by with_reducible assumption)))) (Rd.new R3.out (N313.alloc _)) (Rd.new R3'.out (N313.alloc _))).mono ?_; rintro e w14 ⟨rfl, b14⟩
  try with_reducible replace b14 := New.undrawN b14
  try with_reducible replace b14 := New.undraw b14
  obtain ⟨c14, f14⟩ := b14.rules
  have z14 := b14.size
  try simp only [World.size_alloc, World.size_drew, World.heap_drewN, World.size_setCell] at z14
  have z14_0 : w.heap.size < w14.heap.size := by omega
  have z14_1 : w3.heap.size < w14.heap.size := by omega
  have z14_2 : w5.heap.size < w14.heap.size := by omega
  go_wp2_with fail
  have N1014 : New w10 w14 := b11.trans (b12.trans (b13.trans (((New.refl w13).alloc _).trans b14)))
  refine (heldCode_any D.ins D.vars D.outs _ _ 1 D.blocks.length D.steps.length _ (Rd.new M10.out N1014) (Rd.new M10'.out N1014) (by omega) hD1 hD2).mono ?_; rintro e w15 ⟨rfl, b15⟩
  try with_reducible replace b15 := New.undrawN b15
  try with_reducible replace b15 := New.undraw b15
  obtain ⟨c15, f15⟩ := b15.rules
  have z15 := b15.size
  try simp only [World.size_alloc, World.size_drew, World.heap_drewN, World.size_setCell] at z15
  have z15_0 : w.heap.size < w15.heap.size := by omega
  have z15_1 : w3.heap.size < w15.heap.size := by omega
  have z15_2 : w5.heap.size < w15.heap.size := by omega
  go_wp2_with fail
  go_ret
  exact ⟨rfl, (N010.trans N1014).trans b15⟩
namespace fnExactCompileProgram
theorem own : ownKnob Tryz.prog.godebug = none := by kernel_rfl
theorem reads : (Tryz.f3.params.toList.all fun t => Tryz.prog.readableRec t && decide (t < Tryz.prog.types.size)) = true := by kernel_rfl
set_option maxRecDepth 100000 in
noncomputable def laidWorld (os : Os) : World :=
  { World.holding Tryz.prog os ⟨#[], #[], []⟩ with heap := (World.holding Tryz.prog os ⟨#[], #[], []⟩).heap.modify 0 fun
      | .cells _ t frozen => .cells (keyData.map fun z => Value.string (kw z)).toArray t frozen
      | o => o }
theorem laid_met (os : Os) : laidMet Tryz.prog Rows.fnExactCompileProgramRow.laid ((laidWorld os).forCall (fun _ _ => 0) ⟨#[], #[.agg #[.string ⟨#[]⟩, .slice none 0 0, .slice none 0 0, .slice none 0 0, .string ⟨#[]⟩, .slice none 0 0]], []⟩).memory :=
  laidMet_of_run' 8 (by kernel_rfl) (by kernel_rfl)
theorem reading (os : Os) {H : Type} (enc : TypeId × Value → H) : ∃ x, DataW.whole enc Tryz.prog ((laidWorld os).forCall (fun _ _ => 0) ⟨#[], #[.agg #[.string ⟨#[]⟩, .slice none 0 0, .slice none 0 0, .slice none 0 0, .string ⟨#[]⟩, .slice none 0 0]], []⟩).memory Tryz.f3.params.toList Rows.fnExactCompileProgramSpec.vars false (#[.agg #[.string ⟨#[]⟩, .slice none 0 0, .slice none 0 0, .slice none 0 0, .string ⟨#[]⟩, .slice none 0 0]] : Array Value).toList 8 = some x :=
  Option.isSome_iff_exists.1 (by kernel_rfl)
theorem lifted (os : Os) (started : os.Started) (H : Type) (enc : TypeId × Value → H) (F : Stop.Interp) :
    ReturnsInHanded {} Tryz.checked os 3 .any ((OpenSpec.ofChange Rows.fnExactCompileProgramSpec).preRow enc Tryz.prog Tryz.f3 Rows.fnExactCompileProgramRow.domain false Rows.fnExactCompileProgramRow.laid) (((OpenSpec.ofChange Rows.fnExactCompileProgramSpec).at F).post enc Tryz.prog Tryz.f3 false true false false) := by
  obtain ⟨x, hx⟩ := reading os enc
  refine returnsInHanded_of_row (C := Tryz.checked) (s := OpenSpec.ofChange Rows.fnExactCompileProgramSpec) own started (by kernel_rfl) Tryz.func3
    (witness_row_at (enc := enc) (C := Tryz.checked) false (laidWorld os) #[.agg #[.string ⟨#[]⟩, .slice none 0 0, .slice none 0 0, .slice none 0 0, .string ⟨#[]⟩, .slice none 0 0]] rfl (by kernel_rfl) (by kernel_rfl) (by kernel_rfl)
      (OpenSpec.preRow_of_cond 8 hx (by first | rfl | kernel_rfl) (fun k hk => by cases hk) (by kernel_rfl) (laid_met os))) ?_
  intro W base args ds gs before hval0 hW _ _ _ hL _ _
  have hkw : KW W := keys_of_laid hL
  have hval : ∀ (j : Nat) t v, Tryz.f3.params[j]? = some t → args[j]? = some v → Value.okWide Tryz.prog W .any base t v := hval0
  have hW' := hW
  obtain ⟨p, q, hA0, hV, rfl, hfz, hnd⟩ := hW
  have hA : DataW.TrodAll enc Tryz.prog W 0 (fun _ => true) true Tryz.f3.params.toList args.toList ds p := hA0
  rw [Tryz.params3] at hA hval
  obtain ⟨v0, vs0, d0, ds0, p0, q0, hargs, rfl, rfl, h0, r0⟩ := trodAll_cons hA
  obtain ⟨rfl, rfl, rfl⟩ := trodAll_nil r0
  obtain rfl : args = #[v0] := by cases args; simp_all
  have o0 := hval 0 25 v0 rfl rfl
  clear hA0 hval hval0
  obtain ⟨_, _, _, _, gd, _, rfl, _, _, _, _, rfl⟩ := trodVars_one hV
  have walk : Calls Tryz.prog 3 #[v0] W fun e w' => e = .returned (.bool true) ∧ New W w' := by
    obtain ⟨p, iv, vv, ov, lv, rfl, hp, ho⟩ := openProgram h0 o0
    exact lawCompileProgram_any p iv vv ov lv W hkw hp ho
  refine walk.mono fun e W' ⟨he, hg⟩ => ?_
  subst he
  exact ⟨_, rfl, law_post laidOut (fun t ht => reads_of reads t ht) (fun n hn g t hg ht => by
    obtain rfl : n = "loop.example/g00916/impl.keywords" := List.mem_singleton.1 hn
    obtain rfl : 0 = g := Option.some.inj ((show Tryz.prog.globalNamed "loop.example/g00916/impl.keywords" = some 0 by kernel_rfl).symm.trans hg)
    obtain rfl : 121 = t := Option.some.inj ((show (Tryz.prog.globals[0]?).map (·.type) = some 121 by kernel_rfl).symm.trans ht)
    exact ⟨by kernel_rfl, of_decide_eq_true (by kernel_rfl)⟩) rfl Tryz.underlying4 hW' rfl hg⟩
theorem said : Rows.FnExactCompileProgramSaid :=
  OpenClaim.holds_of_cond 3 Tryz.f3 rfl rfl rfl rfl rfl rfl rfl ⟨rfl, rfl, rfl, rfl, rfl⟩ rfl rfl rfl rfl rfl (by kernel_rfl) Tryz.func3 (by kernel_rfl)
    (of_decide_eq_true (by kernel_rfl)) (by unfold Func.isWrapper; first | (rw [if_pos (by decide +kernel)]; kernel_rfl) | (rw [if_neg (by decide +kernel)]; exact ⟨rfl, rfl⟩))
    (fun os started H enc _ F => by rw [OpenClaim.pre_eq_preRow]; exact lifted os started H enc F)
theorem plain (f : FuncId) (fn : Func) (hf : Tryz.pinned.checked.prog.funcNamed "loop.example/g00916/laws.FnExactCompileProgram" = some f) (hfn : Tryz.pinned.checked.prog.funcs[f]? = some fn) :
    false = Tryz.pinned.checked.prog.looks [] ∧ ∀ (j : Nat) t, fn.params[j]? = some t → Tryz.pinned.checked.prog.wantsStandIn t = false := by
  obtain rfl : f = 3 := Option.some.inj ((show Tryz.prog.funcNamed "loop.example/g00916/laws.FnExactCompileProgram" = some 3 by kernel_rfl).symm.trans hf) |>.symm
  obtain rfl : fn = Tryz.f3 := (Option.some.inj (Tryz.func3.symm.trans hfn)).symm
  refine ⟨by kernel_rfl, fun j t ht => ?_⟩
  rw [Tryz.params3] at ht
  have hm : t ∈ ([25] : List TypeId) := by simpa using Array.mem_of_getElem? ht
  have all : (([25] : List TypeId).all fun t => !Tryz.prog.wantsStandIn t) = true := by kernel_rfl
  have := List.all_eq_true.1 all t hm
  show Tryz.prog.wantsStandIn t = false
  exact (Bool.not_eq_true _).mp (fun h => by rw [h] at this; cases this)
theorem card : Rows.FnExactCompileProgramCardSaid :=
  Claim7.holds_tied_plain_at .later [] _ _ _ _ said (fun _ h => by cases h) (by kernel_rfl) (fun _ h => by cases h) fnExactCompileProgram_row_tie rfl ⟨rfl, rfl⟩ (by kernel_rfl) rfl plain (by kernel_rfl)
#print axioms card
end fnExactCompileProgram
end Go.Proofs.YtadoocadohdfcaaGreatDoor
