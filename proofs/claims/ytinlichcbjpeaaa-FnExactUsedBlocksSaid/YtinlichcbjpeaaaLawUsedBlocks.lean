/- The program's UsedBlocks returns what the reference's returns, for every argument. No condition. -/
import Derived.Test.YtinlichcbjpeaaaRows
import Derived.Test.YtinlichcbjpeaaaOpens
import Derived.Test.YtinlichcbjpeaaaFacts
import Derived.Test.YtinlichcbjpeaaaTrafI
import Derived.Test.YtinlichcbjpeaaaPermitted
import Derived.Test.YtinlichcbjpeaaaRegion
import Derived.Test.YtinlichcbjpeaaaCells
namespace Go.Proofs.Ytinlichcbjpeaaa
open Go Go.Proofs Go.RowKit Go.ChangeShapes Go.WideShapes Go.ChangeAt
set_option linter.unusedVariables false
set_option linter.unusedSimpArgs false
set_option maxRecDepth 100000
set_option maxHeartbeats 4000000 in
theorem lawUsedBlocks_any (b : Int) (s : Value) (ps : List Int) (t0 : Int) (w : World) (hv : RdI w s ps) :
    Calls Try.prog 5 #[.agg #[.int .i64 b, s], .int .i64 t0] w fun e w' => e = .returned (.bool true) ∧ New w w' := by
  have HV := Lib.hid hv; clear hv
  have hbd := szL_range (n := ps.length) (left := 1048576) (B := 1048576) (by omega) (by omega)
  by_cases hsz : szL ps.length 1048576 < 0
  · go_enter Try.func5, Try.ntmps5
    go_wp2_with fail
    refine (szTraffic_any b s ps.length _ 1048576 _ (HV.out.new (by repeat (first | with_reducible exact New.refl _ | with_reducible assumption | with_reducible refine New.drew ?_ | with_reducible refine New.drewN ?_ _ | with_reducible refine New.alloc ?_ _ | with_reducible refine New.setCell ?_ (by first | (simp; done) | (simp; omega) | omega) _ | with_reducible refine New.trans ?_ (by with_reducible assumption)))) (by omega) (by omega)).mono ?_; rintro e w1 ⟨rfl, b1⟩
    try replace b1 := New.undrawN b1
    try replace b1 := New.undraw b1
    obtain ⟨c1, f1⟩ := b1.rules
    have z1 := b1.size
    try simp only [World.size_alloc, World.size_drew, World.heap_drewN, World.size_setCell] at z1
    have z1_0 : w.heap.size < w1.heap.size := by omega
    go_wp2_with fail
    go_ret
    exact ⟨rfl, (by repeat (first | with_reducible exact New.refl _ | with_reducible assumption | with_reducible refine New.drew ?_ | with_reducible refine New.drewN ?_ _ | with_reducible refine New.alloc ?_ _ | with_reducible refine New.setCell ?_ (by first | (simp; done) | (simp; omega) | omega) _ | with_reducible refine New.trans ?_ (by with_reducible assumption)))⟩
  obtain ⟨hl, hle⟩ := szL_bd (Int.not_lt.1 hsz)
  have hlp : ps.length ≤ 1048576 := by omega
  clear hle
  have HSP := Lib.hid (fun (q : Value) (w0 : World) (h : RdI w0 q ps) => sUsedR_any b q ps t0 w0 h)
  have HI := Lib.hid (fun (q : Value) (w0 : World) (h : RdI w0 q ps) => iUsedR_any b q ps t0 w0 h)
  have hLL : (usedR b ps t0).1.length ≤ 1048576 := by rw [usedR]; split; (rename_i h; have h1 := (isTraf_ok h).1; split; exact Nat.le_trans (usedTo_len _ _ _) (by omega); simp); simp
  generalize usedR b ps t0 = R at HSP HI hLL
  obtain ⟨L, C⟩ := R
  dsimp only at HSP HI hLL
  have hCC : (C != C) = false := by simp
  go_enter Try.func5, Try.ntmps5
  go_wp2_with fail
  refine (szTraffic_any b s ps.length _ 1048576 _ (HV.out.new (by repeat (first | with_reducible exact New.refl _ | with_reducible assumption | with_reducible refine New.drew ?_ | with_reducible refine New.drewN ?_ _ | with_reducible refine New.alloc ?_ _ | with_reducible refine New.setCell ?_ (by first | (simp; done) | (simp; omega) | omega) _ | with_reducible refine New.trans ?_ (by with_reducible assumption)))) (by omega) (by omega)).mono ?_; rintro e w1 ⟨rfl, b1⟩
  try replace b1 := New.undrawN b1
  try replace b1 := New.undraw b1
  obtain ⟨c1, f1⟩ := b1.rules
  have z1 := b1.size
  try simp only [World.size_alloc, World.size_drew, World.heap_drewN, World.size_setCell] at z1
  have z1_0 : w.heap.size < w1.heap.size := by omega
  go_wp2_with fail
  refine (toTraffic_any b s ps _ (HV.out.new (by repeat (first | with_reducible exact New.refl _ | with_reducible assumption | with_reducible refine New.drew ?_ | with_reducible refine New.drewN ?_ _ | with_reducible refine New.alloc ?_ _ | with_reducible refine New.setCell ?_ (by first | (simp; done) | (simp; omega) | omega) _ | with_reducible refine New.trans ?_ (by with_reducible assumption)))) hlp).mono ?_; rintro e w2 ⟨v2, rfl, b2, o2⟩
  obtain ⟨c2, f2⟩ := b2.rules
  have z2 := b2.size
  try simp only [World.size_alloc, World.size_drew, World.heap_drewN, World.size_setCell] at z2
  have z2_0 : w.heap.size < w2.heap.size := by omega
  go_wp2_with fail
  refine (HSP.out v2 _ (own_rd o2)).mono ?_; rintro e w3 ⟨r3, rfl, b3, o3⟩
  obtain ⟨c3, f3⟩ := b3.rules
  have z3 := b3.size
  try simp only [World.size_alloc, World.size_drew, World.heap_drewN, World.size_setCell] at z3
  have z3_0 : w.heap.size < w3.heap.size := by omega
  go_wp2_with fail
  refine (toTraffic_any b s ps _ (HV.out.new (by repeat (first | with_reducible exact New.refl _ | with_reducible assumption | with_reducible refine New.drew ?_ | with_reducible refine New.drewN ?_ _ | with_reducible refine New.alloc ?_ _ | with_reducible refine New.setCell ?_ (by first | (simp; done) | (simp; omega) | omega) _ | with_reducible refine New.trans ?_ (by with_reducible assumption)))) hlp).mono ?_; rintro e w4 ⟨v4, rfl, b4, o4⟩
  obtain ⟨ra, rc, rfl⟩ := own_slice o4
  obtain ⟨c4, f4⟩ := b4.rules
  have z4 := b4.size
  try simp only [World.size_alloc, World.size_drew, World.heap_drewN, World.size_setCell] at z4
  have z4_0 : w.heap.size < w4.heap.size := by omega
  go_wp2_with fail
  refine (HI.out _ _ (RdI.new (own_rd o4) (by repeat (first | with_reducible exact New.refl _ | with_reducible assumption | with_reducible refine New.drew ?_ | with_reducible refine New.drewN ?_ _ | with_reducible refine New.alloc ?_ _ | with_reducible refine New.setCell ?_ (by first | (simp; done) | (simp; omega) | omega) _ | with_reducible refine New.trans ?_ (by with_reducible assumption))))).mono ?_; rintro e w5 ⟨r5, rfl, b5, o5⟩
  obtain ⟨c5, f5⟩ := b5.rules
  have z5 := b5.size
  try simp only [World.size_alloc, World.size_drew, World.heap_drewN, World.size_setCell] at z5
  have z5_0 : w.heap.size < w5.heap.size := by omega
  have z5_1 : w4.heap.size < w5.heap.size := by omega
  go_wp2_with fail
  refine (eqInt64S_any _ _ L L _ (own_rd o5) (RdI.new (own_rd o3) (by repeat (first | with_reducible exact New.refl _ | with_reducible assumption | with_reducible refine New.drew ?_ | with_reducible refine New.drewN ?_ _ | with_reducible refine New.alloc ?_ _ | with_reducible refine New.setCell ?_ (by first | (simp; done) | (simp; omega) | omega) _ | with_reducible refine New.trans ?_ (by with_reducible assumption))))).mono ?_; rintro e w6 ⟨rfl, n6, rfl⟩
  go_wp2_with fail
  have HO4 := Lib.hid (own_rd o4)
  have hpb := own_block_lt o4
  have k0 : w5.cell? ⟨w4.heap.size, 0, none⟩ = some (.int .i64 b) := by simp (disch := first | (simp only [World.size_alloc, World.size_drew, World.size_setCell]; omega) | omega | (simp; done) | (simp; omega)) only [c5, c4, c3, c2, c1, cell_alloc_old, cell_alloc_new, World.cell?_drewN, World.cell?_drew]; first | done | rfl | (simp; done)
  have k1 : w5.cell? ⟨w4.heap.size, 1, none⟩ = some (.slice ra ps.length rc) := by simp (disch := first | (simp only [World.size_alloc, World.size_drew, World.size_setCell]; omega) | omega | (simp; done) | (simp; omega)) only [c5, c4, c3, c2, c1, cell_alloc_old, cell_alloc_new, World.cell?_drewN, World.cell?_drew]; first | done | rfl | (simp; done)
  have j0 : w5.cell? ⟨w.heap.size, 0, none⟩ = some (.int .i64 b) := by simp (disch := first | (simp only [World.size_alloc, World.size_drew, World.size_setCell]; omega) | omega | (simp; done) | (simp; omega)) only [c5, c4, c3, c2, c1, cell_alloc_old, cell_alloc_new, World.cell?_drewN, World.cell?_drew]; first | done | rfl | (simp; done)
  have j1 : w5.cell? ⟨w.heap.size, 1, none⟩ = some (s) := by simp (disch := first | (simp only [World.size_alloc, World.size_drew, World.size_setCell]; omega) | omega | (simp; done) | (simp; omega)) only [c5, c4, c3, c2, c1, cell_alloc_old, cell_alloc_new, World.cell?_drewN, World.cell?_drew]; first | done | rfl | (simp; done)
  refine wp_facts [fun X _ => X = .agg #[.int .i64 b, .slice ra ps.length rc], fun X _ => X = .agg #[.int .i64 b, s], fun X W' => ∃ q, X = .agg #[.int .i64 b, q] ∧ RdI W' q ps, fun X _ => X = .bool true, fun X _ => X = .bool false] (by kernel_rfl) (by kernel_rfl) ⟨stable_eq _, stable_eq _, fun X w0 w1 hn ⟨q1, t47, r1⟩ => ⟨q1, t47, r1.new hn⟩, stable_eq _, stable_eq _, trivial⟩ ?_ ?_
  · refine ⟨?_, ?_, ?_, ?_, ?_, trivial⟩
    · intro a w9 hw ho hk
      have t2 := ho 8 rfl
      dsimp at t2
      try with_reducible replace hw := New.undrawN hw
      try with_reducible replace hw := New.undraw hw
      obtain ⟨c, f'⟩ := hw.rules
      go_simp
      exact New.refl _
    · intro a w9 hw ho hk
      have t2 := ho 2 rfl
      dsimp at t2
      try with_reducible replace hw := New.undrawN hw
      try with_reducible replace hw := New.undraw hw
      obtain ⟨c, f'⟩ := hw.rules
      go_simp
      exact New.refl _
    · intro a w9 hw ho hk
      have t46 : a.tmps[46]?.getD undef = .agg #[.int .i64 b, s] := hk 1 46 (by kernel_rfl) rfl
      go_simp
      refine (toTraffic_any b s ps _ (HV.out.new (by repeat (first | with_reducible exact New.refl _ | with_reducible assumption | with_reducible refine New.drew ?_ | with_reducible refine New.drewN ?_ _ | with_reducible refine New.alloc ?_ _ | with_reducible refine New.setCell ?_ (by first | (simp; done) | (simp; omega) | omega) _ | with_reducible refine New.trans ?_ (by with_reducible assumption)))) hlp).mono ?_; rintro e w2 ⟨q, rfl, hb, o1⟩
      exact ⟨hb, _, rfl, _, rfl, own_rd o1⟩
    · intro a w9 hw ho hk
      have t45 : a.tmps[45]?.getD undef = .agg #[.int .i64 b, .slice ra ps.length rc] := hk 0 45 (by kernel_rfl) rfl
      obtain ⟨q1, t47, r1⟩ : ∃ q, (a.tmps[47]?.getD undef) = .agg #[.int .i64 b, q] ∧ RdI w9 q ps := hk 2 47 (by kernel_rfl) rfl
      go_simp
      refine (eqTraffic_any b b _ _ ps ps _ (RdI.new HO4.out (by repeat (first | with_reducible exact New.refl _ | with_reducible assumption | with_reducible refine New.drew ?_ | with_reducible refine New.drewN ?_ _ | with_reducible refine New.alloc ?_ _ | with_reducible refine New.setCell ?_ (by first | (simp; done) | (simp; omega) | omega) _ | with_reducible refine New.trans ?_ (by with_reducible assumption)))) r1).mono ?_; rintro e w2 ⟨rfl, hb⟩
      first | exact ⟨hb, _, rfl, by simp⟩ | exact ⟨hb, by simp⟩
    · intro a w9 hw ho hk
      have t48 : a.tmps[48]?.getD undef = .bool true := hk 3 48 (by kernel_rfl) rfl
      go_simp
      exact New.refl _
  intro w7 b7 x0 h0 x1 h1 x2 h2 x3 h3 x4 h4
  subst h0 h1 h3 h4
  try with_reducible replace b7 := New.undrawN b7
  try with_reducible replace b7 := New.undraw b7
  obtain ⟨c7, f7⟩ := b7.rules
  have z7 := b7.size
  try simp only [World.size_alloc, World.size_drew, World.heap_drewN, World.size_setCell] at z7
  have z7_0 : w.heap.size < w7.heap.size := by omega
  have z7_1 : w4.heap.size < w7.heap.size := by omega
  have m0 : w7.cell? ⟨w4.heap.size, 0, none⟩ = some (.int .i64 b) := by simp (disch := first | (simp only [World.size_alloc, World.size_drew, World.size_setCell]; omega) | omega | (simp; done) | (simp; omega)) only [c7, k0, cell_alloc_old, cell_alloc_new, World.cell?_drewN, World.cell?_drew]; first | done | rfl | (simp; done)
  have m1 : w7.cell? ⟨w4.heap.size, 1, none⟩ = some (.slice ra ps.length rc) := by simp (disch := first | (simp only [World.size_alloc, World.size_drew, World.size_setCell]; omega) | omega | (simp; done) | (simp; omega)) only [c7, k1, cell_alloc_old, cell_alloc_new, World.cell?_drewN, World.cell?_drew]; first | done | rfl | (simp; done)
  simp only [EndAll, List.nil_append, List.cons_append, List.length_cons, List.length_nil, Nat.zero_add, Nat.reduceAdd, List.take_succ_cons, List.take_zero, List.drop_succ_cons, List.drop_zero, putAll, Act.put, List.setIfInBounds_toArray, List.set_cons_succ, List.set_cons_zero]
  go_wp2_with fail
  have o57 := own_new o5 (show New w5 w7 by exact (by repeat (first | with_reducible exact New.refl _ | with_reducible assumption | with_reducible refine New.drew ?_ | with_reducible refine New.drewN ?_ _ | with_reducible refine New.alloc ?_ _ | with_reducible refine New.setCell ?_ (by first | (simp; done) | (simp; omega) | omega) _ | with_reducible refine New.trans ?_ (by with_reducible assumption))))
  simp only [World.size_alloc] at o57
  refine (markTraffic_any b _ ps w3.heap.size w4.heap.size 1 _ (own_new o4 (show New w4 _ by exact (by repeat (first | with_reducible exact New.refl _ | with_reducible assumption | with_reducible refine New.drew ?_ | with_reducible refine New.drewN ?_ _ | with_reducible refine New.alloc ?_ _ | with_reducible refine New.setCell ?_ (by first | (simp; done) | (simp; omega) | omega) _ | with_reducible refine New.trans ?_ (by with_reducible assumption))))) (by omega) hlp (fun k hk => (hpb k hk).2) (by omega)).mono ?_
  rintro e w8 ⟨rfl, t8⟩
  have b8 : New w3 w8 := t8.new (by repeat (first | with_reducible exact New.refl _ | with_reducible assumption | with_reducible refine New.drew ?_ | with_reducible refine New.drewN ?_ _ | with_reducible refine New.alloc ?_ _ | with_reducible refine New.setCell ?_ (by first | (simp; done) | (simp; omega) | omega) _ | with_reducible refine New.trans ?_ (by with_reducible assumption))) (Nat.le_refl _)
  have o58 := t8.own o57 (by omega)
  obtain ⟨c8, f8⟩ := b8.rules
  have z8 := b8.size
  have z8_0 : w.heap.size < w8.heap.size := by omega
  clear c7 f7 b7
  go_wp2_with fail
  refine (eqInt64S_any _ _ L L _ (own_rd o58) (own_rd (own_new o3 b8))).mono ?_; rintro e w9 ⟨rfl, n9, rfl⟩
  go_wp2_with fail
  refine (markInt64S_any _ L _ 1 _ (own_new o58 (New.drewN (New.refl _) _)) hLL (by omega)).mono ?_
  rintro e w10 ⟨rfl, on10, own10⟩
  have b10 : New w3 w10 := on10.new (b8.drewN n9) (fun k hk => by have := (own_block_lt o58 k hk).1; omega)
  obtain ⟨c10, f10⟩ := b10.rules
  have z10 := b10.size
  have z10_0 : w.heap.size < w10.heap.size := by omega
  have rd10 : RdI w10 r5 (marks 1 L.length) := by have := own_rd own10; rwa [RdI, marks_length]
  clear c8 f8 on10
  go_wp2_with fail
  refine (heldInt64S_any _ 1 L.length _ rd10 hLL (by omega)).mono ?_; rintro e w11 ⟨rfl, rfl⟩
  go_wp2_with fail
  refine (toTraffic_any b s ps _ (HV.out.new (by repeat (first | with_reducible exact New.refl _ | with_reducible assumption | with_reducible refine New.drew ?_ | with_reducible refine New.drewN ?_ _ | with_reducible refine New.alloc ?_ _ | with_reducible refine New.setCell ?_ (by first | (simp; done) | (simp; omega) | omega) _ | with_reducible refine New.trans ?_ (by with_reducible assumption)))) hlp).mono ?_; rintro e w12 ⟨v12, rfl, b12, o12⟩
  obtain ⟨c12, f12⟩ := b12.rules
  have z12 := b12.size
  try simp only [World.size_alloc, World.size_drew, World.heap_drewN, World.size_setCell] at z12
  have z12_0 : w.heap.size < w12.heap.size := by omega
  go_wp2_with fail
  refine (HI.out v12 _ (own_rd o12)).mono ?_; rintro e w13 ⟨r13, rfl, b13, o13⟩
  obtain ⟨c13, f13⟩ := b13.rules
  have z13 := b13.size
  try simp only [World.size_alloc, World.size_drew, World.heap_drewN, World.size_setCell] at z13
  have z13_0 : w.heap.size < w13.heap.size := by omega
  go_wp2_with fail
  refine (eqInt64S_any _ _ L L _ (own_rd o13) (RdI.new (own_rd o3) (by repeat (first | with_reducible exact New.refl _ | with_reducible assumption | with_reducible refine New.drew ?_ | with_reducible refine New.drewN ?_ _ | with_reducible refine New.alloc ?_ _ | with_reducible refine New.setCell ?_ (by first | (simp; done) | (simp; omega) | omega) _ | with_reducible refine New.trans ?_ (by with_reducible assumption))))).mono ?_; rintro e w14 ⟨rfl, n14, rfl⟩
  go_wp2_with fail
  refine (heldInt64S_any _ 1 L.length _ (rd10.new (by repeat (first | with_reducible exact New.refl _ | with_reducible assumption | with_reducible refine New.drew ?_ | with_reducible refine New.drewN ?_ _ | with_reducible refine New.alloc ?_ _ | with_reducible refine New.setCell ?_ (by first | (simp; done) | (simp; omega) | omega) _ | with_reducible refine New.trans ?_ (by with_reducible assumption)))) hLL (by omega)).mono ?_; rintro e w15 ⟨rfl, rfl⟩
  go_wp2_with fail
  go_ret
  exact ⟨rfl, (by repeat (first | with_reducible exact New.refl _ | with_reducible assumption | with_reducible refine New.drew ?_ | with_reducible refine New.drewN ?_ _ | with_reducible refine New.alloc ?_ _ | with_reducible refine New.setCell ?_ (by first | (simp; done) | (simp; omega) | omega) _ | with_reducible refine New.trans ?_ (by with_reducible assumption)))⟩
namespace fnExactUsedBlocks
theorem own : ownKnob Try.prog.godebug = none := by kernel_rfl
theorem reads : (Try.f5.params.toList.all fun t => Try.prog.readableRec t && decide (t < Try.prog.types.size)) = true := by kernel_rfl
set_option maxRecDepth 100000 in
theorem lifted (os : Os) (started : os.Started) (H : Type) (enc : TypeId × Value → H) :
    ReturnsInHanded {} Try.checked os 5 .any (Rows.fnExactUsedBlocksSpec.pre6 enc Try.prog Try.f5 Rows.fnExactUsedBlocksRow.domain false) (Rows.fnExactUsedBlocksSpec.post enc Try.prog Try.f5 false true false false) := by
  refine returnsInHanded_of_change (C := Try.checked) own started (by kernel_rfl) Try.func5
    (ChangeSpec.witness6 (enc := enc) (C := Try.checked) false ⟨#[], #[.agg #[.int .i64 0, .slice none 0 0], .int .i64 0], []⟩ 8 (by kernel_rfl) (by kernel_rfl) (by kernel_rfl) (by kernel_rfl)) ?_
  intro W base args ds gs before hval0 hW hcnd _
  have hval : ∀ (j : Nat) t v, Try.f5.params[j]? = some t → args[j]? = some v → Value.okWide Try.prog W .any base t v := hval0
  have hW' := hW
  obtain ⟨p, q, hA0, hV, rfl, hfz, hnd⟩ := hW
  have hA : DataW.TrodAll enc Try.prog W 0 (fun _ => true) true Try.f5.params.toList args.toList ds p := hA0
  rw [Try.params5] at hA hval
  obtain ⟨v0, vs0, d0, ds0, p0, q0, hargs, rfl, rfl, h0, r0⟩ := trodAll_cons hA
  obtain ⟨v1, vs1, d1, ds1, p1, q1, rfl, rfl, rfl, h1, r1⟩ := trodAll_cons r0
  obtain ⟨rfl, rfl, rfl⟩ := trodAll_nil r1
  obtain rfl : args = #[v0, v1] := by cases args; simp_all
  have o0 := hval 0 38 v0 rfl rfl
  have o1 := hval 1 2 v1 rfl rfl
  clear hA0 hval hval0
  obtain ⟨rfl, rfl⟩ := trodVars_none hV
  have walk : Calls Try.prog 5 #[v0, v1] W fun e w' => e = .returned (.bool true) ∧ New W w' := by
    obtain ⟨b, s, ps, rfl, hps⟩ := openTraffic h0 o0
    obtain ⟨t0, rfl⟩ := okWide_int Try.underlying2 o1
    exact lawUsedBlocks_any b s ps t0 W hps
  refine walk.mono fun e W' ⟨he, hg⟩ => ?_
  subst he
  exact ⟨_, rfl, law_post laidOut (fun t ht => reads_of reads t ht) (fun n hn => by cases hn) rfl Try.underlying4 hW' rfl hg⟩
theorem proved : Rows.FnExactUsedBlocksSaid :=
  OpenClaim.holds_of_wide 5 Try.f5 rfl rfl rfl rfl rfl rfl rfl ⟨rfl, rfl, rfl, rfl, rfl⟩ rfl rfl rfl rfl rfl (by kernel_rfl) Try.func5 (by kernel_rfl)
    (of_decide_eq_true (by kernel_rfl)) (by unfold Func.isWrapper; first | (rw [if_pos (by decide +kernel)]; kernel_rfl) | (rw [if_neg (by decide +kernel)]; exact ⟨rfl, rfl⟩))
    (fun os started H enc _ => lifted os started H enc)
#print axioms proved
end fnExactUsedBlocks
end Go.Proofs.Ytinlichcbjpeaaa
