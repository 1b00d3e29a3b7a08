/- The program's BrakesIn returns what the reference's returns, for every argument. No condition. -/
import Derived.Test.YtinkhjjeflhagaaRows
import Derived.Test.YtinkhjjeflhagaaOpenLay
import Derived.Test.YtinkhjjeflhagaaFacts
import Derived.Test.YtinkhjjeflhagaaBrkI
import Derived.Test.YtinkhjjeflhagaaSegM
import Derived.Test.YtinkhjjeflhagaaRegion
import Derived.Test.YtinkhjjeflhagaaCells
import Derived.Test.YtinkhjjeflhagaaLaunch
namespace Go.Proofs.Ytinkhjjeflhagaa
open Go Go.Proofs Go.RowKit Go.ChangeShapes Go.WideShapes Go.ChangeAt
set_option linter.unusedVariables false
set_option linter.unusedSimpArgs false
set_option maxRecDepth 100000
theorem brkR_len (xs : List ESegment) (f c : Int) (h : xs.length ≤ 1048576) : (brkR xs f c).1.length ≤ 1048576 := by
  have := brkS_len xs f c xs.length
  rw [brkR]
  split
  · split
    · show (brkS xs f c xs.length).length ≤ 1048576; omega
    · simp
  · simp
set_option maxHeartbeats 1000000 in
theorem lawBrakesIn_any (v : Value) (xs : List ESegment) (f c : Int) (w : World) (hv : RdG w v xs) :
    Calls Try.prog 3 #[.agg #[v], .int .i64 f, .int .i64 c] w fun e w' => e = .returned (.bool true) ∧ New w w' := by
  have HV := Lib.hid hv; clear hv
  have hbd := szL_range (n := xs.length) (left := 1048576) (B := 1048576) (by omega) (by omega)
  by_cases hz : szL xs.length 1048576 < 0
  · go_enter Try.func3, Try.ntmps3
    go_wp2_with fail
    refine (szLayout_any v xs 1048576 _ (Rd.new HV.out (by repeat (first | with_reducible exact New.refl _ | with_reducible assumption | with_reducible refine New.drew ?_ | with_reducible refine New.drewN ?_ _ | with_reducible refine New.alloc ?_ _ | with_reducible refine New.setCell ?_ (by first | (simp; done) | (simp; omega) | omega) _ | with_reducible refine New.trans ?_ (by with_reducible assumption)))) (by omega) (by omega)).mono ?_; rintro e w1 ⟨rfl, b1⟩
    try with_reducible replace b1 := New.undrawN b1
    try with_reducible replace b1 := New.undraw b1
    obtain ⟨c1, f1⟩ := b1.rules
    have z1 := b1.size
    try simp only [World.size_alloc, World.size_drew, World.heap_drewN, World.size_setCell] at z1
    have z1_0 : w.heap.size < w1.heap.size := by omega
    go_wp2_with fail
    go_ret
    exact ⟨rfl, (by repeat (first | with_reducible exact New.refl _ | with_reducible assumption | with_reducible refine New.drew ?_ | with_reducible refine New.drewN ?_ _ | with_reducible refine New.alloc ?_ _ | with_reducible refine New.setCell ?_ (by first | (simp; done) | (simp; omega) | omega) _ | with_reducible refine New.trans ?_ (by with_reducible assumption)))⟩
  obtain ⟨hl1, hle⟩ := szL_bd (Int.not_lt.1 hz)
  have hlx : xs.length ≤ 1048576 := by omega
  clear hl1 hle
  have HSP := Lib.hid (fun (p : Value) (w0 : World) (h1 : RdG w0 p xs) => sBrakesIn_any p xs f c w0 h1)
  have HI := Lib.hid (fun (p : Value) (w0 : World) (h1 : RdG w0 p xs) => iBrakesIn_any p xs f c w0 h1 hlx)
  have hLL := brkR_len xs f c hlx
  generalize brkR xs f c = R at HSP HI hLL
  obtain ⟨L, C⟩ := R
  dsimp only at HSP HI hLL
  have hCC : (C != C) = false := by simp
  go_enter Try.func3, Try.ntmps3
  go_wp2_with fail
  refine (szLayout_any v xs 1048576 _ (Rd.new HV.out (by repeat (first | with_reducible exact New.refl _ | with_reducible assumption | with_reducible refine New.drew ?_ | with_reducible refine New.drewN ?_ _ | with_reducible refine New.alloc ?_ _ | with_reducible refine New.setCell ?_ (by first | (simp; done) | (simp; omega) | omega) _ | with_reducible refine New.trans ?_ (by with_reducible assumption)))) (by omega) (by omega)).mono ?_; rintro e w1 ⟨rfl, b1⟩
  try with_reducible replace b1 := New.undrawN b1
  try with_reducible replace b1 := New.undraw b1
  obtain ⟨c1, f1⟩ := b1.rules
  have z1 := b1.size
  try simp only [World.size_alloc, World.size_drew, World.heap_drewN, World.size_setCell] at z1
  have z1_0 : w.heap.size < w1.heap.size := by omega
  go_wp2_with fail
  refine (toLayout_any v xs _ (Rd.new HV.out (by repeat (first | with_reducible exact New.refl _ | with_reducible assumption | with_reducible refine New.drew ?_ | with_reducible refine New.drewN ?_ _ | with_reducible refine New.alloc ?_ _ | with_reducible refine New.setCell ?_ (by first | (simp; done) | (simp; omega) | omega) _ | with_reducible refine New.trans ?_ (by with_reducible assumption)))) hlx).mono ?_; rintro e w2 ⟨r2, rfl, b2, o2⟩
  obtain ⟨c2, f2⟩ := b2.rules
  have z2 := b2.size
  try simp only [World.size_alloc, World.size_drew, World.heap_drewN, World.size_setCell] at z2
  have z2_0 : w.heap.size < w2.heap.size := by omega
  go_wp2_with fail
  refine (HSP.out _ _ (own_rd o2)).mono ?_; rintro e w3 ⟨r3, rfl, b3, o3⟩
  obtain ⟨c3, f3⟩ := b3.rules
  have z3 := b3.size
  try simp only [World.size_alloc, World.size_drew, World.heap_drewN, World.size_setCell] at z3
  have z3_0 : w.heap.size < w3.heap.size := by omega
  go_wp2_with fail
  refine (toLayout_any v xs _ (Rd.new HV.out (by repeat (first | with_reducible exact New.refl _ | with_reducible assumption | with_reducible refine New.drew ?_ | with_reducible refine New.drewN ?_ _ | with_reducible refine New.alloc ?_ _ | with_reducible refine New.setCell ?_ (by first | (simp; done) | (simp; omega) | omega) _ | with_reducible refine New.trans ?_ (by with_reducible assumption)))) hlx).mono ?_; rintro e w4 ⟨r4, rfl, b4, o4⟩
  obtain ⟨ra, rc, rfl⟩ := own_slice o4
  obtain ⟨c4, f4⟩ := b4.rules
  have z4 := b4.size
  try simp only [World.size_alloc, World.size_drew, World.heap_drewN, World.size_setCell] at z4
  have z4_0 : w.heap.size < w4.heap.size := by omega
  go_wp2_with fail
  refine (HI.out _ _ (Rd.new (own_rd o4) (by repeat (first | with_reducible exact New.refl _ | with_reducible assumption | with_reducible refine New.drew ?_ | with_reducible refine New.drewN ?_ _ | with_reducible refine New.alloc ?_ _ | with_reducible refine New.setCell ?_ (by first | (simp; done) | (simp; omega) | omega) _ | with_reducible refine New.trans ?_ (by with_reducible assumption))))).mono ?_; rintro e w5 ⟨r5, rfl, b5, o5⟩
  obtain ⟨c5, f5⟩ := b5.rules
  have z5 := b5.size
  try simp only [World.size_alloc, World.size_drew, World.heap_drewN, World.size_setCell] at z5
  have z5_0 : w.heap.size < w5.heap.size := by omega
  have z5_1 : w4.heap.size < w5.heap.size := by omega
  go_wp2_with fail
  refine (eqInt64S_any _ _ L L _ (own_rd o5) (RdI.new (own_rd o3) (by repeat (first | with_reducible exact New.refl _ | with_reducible assumption | with_reducible refine New.drew ?_ | with_reducible refine New.drewN ?_ _ | with_reducible refine New.alloc ?_ _ | with_reducible refine New.setCell ?_ (by first | (simp; done) | (simp; omega) | omega) _ | with_reducible refine New.trans ?_ (by with_reducible assumption))))).mono ?_; rintro e w6 ⟨rfl, n6, rfl⟩
  go_wp2_with fail
  have k80 : w5.cell? ⟨w4.heap.size, 0, none⟩ = some (.slice ra xs.length rc) := by simp (disch := first | (simp only [World.size_alloc, World.size_drew, World.size_setCell]; omega) | omega | (simp; done) | (simp; omega)) only [c5, c4, c3, c2, c1, cell_alloc_old, cell_alloc_new, World.cell?_drewN, World.cell?_drew]; first | done | rfl | (simp; done)
  have k10 : w5.cell? ⟨w.heap.size, 0, none⟩ = some (v) := by simp (disch := first | (simp only [World.size_alloc, World.size_drew, World.size_setCell]; omega) | omega | (simp; done) | (simp; omega)) only [c5, c4, c3, c2, c1, cell_alloc_old, cell_alloc_new, World.cell?_drewN, World.cell?_drew]; first | done | rfl | (simp; done)
  refine wp_facts [fun X _ => X = .agg #[.slice ra xs.length rc], fun X _ => X = .agg #[v], fun X W' => ∃ p, X = .agg #[p] ∧ RdG W' p xs, fun X _ => X = .bool true, fun X _ => X = .bool false] (by kernel_rfl) (by kernel_rfl) ⟨stable_eq _, stable_eq _, fun X w0 w1 hn ⟨q1, t51, r1⟩ => ⟨q1, t51, r1.new hn⟩, stable_eq _, stable_eq _, trivial⟩ ?_ ?_
  · refine ⟨?_, ?_, ?_, ?_, ?_, trivial⟩
    · intro a w9 hw ho hk
      have t2 := ho 10 rfl
      dsimp at t2
      try with_reducible replace hw := New.undrawN hw
      try with_reducible replace hw := New.undraw hw
      obtain ⟨c, f'⟩ := hw.rules
      go_simp
      exact New.refl _
    · intro a w9 hw ho hk
      have t2 := ho 3 rfl
      dsimp at t2
      try with_reducible replace hw := New.undrawN hw
      try with_reducible replace hw := New.undraw hw
      obtain ⟨c, f'⟩ := hw.rules
      go_simp
      exact New.refl _
    · intro a w9 hw ho hk
      have t50 : a.tmps[50]?.getD undef = .agg #[v] := hk 1 50 (by kernel_rfl) rfl
      go_simp
      refine (toLayout_any v xs _ (Rd.new HV.out (by repeat (first | with_reducible exact New.refl _ | with_reducible assumption | with_reducible refine New.drew ?_ | with_reducible refine New.drewN ?_ _ | with_reducible refine New.alloc ?_ _ | with_reducible refine New.setCell ?_ (by first | (simp; done) | (simp; omega) | omega) _ | with_reducible refine New.trans ?_ (by with_reducible assumption)))) hlx).mono ?_; rintro e w2 ⟨p, rfl, hb, ow⟩
      exact ⟨hb, _, rfl, _, rfl, own_rd ow⟩
    · intro a w9 hw ho hk
      have t49 : a.tmps[49]?.getD undef = .agg #[.slice ra xs.length rc] := hk 0 49 (by kernel_rfl) rfl
      obtain ⟨q1, t51, r1⟩ : ∃ p, (a.tmps[51]?.getD undef) = .agg #[p] ∧ RdG w9 p xs := hk 2 51 (by kernel_rfl) rfl
      go_simp
      refine (eqLayout_any _ _ xs xs _ (Rd.new (own_rd o4) (by repeat (first | with_reducible exact New.refl _ | with_reducible assumption | with_reducible refine New.drew ?_ | with_reducible refine New.drewN ?_ _ | with_reducible refine New.alloc ?_ _ | with_reducible refine New.setCell ?_ (by first | (simp; done) | (simp; omega) | omega) _ | with_reducible refine New.trans ?_ (by with_reducible assumption)))) r1).mono ?_; rintro e w2 ⟨rfl, hb⟩
      first | exact ⟨hb, _, rfl, by simp⟩ | exact ⟨hb, by simp⟩
    · intro a w9 hw ho hk
      have t52 : a.tmps[52]?.getD undef = .bool true := hk 3 52 (by kernel_rfl) rfl
      go_simp
      exact New.refl _
  intro w7 b7 x0 h0 x1 h1 x2 h2 x3 h3 x4 h4
  subst h0 h1 h3 h4
  try with_reducible replace b7 := New.undrawN b7
  try with_reducible replace b7 := New.undraw b7
  obtain ⟨c7, f7⟩ := b7.rules
  have z7 := b7.size
  try simp only [World.size_alloc, World.size_drew, World.heap_drewN, World.size_setCell] at z7
  have z7_0 : w.heap.size < w7.heap.size := by omega
  have z7_1 : w4.heap.size < w7.heap.size := by omega
  have hvb := own_block_lt o4
  have m80 : w7.cell? ⟨w4.heap.size, 0, none⟩ = some (.slice ra xs.length rc) := by simp (disch := first | (simp only [World.size_alloc, World.size_drew, World.size_setCell]; omega) | omega | (simp; done) | (simp; omega)) only [c7, k80, cell_alloc_old, cell_alloc_new, World.cell?_drewN, World.cell?_drew]; first | done | rfl | (simp; done)
  simp only [EndAll, List.nil_append, List.cons_append, List.length_cons, List.length_nil, Nat.zero_add, Nat.reduceAdd, List.take_succ_cons, List.take_zero, List.drop_succ_cons, List.drop_zero, putAll, Act.put, List.setIfInBounds_toArray, List.set_cons_succ, List.set_cons_zero]
  go_wp2_with fail
  have o47 := own_new o4 (show New w4 w7 by exact (by repeat (first | with_reducible exact New.refl _ | with_reducible assumption | with_reducible refine New.drew ?_ | with_reducible refine New.drewN ?_ _ | with_reducible refine New.alloc ?_ _ | with_reducible refine New.setCell ?_ (by first | (simp; done) | (simp; omega) | omega) _ | with_reducible refine New.trans ?_ (by with_reducible assumption))))
  have o57 := own_new o5 b7
  simp only [World.size_alloc] at o57
  refine (markLayout_any _ xs w3.heap.size w4.heap.size 1 _ o47 hlx (by omega) (fun k hk => (hvb k hk).2) (by omega)).mono ?_
  rintro e w8 ⟨rfl, t8⟩
  have b8 : New w3 w8 := t8.new (by repeat (first | with_reducible exact New.refl _ | with_reducible assumption | with_reducible refine New.drew ?_ | with_reducible refine New.drewN ?_ _ | with_reducible refine New.alloc ?_ _ | with_reducible refine New.setCell ?_ (by first | (simp; done) | (simp; omega) | omega) _ | with_reducible refine New.trans ?_ (by with_reducible assumption))) (Nat.le_refl _)
  have o58 := t8.own o57 (by omega)
  obtain ⟨c8, f8⟩ := b8.rules
  have z8 := b8.size
  have z8_0 : w.heap.size < w8.heap.size := by omega
  clear c7 f7 b7
  go_wp2_with fail
  refine (eqInt64S_any _ _ L L _ (own_rd o58) (own_rd (own_new o3 b8))).mono ?_; rintro e w9 ⟨rfl, n9, rfl⟩
  go_wp2_with fail
  refine (markInt64S_any _ L _ 1 _ (own_new o58 (New.drewN (New.refl _) _)) hLL (by omega)).mono ?_
  rintro e w10 ⟨rfl, on10, own10⟩
  have b10 : New w3 w10 := on10.new (b8.drewN n9) (fun k hk => by have := (own_block_lt o58 k hk).1; omega)
  obtain ⟨c10, f10⟩ := b10.rules
  have z10 := b10.size
  have z10_0 : w.heap.size < w10.heap.size := by omega
  have rd10 : RdI w10 r5 (marks 1 L.length) := by have := own_rd own10; rwa [RdI, marks_length]
  clear c8 f8 on10
  go_wp2_with fail
  refine (heldInt64S_any _ 1 L.length _ rd10 hLL (by omega)).mono ?_; rintro e w11 ⟨rfl, rfl⟩
  go_wp2_with fail
  refine (toLayout_any v xs _ (Rd.new HV.out (by repeat (first | with_reducible exact New.refl _ | with_reducible assumption | with_reducible refine New.drew ?_ | with_reducible refine New.drewN ?_ _ | with_reducible refine New.alloc ?_ _ | with_reducible refine New.setCell ?_ (by first | (simp; done) | (simp; omega) | omega) _ | with_reducible refine New.trans ?_ (by with_reducible assumption)))) hlx).mono ?_; rintro e w12 ⟨r12, rfl, b12, o12⟩
  obtain ⟨c12, f12⟩ := b12.rules
  have z12 := b12.size
  try simp only [World.size_alloc, World.size_drew, World.heap_drewN, World.size_setCell] at z12
  have z12_0 : w.heap.size < w12.heap.size := by omega
  go_wp2_with fail
  refine (HI.out _ _ (own_rd o12)).mono ?_; rintro e w13 ⟨r13, rfl, b13, o13⟩
  obtain ⟨c13, f13⟩ := b13.rules
  have z13 := b13.size
  try simp only [World.size_alloc, World.size_drew, World.heap_drewN, World.size_setCell] at z13
  have z13_0 : w.heap.size < w13.heap.size := by omega
  go_wp2_with fail
  refine (eqInt64S_any _ _ L L _ (own_rd o13) (RdI.new (own_rd o3) (by repeat (first | with_reducible exact New.refl _ | with_reducible assumption | with_reducible refine New.drew ?_ | with_reducible refine New.drewN ?_ _ | with_reducible refine New.alloc ?_ _ | with_reducible refine New.setCell ?_ (by first | (simp; done) | (simp; omega) | omega) _ | with_reducible refine New.trans ?_ (by with_reducible assumption))))).mono ?_; rintro e w14 ⟨rfl, n14, rfl⟩
  go_wp2_with fail
  refine (heldInt64S_any _ 1 L.length _ (rd10.new (by repeat (first | with_reducible exact New.refl _ | with_reducible assumption | with_reducible refine New.drew ?_ | with_reducible refine New.drewN ?_ _ | with_reducible refine New.alloc ?_ _ | with_reducible refine New.setCell ?_ (by first | (simp; done) | (simp; omega) | omega) _ | with_reducible refine New.trans ?_ (by with_reducible assumption)))) hLL (by omega)).mono ?_; rintro e w15 ⟨rfl, rfl⟩
  go_wp2_with fail
  go_ret
  exact ⟨rfl, (by repeat (first | with_reducible exact New.refl _ | with_reducible assumption | with_reducible refine New.drew ?_ | with_reducible refine New.drewN ?_ _ | with_reducible refine New.alloc ?_ _ | with_reducible refine New.setCell ?_ (by first | (simp; done) | (simp; omega) | omega) _ | with_reducible refine New.trans ?_ (by with_reducible assumption)))⟩
namespace fnExactBrakesIn
theorem own : ownKnob Try.prog.godebug = none := by kernel_rfl
theorem reads : (Try.f3.params.toList.all fun t => Try.prog.readableRec t && decide (t < Try.prog.types.size)) = true := by kernel_rfl
set_option maxRecDepth 100000 in
theorem lifted (os : Os) (started : os.Started) (H : Type) (enc : TypeId × Value → H) :
    ReturnsInHanded {} Try.checked os 3 .any (Rows.fnExactBrakesInSpec.pre6 enc Try.prog Try.f3 Rows.fnExactBrakesInRow.domain false) (Rows.fnExactBrakesInSpec.post enc Try.prog Try.f3 false true false false) := by
  refine returnsInHanded_of_change (C := Try.checked) own started (by kernel_rfl) Try.func3
    (ChangeSpec.witness6 (enc := enc) (C := Try.checked) false ⟨#[], #[.agg #[.slice none 0 0], .int .i64 0, .int .i64 0], []⟩ 8 (by kernel_rfl) (by kernel_rfl) (by kernel_rfl) (by kernel_rfl)) ?_
  intro W base args ds gs before hval0 hW hcnd _
  have hval : ∀ (j : Nat) t v, Try.f3.params[j]? = some t → args[j]? = some v → Value.okWide Try.prog W .any base t v := hval0
  have hW' := hW
  obtain ⟨p, q, hA0, hV, rfl, hfz, hnd⟩ := hW
  have hA : DataW.TrodAll enc Try.prog W 0 (fun _ => true) true Try.f3.params.toList args.toList ds p := hA0
  rw [Try.params3] at hA hval
  obtain ⟨v0, vs0, d0, ds0, p0, q0, hargs, rfl, rfl, h0, r0⟩ := trodAll_cons hA
  obtain ⟨v1, vs1, d1, ds1, p1, q1, rfl, rfl, rfl, h1, r1⟩ := trodAll_cons r0
  obtain ⟨v2, vs2, d2, ds2, p2, q2, rfl, rfl, rfl, h2, r2⟩ := trodAll_cons r1
  obtain ⟨rfl, rfl, rfl⟩ := trodAll_nil r2
  obtain rfl : args = #[v0, v1, v2] := by cases args; simp_all
  have o0 := hval 0 24 v0 rfl rfl
  have o1 := hval 1 2 v1 rfl rfl
  have o2 := hval 2 2 v2 rfl rfl
  clear hA0 hval hval0
  obtain ⟨rfl, rfl⟩ := trodVars_none hV
  have walk : Calls Try.prog 3 #[v0, v1, v2] W fun e w' => e = .returned (.bool true) ∧ New W w' := by
    obtain ⟨s, xs, rfl, hs⟩ := openLayout h0 o0
    obtain ⟨f, rfl⟩ := okWide_int Try.underlying2 o1
    obtain ⟨c, rfl⟩ := okWide_int Try.underlying2 o2
    exact lawBrakesIn_any s xs f c W hs
  refine walk.mono fun e W' ⟨he, hg⟩ => ?_
  subst he
  exact ⟨_, rfl, law_post laidOut (fun t ht => reads_of reads t ht) (fun n hn => by cases hn) rfl Try.underlying4 hW' rfl hg⟩
theorem proved : Rows.FnExactBrakesInSaid :=
  OpenClaim.holds_of_wide 3 Try.f3 rfl rfl rfl rfl rfl rfl rfl ⟨rfl, rfl, rfl, rfl, rfl⟩ rfl rfl rfl rfl rfl (by kernel_rfl) Try.func3 (by kernel_rfl)
    (of_decide_eq_true (by kernel_rfl)) (by unfold Func.isWrapper; first | (rw [if_pos (by decide +kernel)]; kernel_rfl) | (rw [if_neg (by decide +kernel)]; exact ⟨rfl, rfl⟩))
    (fun os started H enc _ => lifted os started H enc)
#print axioms proved
end fnExactBrakesIn
end Go.Proofs.Ytinkhjjeflhagaa
