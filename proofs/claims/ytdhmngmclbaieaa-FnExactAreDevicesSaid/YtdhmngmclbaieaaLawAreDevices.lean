/- The program's AreDevices returns what the reference's returns, for every argument. No condition. -/
import Derived.Test.YtdhmngmclbaieaaRows
import Derived.Test.YtdhmngmclbaieaaOpenLay
import Derived.Test.YtdhmngmclbaieaaFacts
import Derived.Test.YtdhmngmclbaieaaDevices3
import Derived.Test.YtdhmngmclbaieaaRegion
import Derived.Test.YtdhmngmclbaieaaCells
namespace Go.Proofs.Ytdhmngmclbaieaa
open Go Go.Proofs Go.RowKit Go.ChangeShapes Go.WideShapes Go.ChangeAt
set_option linter.unusedVariables false
set_option linter.unusedSimpArgs false
set_option maxRecDepth 100000
set_option maxHeartbeats 1000000 in
theorem lawAreDevices_any (v o : Value) (xs : List ESegment) (on : List Int) (w : World) (hv : RdG w v xs) (ho : RdI w o on) :
    Calls Try.prog 10 #[.agg #[v], o] w fun e w' => e = .returned (.bool true) ∧ New w w' := by
  have HV := Lib.hid hv; clear hv
  have HO := Lib.hid ho
  obtain ⟨oa, oc, rfl, _⟩ := id ho
  clear ho
  by_cases h0 : (1048576 : Int) < on.length
  · go_enter Try.func10, Try.ntmps10
    go_wp2_with fail
    go_ret
    exact ⟨rfl, (by repeat (first | with_reducible exact New.refl _ | with_reducible assumption | with_reducible refine New.drew ?_ | with_reducible refine New.drewN ?_ _ | with_reducible refine New.alloc ?_ _ | with_reducible refine New.setCell ?_ (by first | (simp; done) | (simp; omega) | omega) _ | with_reducible refine New.trans ?_ (by with_reducible assumption)))⟩
  have hlo : on.length ≤ 1048576 := by omega
  have hbd := szL_range (n := xs.length) (left := 1048576) (B := 1048576) (by omega) (by omega)
  by_cases hz : szL xs.length 1048576 < 0
  · go_enter Try.func10, Try.ntmps10
    go_wp2_with fail
    refine (szLayout_any v xs 1048576 _ (Rd.new HV.out (by repeat (first | with_reducible exact New.refl _ | with_reducible assumption | with_reducible refine New.drew ?_ | with_reducible refine New.drewN ?_ _ | with_reducible refine New.alloc ?_ _ | with_reducible refine New.setCell ?_ (by first | (simp; done) | (simp; omega) | omega) _ | with_reducible refine New.trans ?_ (by with_reducible assumption)))) (by omega) (by omega)).mono ?_; rintro e w1 ⟨rfl, b1⟩
    try replace b1 := New.undrawN b1
    try replace b1 := New.undraw b1
    obtain ⟨c1, f1⟩ := b1.rules
    have z1 := b1.size
    try simp only [World.size_alloc, World.size_drew, World.heap_drewN, World.size_setCell] at z1
    have z1_0 : w.heap.size < w1.heap.size := by omega
    go_wp2_with fail
    go_ret
    exact ⟨rfl, (by repeat (first | with_reducible exact New.refl _ | with_reducible assumption | with_reducible refine New.drew ?_ | with_reducible refine New.drewN ?_ _ | with_reducible refine New.alloc ?_ _ | with_reducible refine New.setCell ?_ (by first | (simp; done) | (simp; omega) | omega) _ | with_reducible refine New.trans ?_ (by with_reducible assumption)))⟩
  obtain ⟨hl1, hle⟩ := szL_bd (Int.not_lt.1 hz)
  have hlx : xs.length ≤ 1048576 := by omega
  clear hl1 hle
  go_enter Try.func10, Try.ntmps10
  go_wp2_with fail
  refine (szLayout_any v xs 1048576 _ (Rd.new HV.out (by repeat (first | with_reducible exact New.refl _ | with_reducible assumption | with_reducible refine New.drew ?_ | with_reducible refine New.drewN ?_ _ | with_reducible refine New.alloc ?_ _ | with_reducible refine New.setCell ?_ (by first | (simp; done) | (simp; omega) | omega) _ | with_reducible refine New.trans ?_ (by with_reducible assumption)))) (by omega) (by omega)).mono ?_; rintro e w1 ⟨rfl, b1⟩
  try replace b1 := New.undrawN b1
  try replace b1 := New.undraw b1
  obtain ⟨c1, f1⟩ := b1.rules
  have z1 := b1.size
  try simp only [World.size_alloc, World.size_drew, World.heap_drewN, World.size_setCell] at z1
  have z1_0 : w.heap.size < w1.heap.size := by omega
  go_wp2_with fail
  refine (toLayout_any v xs _ (Rd.new HV.out (by repeat (first | with_reducible exact New.refl _ | with_reducible assumption | with_reducible refine New.drew ?_ | with_reducible refine New.drewN ?_ _ | with_reducible refine New.alloc ?_ _ | with_reducible refine New.setCell ?_ (by first | (simp; done) | (simp; omega) | omega) _ | with_reducible refine New.trans ?_ (by with_reducible assumption)))) hlx).mono ?_; rintro e w2 ⟨r2, rfl, b2, o2⟩
  obtain ⟨c2, f2⟩ := b2.rules
  have z2 := b2.size
  try simp only [World.size_alloc, World.size_drew, World.heap_drewN, World.size_setCell] at z2
  have z2_0 : w.heap.size < w2.heap.size := by omega
  go_wp2_with fail
  refine (toInt64S_any _ on _ (RdI.new HO.out (by repeat (first | with_reducible exact New.refl _ | with_reducible assumption | with_reducible refine New.drew ?_ | with_reducible refine New.drewN ?_ _ | with_reducible refine New.alloc ?_ _ | with_reducible refine New.setCell ?_ (by first | (simp; done) | (simp; omega) | omega) _ | with_reducible refine New.trans ?_ (by with_reducible assumption)))) hlo).mono ?_; rintro e w3 ⟨r3, rfl, b3, o3⟩
  obtain ⟨c3, f3⟩ := b3.rules
  have z3 := b3.size
  try simp only [World.size_alloc, World.size_drew, World.heap_drewN, World.size_setCell] at z3
  have z3_0 : w.heap.size < w3.heap.size := by omega
  go_wp2_with fail
  refine (sAreDevices_any r2 r3 xs on _ (Rd.new (own_rd o2) (by repeat (first | with_reducible exact New.refl _ | with_reducible assumption | with_reducible refine New.drew ?_ | with_reducible refine New.drewN ?_ _ | with_reducible refine New.alloc ?_ _ | with_reducible refine New.setCell ?_ (by first | (simp; done) | (simp; omega) | omega) _ | with_reducible refine New.trans ?_ (by with_reducible assumption)))) (own_rd o3) hlo).mono ?_; rintro e w4 ⟨rfl, b4⟩
  try replace b4 := New.undrawN b4
  try replace b4 := New.undraw b4
  obtain ⟨c4, f4⟩ := b4.rules
  have z4 := b4.size
  try simp only [World.size_alloc, World.size_drew, World.heap_drewN, World.size_setCell] at z4
  have z4_0 : w.heap.size < w4.heap.size := by omega
  go_wp2_with fail
  refine (toLayout_any v xs _ (Rd.new HV.out (by repeat (first | with_reducible exact New.refl _ | with_reducible assumption | with_reducible refine New.drew ?_ | with_reducible refine New.drewN ?_ _ | with_reducible refine New.alloc ?_ _ | with_reducible refine New.setCell ?_ (by first | (simp; done) | (simp; omega) | omega) _ | with_reducible refine New.trans ?_ (by with_reducible assumption)))) hlx).mono ?_; rintro e w5 ⟨r5, rfl, b5, o5⟩
  obtain ⟨ra, rc, rfl⟩ := own_slice o5
  obtain ⟨c5, f5⟩ := b5.rules
  have z5 := b5.size
  try simp only [World.size_alloc, World.size_drew, World.heap_drewN, World.size_setCell] at z5
  have z5_0 : w.heap.size < w5.heap.size := by omega
  go_wp2_with fail
  refine (toInt64S_any _ on _ (RdI.new HO.out (by repeat (first | with_reducible exact New.refl _ | with_reducible assumption | with_reducible refine New.drew ?_ | with_reducible refine New.drewN ?_ _ | with_reducible refine New.alloc ?_ _ | with_reducible refine New.setCell ?_ (by first | (simp; done) | (simp; omega) | omega) _ | with_reducible refine New.trans ?_ (by with_reducible assumption)))) hlo).mono ?_; rintro e w6 ⟨r6, rfl, b6, o6⟩
  obtain ⟨c6, f6⟩ := b6.rules
  have z6 := b6.size
  try simp only [World.size_alloc, World.size_drew, World.heap_drewN, World.size_setCell] at z6
  have z6_0 : w.heap.size < w6.heap.size := by omega
  have z6_1 : w5.heap.size < w6.heap.size := by omega
  go_wp2_with fail
  refine (iAreDevices_any _ r6 xs on _ (Rd.new (own_rd o5) (by repeat (first | with_reducible exact New.refl _ | with_reducible assumption | with_reducible refine New.drew ?_ | with_reducible refine New.drewN ?_ _ | with_reducible refine New.alloc ?_ _ | with_reducible refine New.setCell ?_ (by first | (simp; done) | (simp; omega) | omega) _ | with_reducible refine New.trans ?_ (by with_reducible assumption)))) (own_rd o6) hlo hlx).mono ?_; rintro e w7 ⟨rfl, b7⟩
  try replace b7 := New.undrawN b7
  try replace b7 := New.undraw b7
  obtain ⟨c7, f7⟩ := b7.rules
  have z7 := b7.size
  try simp only [World.size_alloc, World.size_drew, World.heap_drewN, World.size_setCell] at z7
  have z7_0 : w.heap.size < w7.heap.size := by omega
  have z7_1 : w5.heap.size < w7.heap.size := by omega
  go_wp2_with fail
  have k7 : w7.cell? ⟨w5.heap.size, 0, none⟩ = some (.slice ra xs.length rc) := by simp (disch := first | (simp only [World.size_alloc, World.size_drew, World.size_setCell]; omega) | omega | (simp; done) | (simp; omega)) only [c7, c6, c5, c4, c3, c2, c1, cell_alloc_old, cell_alloc_new, World.cell?_drewN, World.cell?_drew]; first | done | rfl | (simp; done)
  have k2 : w7.cell? ⟨w.heap.size, 0, none⟩ = some (v) := by simp (disch := first | (simp only [World.size_alloc, World.size_drew, World.size_setCell]; omega) | omega | (simp; done) | (simp; omega)) only [c7, c6, c5, c4, c3, c2, c1, cell_alloc_old, cell_alloc_new, World.cell?_drewN, World.cell?_drew]; first | done | rfl | (simp; done)
  refine wp_facts [fun X _ => X = .agg #[.slice ra xs.length rc], fun X _ => X = .agg #[v], fun X W' => ∃ p, X = .agg #[p] ∧ RdG W' p xs, fun X _ => X = .bool true, fun X _ => X = .bool false] (by kernel_rfl) (by kernel_rfl) ⟨stable_eq _, stable_eq _, fun X w0 w1 hn ⟨q1, t35, r1⟩ => ⟨q1, t35, r1.new hn⟩, stable_eq _, stable_eq _, trivial⟩ ?_ ?_
  · refine ⟨?_, ?_, ?_, ?_, ?_, trivial⟩
    · intro a w9 hw ho hk
      have t2 := ho 7 rfl
      dsimp at t2
      try with_reducible replace hw := New.undrawN hw
      try with_reducible replace hw := New.undraw hw
      obtain ⟨c, f'⟩ := hw.rules
      go_simp
      exact New.refl _
    · intro a w9 hw ho hk
      have t2 := ho 2 rfl
      dsimp at t2
      try with_reducible replace hw := New.undrawN hw
      try with_reducible replace hw := New.undraw hw
      obtain ⟨c, f'⟩ := hw.rules
      go_simp
      exact New.refl _
    · intro a w9 hw ho hk
      have t34 : a.tmps[34]?.getD undef = .agg #[v] := hk 1 34 (by kernel_rfl) rfl
      go_simp
      refine (toLayout_any v xs _ (Rd.new HV.out (by repeat (first | with_reducible exact New.refl _ | with_reducible assumption | with_reducible refine New.drew ?_ | with_reducible refine New.drewN ?_ _ | with_reducible refine New.alloc ?_ _ | with_reducible refine New.setCell ?_ (by first | (simp; done) | (simp; omega) | omega) _ | with_reducible refine New.trans ?_ (by with_reducible assumption)))) hlx).mono ?_; rintro e w2 ⟨p, rfl, hb, ow⟩
      exact ⟨hb, _, rfl, _, rfl, own_rd ow⟩
    · intro a w9 hw ho hk
      have t33 : a.tmps[33]?.getD undef = .agg #[.slice ra xs.length rc] := hk 0 33 (by kernel_rfl) rfl
      obtain ⟨q1, t35, r1⟩ : ∃ p, (a.tmps[35]?.getD undef) = .agg #[p] ∧ RdG w9 p xs := hk 2 35 (by kernel_rfl) rfl
      go_simp
      refine (eqLayout_any _ _ xs xs _ (Rd.new (own_rd o5) (by repeat (first | with_reducible exact New.refl _ | with_reducible assumption | with_reducible refine New.drew ?_ | with_reducible refine New.drewN ?_ _ | with_reducible refine New.alloc ?_ _ | with_reducible refine New.setCell ?_ (by first | (simp; done) | (simp; omega) | omega) _ | with_reducible refine New.trans ?_ (by with_reducible assumption)))) r1).mono ?_; rintro e w2 ⟨rfl, hb⟩
      first | exact ⟨hb, _, rfl, by simp⟩ | exact ⟨hb, by simp⟩
    · intro a w9 hw ho hk
      have t36 : a.tmps[36]?.getD undef = .bool true := hk 3 36 (by kernel_rfl) rfl
      go_simp
      exact New.refl _
  intro w8 b8 x0 h0 x1 h1 x2 h2 x3 h3 x4 h4
  subst h0 h1 h3 h4
  try with_reducible replace b8 := New.undrawN b8
  try with_reducible replace b8 := New.undraw b8
  obtain ⟨c8, f8⟩ := b8.rules
  have z8 := b8.size
  try simp only [World.size_alloc, World.size_drew, World.heap_drewN, World.size_setCell] at z8
  have z8_0 : w.heap.size < w8.heap.size := by omega
  simp only [EndAll, List.nil_append, List.cons_append, List.length_cons, List.length_nil, Nat.zero_add, Nat.reduceAdd, List.take_succ_cons, List.take_zero, List.drop_succ_cons, List.drop_zero, putAll, Act.put, List.setIfInBounds_toArray, List.set_cons_succ, List.set_cons_zero]
  go_wp2_with fail
  refine (toInt64S_any _ on _ (RdI.new HO.out (by repeat (first | with_reducible exact New.refl _ | with_reducible assumption | with_reducible refine New.drew ?_ | with_reducible refine New.drewN ?_ _ | with_reducible refine New.alloc ?_ _ | with_reducible refine New.setCell ?_ (by first | (simp; done) | (simp; omega) | omega) _ | with_reducible refine New.trans ?_ (by with_reducible assumption)))) hlo).mono ?_; rintro e w9 ⟨r9, rfl, b9, o9⟩
  obtain ⟨c9, f9⟩ := b9.rules
  have z9 := b9.size
  try simp only [World.size_alloc, World.size_drew, World.heap_drewN, World.size_setCell] at z9
  have z9_0 : w.heap.size < w9.heap.size := by omega
  go_wp2_with fail
  refine (eqInt64S_any _ _ on on _ (RdI.new (own_rd o6) (by repeat (first | with_reducible exact New.refl _ | with_reducible assumption | with_reducible refine New.drew ?_ | with_reducible refine New.drewN ?_ _ | with_reducible refine New.alloc ?_ _ | with_reducible refine New.setCell ?_ (by first | (simp; done) | (simp; omega) | omega) _ | with_reducible refine New.trans ?_ (by with_reducible assumption)))) (own_rd o9)).mono ?_; rintro e w10 ⟨rfl, n10, rfl⟩
  go_wp2_with fail
  go_ret
  exact ⟨rfl, (by repeat (first | with_reducible exact New.refl _ | with_reducible assumption | with_reducible refine New.drew ?_ | with_reducible refine New.drewN ?_ _ | with_reducible refine New.alloc ?_ _ | with_reducible refine New.setCell ?_ (by first | (simp; done) | (simp; omega) | omega) _ | with_reducible refine New.trans ?_ (by with_reducible assumption)))⟩
namespace fnExactAreDevices
theorem own : ownKnob Try.prog.godebug = none := by kernel_rfl
theorem reads : (Try.f10.params.toList.all fun t => Try.prog.readableRec t && decide (t < Try.prog.types.size)) = true := by kernel_rfl
set_option maxRecDepth 100000 in
theorem lifted (os : Os) (started : os.Started) (H : Type) (enc : TypeId × Value → H) :
    ReturnsInHanded {} Try.checked os 10 .any (Rows.fnExactAreDevicesSpec.pre6 enc Try.prog Try.f10 Rows.fnExactAreDevicesRow.domain false) (Rows.fnExactAreDevicesSpec.post enc Try.prog Try.f10 false true false false) := by
  refine returnsInHanded_of_change (C := Try.checked) own started (by kernel_rfl) Try.func10
    (ChangeSpec.witness6 (enc := enc) (C := Try.checked) false ⟨#[], #[.agg #[.slice none 0 0], .slice none 0 0], []⟩ 8 (by kernel_rfl) (by kernel_rfl) (by kernel_rfl) (by kernel_rfl)) ?_
  intro W base args ds gs before hval0 hW hcnd _
  have hval : ∀ (j : Nat) t v, Try.f10.params[j]? = some t → args[j]? = some v → Value.okWide Try.prog W .any base t v := hval0
  have hW' := hW
  obtain ⟨p, q, hA0, hV, rfl, hfz, hnd⟩ := hW
  have hA : DataW.TrodAll enc Try.prog W 0 (fun _ => true) true Try.f10.params.toList args.toList ds p := hA0
  rw [Try.params10] at hA hval
  obtain ⟨v0, vs0, d0, ds0, p0, q0, hargs, rfl, rfl, h0, r0⟩ := trodAll_cons hA
  obtain ⟨v1, vs1, d1, ds1, p1, q1, rfl, rfl, rfl, h1, r1⟩ := trodAll_cons r0
  obtain ⟨rfl, rfl, rfl⟩ := trodAll_nil r1
  obtain rfl : args = #[v0, v1] := by cases args; simp_all
  have o0 := hval 0 66 v0 rfl rfl
  have o1 := hval 1 22 v1 rfl rfl
  clear hA0 hval hval0
  obtain ⟨rfl, rfl⟩ := trodVars_none hV
  have walk : Calls Try.prog 10 #[v0, v1] W fun e w' => e = .returned (.bool true) ∧ New W w' := by
    obtain ⟨s, xs, rfl, hs⟩ := openLayout h0 o0
    obtain ⟨a1, n1, k1, rfl⟩ := okWide_slice Try.underlying22 o1
    obtain ⟨on, hon⟩ := rdI_of_sh (Sh.is_of_trod (show Sh.of Try.prog 5 22 = some (.slice .int) by kernel_rfl) h1)
    exact lawAreDevices_any s _ xs on W hs hon
  refine walk.mono fun e W' ⟨he, hg⟩ => ?_
  subst he
  exact ⟨_, rfl, law_post laidOut (fun t ht => reads_of reads t ht) (fun n hn => by cases hn) rfl Try.underlying4 hW' rfl hg⟩
theorem proved : Rows.FnExactAreDevicesSaid :=
  OpenClaim.holds_of_wide 10 Try.f10 rfl rfl rfl rfl rfl rfl rfl ⟨rfl, rfl, rfl, rfl, rfl⟩ rfl rfl rfl rfl rfl (by kernel_rfl) Try.func10 (by kernel_rfl)
    (of_decide_eq_true (by kernel_rfl)) (by unfold Func.isWrapper; first | (rw [if_pos (by decide +kernel)]; kernel_rfl) | (rw [if_neg (by decide +kernel)]; exact ⟨rfl, rfl⟩))
    (fun os started H enc _ => lifted os started H enc)
#print axioms proved
end fnExactAreDevices
end Go.Proofs.Ytdhmngmclbaieaa
