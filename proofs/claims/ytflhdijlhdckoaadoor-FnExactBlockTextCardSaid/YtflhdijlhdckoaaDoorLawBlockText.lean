/- The program's BlockText returns what the reference's returns, for all arguments. No condition but the row's own: the listed variables hold what the program's text lays. -/
import Derived.Test.YtflhdijlhdckoaaDoorRows
import Derived.Test.YtflhdijlhdckoaaDoorCards
import Derived.Test.YtflhdijlhdckoaaDoorTie
import Derived.Test.YtflhdijlhdckoaaDoorShape
import Derived.Test.YtflhdijlhdckoaaDoorLawBase
import Derived.Test.YtflhdijlhdckoaaDoorFacts
import Derived.Test.YtflhdijlhdckoaaDoorKeys
import Derived.Test.YtflhdijlhdckoaaDoorOpenD
import Derived.Test.YtflhdijlhdckoaaDoorBtxtW
import Derived.Test.YtflhdijlhdckoaaDoorRegion
import Derived.Test.YtflhdijlhdckoaaDoorLaidX
namespace Go.Proofs.YtflhdijlhdckoaaDoor
open Go Go.Proofs Go.RowKit Go.ChangeShapes Go.WideShapes Go.ChangeAt
set_option linter.unusedVariables false
set_option linter.unusedSimpArgs false
set_option maxRecDepth 100000
set_option maxHeartbeats 1000000 in
theorem lawBlockText_any (k : Int) (s : ByteArray) (n sa sb sc : Int) (w : World) (hk : KW w) (hp : PW w) (hm : s.size ≤ 9223372036854775807) :
    Calls Tryd.prog 4 #[.agg #[.int .i64 k, .string s, .int .i64 n], .agg #[.int .i64 sa, .int .i64 sb, .int .i64 sc]] w fun e w' => e = .returned (.bool true) ∧ New w w' := by
  have HK := Lib.hid hk; clear hk
  have HP := Lib.hid hp; clear hp
  have zz : w.heap.size < w.heap.size + 1 + 1 := by omega
  by_cases hz : szT s 1048576 < 0
  · go_enter Tryd.func4, Tryd.ntmps4
    go_wp2_with fail
    refine (szTerm_any k s n 1048576 _ (by omega) (by omega) hm).mono ?_; rintro e w1 ⟨rfl, b1⟩
    try with_reducible replace b1 := New.undrawN b1
    try with_reducible replace b1 := New.undraw b1
    obtain ⟨c1, f1⟩ := b1.rules
    have z1 := b1.size
    try simp only [World.size_alloc, World.size_drew, World.heap_drewN, World.size_setCell] at z1
    have z1_0 : w.heap.size < w1.heap.size := by omega
    have z1_1 : w.heap.size + 1 < w1.heap.size := by omega
    go_wp2_with fail
    go_ret
    exact ⟨rfl, (by repeat (first | with_reducible exact New.refl _ | with_reducible assumption | with_reducible refine New.drew ?_ | with_reducible refine New.drewN ?_ _ | with_reducible refine New.alloc ?_ _ | with_reducible refine New.setCell ?_ (by first | (simp; done) | (simp; omega) | omega) _ | with_reducible refine New.trans ?_ (by with_reducible assumption)))⟩
  · have hs : s.size ≤ 1048576 := by rw [szT] at hz; split at hz <;> omega
    have hbd : -1 ≤ szT s 1048576 ∧ szT s 1048576 ≤ 1048576 := by rw [szT]; split <;> omega
    have H1 := Lib.hid (fun (w0 : World) => sBlockText_any k s n sa sb sc w0 hs)
    have H2 := Lib.hid (fun (w0 : World) (h : KW w0) (h' : PW w0) => iBlockText_any k s n sa sb sc w0 hs h h')
    generalize (if canCode k s n sa sb sc = 0 then btext k n sa sb sc else ⟨#[]⟩) = T at H1 H2
    generalize canCode k s n sa sb sc = C at H1 H2
    go_enter Tryd.func4, Tryd.ntmps4
    go_wp2_with fail
    refine (szTerm_any k s n 1048576 _ (by omega) (by omega) hm).mono ?_; rintro e w1 ⟨rfl, b1⟩
    try with_reducible replace b1 := New.undrawN b1
    try with_reducible replace b1 := New.undraw b1
    obtain ⟨c1, f1⟩ := b1.rules
    have z1 := b1.size
    try simp only [World.size_alloc, World.size_drew, World.heap_drewN, World.size_setCell] at z1
    have z1_0 : w.heap.size < w1.heap.size := by omega
    have z1_1 : w.heap.size + 1 < w1.heap.size := by omega
    go_wp2_with fail
    refine wp_facts [fun X _ => X = .agg #[.int .i64 k, .string s, .int .i64 n], fun X _ => X = .agg #[.int .i64 k, .string s, .int .i64 n], fun X _ => X = .agg #[.int .i64 sa, .int .i64 sb, .int .i64 sc], fun X _ => X = .agg #[.int .i64 sa, .int .i64 sb, .int .i64 sc], fun X _ => X = .tuple #[.string T, .int .i64 C], fun X _ => X = .tuple #[.string T, .int .i64 C], fun X _ => X = .string T, fun X _ => X = .int .i64 C, fun X _ => X = .string T, fun X _ => X = .int .i64 C] (by kernel_rfl) (by kernel_rfl) ⟨stable_eq _, stable_eq _, stable_eq _, stable_eq _, stable_eq _, stable_eq _, stable_eq _, stable_eq _, stable_eq _, stable_eq _, trivial⟩ ?_ ?_
    · refine ⟨?_, ?_, ?_, ?_, ?_, ?_, ?_, ?_, ?_, ?_, trivial⟩
      · intro a w9 hw ho hk
        have t2 := ho 2 rfl
        dsimp at t2
        try with_reducible replace hw := New.undrawN hw
        try with_reducible replace hw := New.undraw hw
        obtain ⟨c, f'⟩ := hw.rules
        go_simp
        exact New.refl _
      · intro a w9 hw ho hk
        have t16 : a.tmps[16]?.getD undef = .agg #[.int .i64 k, .string s, .int .i64 n] := hk 0 16 (by kernel_rfl) rfl
        go_simp
        refine (toTerm_any k s n _).mono ?_; rintro e w2 ⟨rfl, hb⟩
        first | exact ⟨hb, _, rfl, by simp⟩ | exact ⟨hb, by simp⟩
      · intro a w9 hw ho hk
        have t2 := ho 3 rfl
        dsimp at t2
        try with_reducible replace hw := New.undrawN hw
        try with_reducible replace hw := New.undraw hw
        obtain ⟨c, f'⟩ := hw.rules
        go_simp
        exact New.refl _
      · intro a w9 hw ho hk
        have t18 : a.tmps[18]?.getD undef = .agg #[.int .i64 sa, .int .i64 sb, .int .i64 sc] := hk 2 18 (by kernel_rfl) rfl
        go_simp
        refine (toBlockState_any sa sb sc _).mono ?_; rintro e w2 ⟨rfl, hb⟩
        first | exact ⟨hb, _, rfl, by simp⟩ | exact ⟨hb, by simp⟩
      · intro a w9 hw ho hk
        have t17 : a.tmps[17]?.getD undef = .agg #[.int .i64 k, .string s, .int .i64 n] := hk 1 17 (by kernel_rfl) rfl
        have t19 : a.tmps[19]?.getD undef = .agg #[.int .i64 sa, .int .i64 sb, .int .i64 sc] := hk 3 19 (by kernel_rfl) rfl
        go_simp
        refine (H1.out _).mono ?_; rintro e w2 ⟨rfl, hb⟩
        first | exact ⟨hb, _, rfl, by simp⟩ | exact ⟨hb, by simp⟩
      · intro a w9 hw ho hk
        have t20 : a.tmps[20]?.getD undef = .tuple #[.string T, .int .i64 C] := hk 4 20 (by kernel_rfl) rfl
        go_simp
        exact New.refl _
      · intro a w9 hw ho hk
        have t15 : a.tmps[15]?.getD undef = .tuple #[.string T, .int .i64 C] := hk 5 15 (by kernel_rfl) rfl
        go_simp
        exact New.refl _
      · intro a w9 hw ho hk
        have t15 : a.tmps[15]?.getD undef = .tuple #[.string T, .int .i64 C] := hk 5 15 (by kernel_rfl) rfl
        go_simp
        exact New.refl _
      · intro a w9 hw ho hk
        have t21 : a.tmps[21]?.getD undef = .string T := hk 6 21 (by kernel_rfl) rfl
        go_simp
        exact New.refl _
      · intro a w9 hw ho hk
        have t22 : a.tmps[22]?.getD undef = .int .i64 C := hk 7 22 (by kernel_rfl) rfl
        go_simp
        exact New.refl _
    intro w2 b2 x0 h0 x1 h1 x2 h2 x3 h3 x4 h4 x5 h5 x6 h6 x7 h7 x8 h8 x9 h9
    subst h0 h1 h2 h3 h4 h5 h6 h7 h8 h9
    try with_reducible replace b2 := New.undrawN b2
    try with_reducible replace b2 := New.undraw b2
    obtain ⟨c2, f2⟩ := b2.rules
    have z2 := b2.size
    try simp only [World.size_alloc, World.size_drew, World.heap_drewN, World.size_setCell] at z2
    have z2_0 : w.heap.size < w2.heap.size := by omega
    have z2_1 : w.heap.size + 1 < w2.heap.size := by omega
    simp only [EndAll, List.nil_append, List.cons_append, List.length_cons, List.length_nil, Nat.zero_add, Nat.reduceAdd, List.take_succ_cons, List.take_zero, List.drop_succ_cons, List.drop_zero, putAll, Act.put, List.setIfInBounds_toArray, List.set_cons_succ, List.set_cons_zero]
    go_wp2_with fail
    refine wp_facts [fun X _ => X = .agg #[.int .i64 k, .string s, .int .i64 n], fun X _ => X = .agg #[.int .i64 k, .string s, .int .i64 n], fun X _ => X = .agg #[.int .i64 sa, .int .i64 sb, .int .i64 sc], fun X _ => X = .agg #[.int .i64 sa, .int .i64 sb, .int .i64 sc], fun X _ => X = .tuple #[.string T, .int .i64 C], fun X _ => X = .tuple #[.string T, .int .i64 C], fun X _ => X = .string T, fun X _ => X = .int .i64 C, fun X _ => X = .string T, fun X _ => X = .int .i64 C] (by kernel_rfl) (by kernel_rfl) ⟨stable_eq _, stable_eq _, stable_eq _, stable_eq _, stable_eq _, stable_eq _, stable_eq _, stable_eq _, stable_eq _, stable_eq _, trivial⟩ ?_ ?_
    · refine ⟨?_, ?_, ?_, ?_, ?_, ?_, ?_, ?_, ?_, ?_, trivial⟩
      · intro a w9 hw ho hk
        have t2 := ho 2 rfl
        dsimp at t2
        try with_reducible replace hw := New.undrawN hw
        try with_reducible replace hw := New.undraw hw
        obtain ⟨c, f'⟩ := hw.rules
        go_simp
        exact New.refl _
      · intro a w9 hw ho hk
        have t24 : a.tmps[24]?.getD undef = .agg #[.int .i64 k, .string s, .int .i64 n] := hk 0 24 (by kernel_rfl) rfl
        go_simp
        refine (toTerm_any k s n _).mono ?_; rintro e w2 ⟨rfl, hb⟩
        first | exact ⟨hb, _, rfl, by simp⟩ | exact ⟨hb, by simp⟩
      · intro a w9 hw ho hk
        have t2 := ho 3 rfl
        dsimp at t2
        try with_reducible replace hw := New.undrawN hw
        try with_reducible replace hw := New.undraw hw
        obtain ⟨c, f'⟩ := hw.rules
        go_simp
        exact New.refl _
      · intro a w9 hw ho hk
        have t26 : a.tmps[26]?.getD undef = .agg #[.int .i64 sa, .int .i64 sb, .int .i64 sc] := hk 2 26 (by kernel_rfl) rfl
        go_simp
        refine (toBlockState_any sa sb sc _).mono ?_; rintro e w2 ⟨rfl, hb⟩
        first | exact ⟨hb, _, rfl, by simp⟩ | exact ⟨hb, by simp⟩
      · intro a w9 hw ho hk
        have t25 : a.tmps[25]?.getD undef = .agg #[.int .i64 k, .string s, .int .i64 n] := hk 1 25 (by kernel_rfl) rfl
        have t27 : a.tmps[27]?.getD undef = .agg #[.int .i64 sa, .int .i64 sb, .int .i64 sc] := hk 3 27 (by kernel_rfl) rfl
        go_simp
        refine (H2.out _ (HK.out.new (by repeat (first | with_reducible exact New.refl _ | with_reducible assumption | with_reducible refine New.drew ?_ | with_reducible refine New.drewN ?_ _ | with_reducible refine New.alloc ?_ _ | with_reducible refine New.setCell ?_ (by first | (simp; done) | (simp; omega) | omega) _ | with_reducible refine New.trans ?_ (by with_reducible assumption)))) (HP.out.new (by repeat (first | with_reducible exact New.refl _ | with_reducible assumption | with_reducible refine New.drew ?_ | with_reducible refine New.drewN ?_ _ | with_reducible refine New.alloc ?_ _ | with_reducible refine New.setCell ?_ (by first | (simp; done) | (simp; omega) | omega) _ | with_reducible refine New.trans ?_ (by with_reducible assumption))))).mono ?_; rintro e w2 ⟨rfl, hb⟩
        first | exact ⟨hb, _, rfl, by simp⟩ | exact ⟨hb, by simp⟩
      · intro a w9 hw ho hk
        have t28 : a.tmps[28]?.getD undef = .tuple #[.string T, .int .i64 C] := hk 4 28 (by kernel_rfl) rfl
        go_simp
        exact New.refl _
      · intro a w9 hw ho hk
        have t23 : a.tmps[23]?.getD undef = .tuple #[.string T, .int .i64 C] := hk 5 23 (by kernel_rfl) rfl
        go_simp
        exact New.refl _
      · intro a w9 hw ho hk
        have t23 : a.tmps[23]?.getD undef = .tuple #[.string T, .int .i64 C] := hk 5 23 (by kernel_rfl) rfl
        go_simp
        exact New.refl _
      · intro a w9 hw ho hk
        have t29 : a.tmps[29]?.getD undef = .string T := hk 6 29 (by kernel_rfl) rfl
        go_simp
        exact New.refl _
      · intro a w9 hw ho hk
        have t30 : a.tmps[30]?.getD undef = .int .i64 C := hk 7 30 (by kernel_rfl) rfl
        go_simp
        exact New.refl _
    intro w3 b3 x0 h0 x1 h1 x2 h2 x3 h3 x4 h4 x5 h5 x6 h6 x7 h7 x8 h8 x9 h9
    subst h0 h1 h2 h3 h4 h5 h6 h7 h8 h9
    try with_reducible replace b3 := New.undrawN b3
    try with_reducible replace b3 := New.undraw b3
    obtain ⟨c3, f3⟩ := b3.rules
    have z3 := b3.size
    try simp only [World.size_alloc, World.size_drew, World.heap_drewN, World.size_setCell] at z3
    have z3_0 : w.heap.size < w3.heap.size := by omega
    have z3_1 : w.heap.size + 1 < w3.heap.size := by omega
    simp only [EndAll, List.nil_append, List.cons_append, List.length_cons, List.length_nil, Nat.zero_add, Nat.reduceAdd, List.take_succ_cons, List.take_zero, List.drop_succ_cons, List.drop_zero, putAll, Act.put, List.setIfInBounds_toArray, List.set_cons_succ, List.set_cons_zero]
    go_wp2_with fail
    go_ret
    exact ⟨rfl, (by repeat (first | with_reducible exact New.refl _ | with_reducible assumption | with_reducible refine New.drew ?_ | with_reducible refine New.drewN ?_ _ | with_reducible refine New.alloc ?_ _ | with_reducible refine New.setCell ?_ (by first | (simp; done) | (simp; omega) | omega) _ | with_reducible refine New.trans ?_ (by with_reducible assumption)))⟩
namespace fnExactBlockText
theorem own : ownKnob Tryd.prog.godebug = none := by kernel_rfl
theorem reads : (Tryd.f4.params.toList.all fun t => Tryd.prog.readableRec t && decide (t < Tryd.prog.types.size)) = true := by kernel_rfl
set_option maxRecDepth 100000 in
noncomputable def low : Nat := (World.holding Tryd.prog default ⟨#[], #[], []⟩).heap.size
noncomputable def cells0 : Array Value := #[.int .u8 0, .int .u8 1, .int .u8 28, .int .u8 2, .int .u8 29, .int .u8 14, .int .u8 24, .int .u8 3, .int .u8 30, .int .u8 22, .int .u8 20, .int .u8 15, .int .u8 25, .int .u8 17, .int .u8 4, .int .u8 8, .int .u8 31, .int .u8 27, .int .u8 13, .int .u8 23, .int .u8 21, .int .u8 19, .int .u8 16, .int .u8 7, .int .u8 26, .int .u8 12, .int .u8 18, .int .u8 6, .int .u8 11, .int .u8 5, .int .u8 10, .int .u8 9]
noncomputable def cells1 : Array Value := #[.int .u8 0, .int .u8 1, .int .u8 56, .int .u8 2, .int .u8 57, .int .u8 49, .int .u8 28, .int .u8 3, .int .u8 61, .int .u8 58, .int .u8 42, .int .u8 50, .int .u8 38, .int .u8 29, .int .u8 17, .int .u8 4, .int .u8 62, .int .u8 47, .int .u8 59, .int .u8 36, .int .u8 45, .int .u8 43, .int .u8 51, .int .u8 22, .int .u8 53, .int .u8 39, .int .u8 33, .int .u8 30, .int .u8 24, .int .u8 18, .int .u8 12, .int .u8 5, .int .u8 63, .int .u8 55, .int .u8 48, .int .u8 27, .int .u8 60, .int .u8 41, .int .u8 37, .int .u8 16, .int .u8 46, .int .u8 35, .int .u8 44, .int .u8 21, .int .u8 52, .int .u8 32, .int .u8 23, .int .u8 11, .int .u8 54, .int .u8 26, .int .u8 40, .int .u8 15, .int .u8 34, .int .u8 20, .int .u8 31, .int .u8 10, .int .u8 25, .int .u8 14, .int .u8 19, .int .u8 9, .int .u8 13, .int .u8 8, .int .u8 7, .int .u8 6]
noncomputable def cells2 : Array Value := #[.int .u64 1, .int .u64 10, .int .u64 100, .int .u64 1000, .int .u64 10000, .int .u64 100000, .int .u64 1000000, .int .u64 10000000, .int .u64 100000000, .int .u64 1000000000, .int .u64 10000000000, .int .u64 100000000000, .int .u64 1000000000000, .int .u64 10000000000000, .int .u64 100000000000000, .int .u64 1000000000000000, .int .u64 10000000000000000, .int .u64 100000000000000000, .int .u64 1000000000000000000, .int .u64 10000000000000000000]
noncomputable def cells3 : Array Value := (keyData.map fun z => Value.string (kw z)).toArray
noncomputable def laidWorld (os : Os) : World :=
  let w0 := World.holding Tryd.prog os ⟨#[], #[], []⟩
  { w0 with heap := ((((w0.heap.modify 3 fun | .cells _ t frozen => .cells cells0 t frozen | o => o).modify 4 fun | .cells _ t frozen => .cells cells1 t frozen | o => o).modify 1 fun | .cells _ t frozen => .cells cells2 t frozen | o => o).modify 0 fun | .cells _ t frozen => .cells cells3 t frozen | o => o) }
theorem laid_met (os : Os) : laidMet Tryd.prog Rows.fnExactBlockTextRow.laid ((laidWorld os).forCall (fun _ _ => 0) ⟨#[], #[.agg #[.int .i64 0, .string ⟨#[]⟩, .int .i64 0], .agg #[.int .i64 0, .int .i64 0, .int .i64 0]], []⟩).memory :=
  laidMet_of_run' 8 (by kernel_rfl) (by kernel_rfl)
theorem reading (os : Os) {H : Type} (enc : TypeId × Value → H) : ∃ x, DataW.whole enc Tryd.prog ((laidWorld os).forCall (fun _ _ => 0) ⟨#[], #[.agg #[.int .i64 0, .string ⟨#[]⟩, .int .i64 0], .agg #[.int .i64 0, .int .i64 0, .int .i64 0]], []⟩).memory Tryd.f4.params.toList Rows.fnExactBlockTextSpec.vars false (#[.agg #[.int .i64 0, .string ⟨#[]⟩, .int .i64 0], .agg #[.int .i64 0, .int .i64 0, .int .i64 0]] : Array Value).toList 8 = some x :=
  Option.isSome_iff_exists.1 (by kernel_rfl)
theorem lifted (os : Os) (started : os.Started) (H : Type) (enc : TypeId × Value → H) (F : Stop.Interp) :
    ReturnsInHanded {} Tryd.checked os 4 .any ((OpenSpec.ofChange Rows.fnExactBlockTextSpec).preRow enc Tryd.prog Tryd.f4 Rows.fnExactBlockTextRow.domain false Rows.fnExactBlockTextRow.laid) (((OpenSpec.ofChange Rows.fnExactBlockTextSpec).at F).post enc Tryd.prog Tryd.f4 false true false false) := by
  obtain ⟨x, hx⟩ := reading os enc
  refine returnsInHanded_of_row (C := Tryd.checked) (s := OpenSpec.ofChange Rows.fnExactBlockTextSpec) own started (by kernel_rfl) Tryd.func4
    (witness_row_at (enc := enc) (C := Tryd.checked) false (laidWorld os) #[.agg #[.int .i64 0, .string ⟨#[]⟩, .int .i64 0], .agg #[.int .i64 0, .int .i64 0, .int .i64 0]] rfl (by kernel_rfl) (by kernel_rfl) (by kernel_rfl)
      (OpenSpec.preRow_of_cond 8 hx (by first | rfl | kernel_rfl) (fun k hk => by cases hk) (by kernel_rfl) (laid_met os))) ?_
  intro W base args ds gs before hval0 hW _ _ _ hL hSh _
  have hM : laidMet Tryd.prog Rows.fnExactBlockTextRow.laid W := hL
  have hpw : PW W := pw_of_laid (show laidMet Tryd.prog (_ :: _ :: _ :: _) W from hM).tail.tail
  have hkw : KW W := KW.of_var (keys_of_head (g := 0) (by kernel_rfl) (by kernel_rfl) Tryd.underlying133 Tryd.underlying9 (by kernel_rfl) (by kernel_rfl) (show laidMet Tryd.prog (_ :: _ :: _ :: _ :: _) W from hM).tail.tail.tail)
  have hval : ∀ (j : Nat) t v, Tryd.f4.params[j]? = some t → args[j]? = some v → Value.okWide Tryd.prog W .any base t v := hval0
  have hW' := hW
  obtain ⟨p, q, hA0, hV, rfl, hfz, hnd⟩ := hW
  have hA : DataW.TrodAll enc Tryd.prog W 0 (fun _ => true) true Tryd.f4.params.toList args.toList ds p := hA0
  rw [Tryd.params4] at hA hval
  obtain ⟨v0, vs0, d0, ds0, p0, q0, hargs, rfl, rfl, h0, r0⟩ := trodAll_cons hA
  obtain ⟨v1, vs1, d1, ds1, p1, q1, rfl, rfl, rfl, h1, r1⟩ := trodAll_cons r0
  obtain ⟨rfl, rfl, rfl⟩ := trodAll_nil r1
  obtain rfl : args = #[v0, v1] := by cases args; simp_all
  have o0 := hval 0 37 v0 rfl rfl
  have o1 := hval 1 39 v1 rfl rfl
  clear hA0 hval hval0
  obtain ⟨_, _, _, _, gd, _, rfl, _, _, _, _, rfl⟩ := trodVars_one hV
  have walk : Calls Tryd.prog 4 #[v0, v1] W fun e w' => e = .returned (.bool true) ∧ New W w' := by
    obtain ⟨k, s, n, rfl, hs⟩ := openTerm h0 o0
    obtain ⟨sa, sb, sc, rfl⟩ := openBlockState h1 o1
    exact lawBlockText_any k s n sa sb sc W hkw hpw hs
  refine walk.mono fun e W' ⟨he, hg⟩ => ?_
  subst he
  exact ⟨_, rfl, law_post laidOut (fun t ht => reads_of reads t ht) (fun n hn g t hg ht => by
    obtain rfl : n = "loop.example/g00916/impl.keywords" := List.mem_singleton.1 hn
    obtain rfl : 0 = g := Option.some.inj ((show Tryd.prog.globalNamed "loop.example/g00916/impl.keywords" = some 0 by kernel_rfl).symm.trans hg)
    obtain rfl : 133 = t := Option.some.inj ((show (Tryd.prog.globals[0]?).map (·.type) = some 133 by kernel_rfl).symm.trans ht)
    exact ⟨by kernel_rfl, of_decide_eq_true (by kernel_rfl)⟩) rfl Tryd.underlying4 hW' rfl hg⟩
theorem said : Rows.FnExactBlockTextSaid :=
  OpenClaim.holds_of_cond 4 Tryd.f4 rfl rfl rfl rfl rfl rfl rfl ⟨rfl, rfl, rfl, rfl, rfl⟩ rfl rfl rfl rfl rfl (by kernel_rfl) Tryd.func4 (by kernel_rfl)
    (of_decide_eq_true (by kernel_rfl)) (by unfold Func.isWrapper; first | (rw [if_pos (by decide +kernel)]; kernel_rfl) | (rw [if_neg (by decide +kernel)]; exact ⟨rfl, rfl⟩))
    (fun os started H enc _ F => by rw [OpenClaim.pre_eq_preRow]; exact lifted os started H enc F)
theorem plain (f : FuncId) (fn : Func) (hf : Tryd.pinned.checked.prog.funcNamed "loop.example/g00916/laws.FnExactBlockText" = some f) (hfn : Tryd.pinned.checked.prog.funcs[f]? = some fn) :
    true = Tryd.pinned.checked.prog.looks [] ∧ ∀ (j : Nat) t, fn.params[j]? = some t → Tryd.pinned.checked.prog.wantsStandIn t = false := by
  obtain rfl : f = 4 := Option.some.inj ((show Tryd.prog.funcNamed "loop.example/g00916/laws.FnExactBlockText" = some 4 by kernel_rfl).symm.trans hf) |>.symm
  obtain rfl : fn = Tryd.f4 := (Option.some.inj (Tryd.func4.symm.trans hfn)).symm
  refine ⟨by kernel_rfl, fun j t ht => ?_⟩
  rw [Tryd.params4] at ht
  have hm : t ∈ ([37, 39] : List TypeId) := by simpa using Array.mem_of_getElem? ht
  have all : (([37, 39] : List TypeId).all fun t => !Tryd.prog.wantsStandIn t) = true := by kernel_rfl
  have := List.all_eq_true.1 all t hm
  show Tryd.prog.wantsStandIn t = false
  exact (Bool.not_eq_true _).mp (fun h => by rw [h] at this; cases this)
theorem card : Rows.FnExactBlockTextCardSaid :=
  Claim7.holds_tied_plain_at .later [] _ _ _ _ said (fun _ h => by cases h) (by kernel_rfl) (fun _ h => by cases h) fnExactBlockText_row_tie rfl ⟨rfl, rfl⟩ (by kernel_rfl) rfl plain (by kernel_rfl)
#print axioms card
end fnExactBlockText
end Go.Proofs.YtflhdijlhdckoaaDoor
