/- The program's TurnDistance returns what the reference's returns, for every argument. No condition. -/
import Derived.Test.YtdhmngmclbaieaaRows
import Derived.Test.YtdhmngmclbaieaaOpenSeg
import Derived.Test.YtdhmngmclbaieaaTurn
import Derived.Test.YtdhmngmclbaieaaRegion2
namespace Go.Proofs.Ytdhmngmclbaieaa
open Go Go.Proofs Go.RowKit Go.ChangeShapes Go.WideShapes Go.ChangeAt
set_option linter.unusedVariables false
set_option linter.unusedSimpArgs false
set_option maxRecDepth 100000
set_option maxHeartbeats 1000000 in
theorem lawTurnDistance_any (k len rise rl rh fl fh lo hi : Int) (w : World) :
    Calls Try.prog 7 #[.agg #[.int .i64 k, .int .i64 len, .int .i64 rise, .int .i64 rl, .int .i64 rh, .int .i64 fl, .int .i64 fh], .agg #[.int .i64 lo, .int .i64 hi]] w fun e w' => e = .returned (.bool true) ∧ New w w' := by
  go_enter Try.func7, Try.ntmps7
  go_wp2_with fail
  refine wp_pivot 9 8 42 [fun v _ => v = .agg #[.int .i64 k, .int .i64 len, .int .i64 rise, .int .i64 rl, .int .i64 rh, .int .i64 fl, .int .i64 fh], fun v _ => v = .agg #[.int .i64 k, .int .i64 len, .int .i64 rise, .int .i64 rl, .int .i64 rh, .int .i64 fl, .int .i64 fh], fun v _ => v = .agg #[.int .i64 lo, .int .i64 hi], fun v _ => v = .agg #[.int .i64 lo, .int .i64 hi], fun v _ => v = .tuple #[.agg #[.int .i64 (turnR k len rise rl rh fl fh lo hi).1, .int .i64 (turnR k len rise rl rh fl fh lo hi).2.1], .int .i64 (turnR k len rise rl rh fl fh lo hi).2.2], fun v _ => v = .tuple #[.agg #[.int .i64 (turnR k len rise rl rh fl fh lo hi).1, .int .i64 (turnR k len rise rl rh fl fh lo hi).2.1], .int .i64 (turnR k len rise rl rh fl fh lo hi).2.2], fun v _ => v = .agg #[.int .i64 (turnR k len rise rl rh fl fh lo hi).1, .int .i64 (turnR k len rise rl rh fl fh lo hi).2.1], fun v _ => v = .int .i64 (turnR k len rise rl rh fl fh lo hi).2.2, BoxPtr ((w.alloc (.cells #[.int .i64 k, .int .i64 len, .int .i64 rise, .int .i64 rl, .int .i64 rh, .int .i64 fl, .int .i64 fh] 41)).alloc (.cells #[.int .i64 lo, .int .i64 hi] 39)) 2 42, NewPtr ((w.alloc (.cells #[.int .i64 k, .int .i64 len, .int .i64 rise, .int .i64 rl, .int .i64 rh, .int .i64 fl, .int .i64 fh] 41)).alloc (.cells #[.int .i64 lo, .int .i64 hi] 39)) #[.int .i64 (turnR k len rise rl rh fl fh lo hi).1, .int .i64 (turnR k len rise rl rh fl fh lo hi).2.1] 42, fun v _ => v = .int .i64 (turnR k len rise rl rh fl fh lo hi).2.2] (by kernel_rfl) (by kernel_rfl) ⟨stable_eq _, stable_eq _, stable_eq _, stable_eq _, stable_eq _, stable_eq _, stable_eq _, stable_eq _, stable_box _ _ _, stable_ptr _ _ _, stable_eq _, trivial⟩ ?_ ?_ ?_
  · exact ⟨fun _ => tstable_eq _ _ _, fun _ => tstable_eq _ _ _, fun _ => tstable_eq _ _ _, fun _ => tstable_eq _ _ _, fun _ => tstable_eq _ _ _, fun _ => tstable_eq _ _ _, fun _ => tstable_eq _ _ _, fun _ => tstable_eq _ _ _, fun _ => tstable_box _ _ _, fun h => absurd rfl h, fun _ => tstable_eq _ _ _, trivial⟩
  · refine ⟨?_, ?_, ?_, ?_, ?_, ?_, ?_, ?_, ?_, ?_, ?_, trivial⟩
    · intro a w1 hw ho hk
      have t2 := ho 2 rfl
      dsimp at t2
      obtain ⟨c, f⟩ := hw.rules
      go_simp
      exact New.refl _
    · intro a w1 hw ho hk
      have t0 : a.tmps[10]?.getD undef = .agg #[.int .i64 k, .int .i64 len, .int .i64 rise, .int .i64 rl, .int .i64 rh, .int .i64 fl, .int .i64 fh] := hk 0 10 (by kernel_rfl) rfl
      go_simp
      refine (toSegment_any _ _ _ _ _ _ _ _).mono ?_; rintro e w2 ⟨rfl, hb⟩
      first | exact ⟨hb, _, rfl, rfl⟩ | exact ⟨hb, rfl⟩
    · intro a w1 hw ho hk
      have t2 := ho 3 rfl
      dsimp at t2
      obtain ⟨c, f⟩ := hw.rules
      go_simp
      exact New.refl _
    · intro a w1 hw ho hk
      have t0 : a.tmps[12]?.getD undef = .agg #[.int .i64 lo, .int .i64 hi] := hk 2 12 (by kernel_rfl) rfl
      go_simp
      refine (toInterval_any _ _ _).mono ?_; rintro e w2 ⟨rfl, hb⟩
      first | exact ⟨hb, _, rfl, rfl⟩ | exact ⟨hb, rfl⟩
    · intro a w1 hw ho hk
      have t0 : a.tmps[11]?.getD undef = .agg #[.int .i64 k, .int .i64 len, .int .i64 rise, .int .i64 rl, .int .i64 rh, .int .i64 fl, .int .i64 fh] := hk 1 11 (by kernel_rfl) rfl
      have t1 : a.tmps[13]?.getD undef = .agg #[.int .i64 lo, .int .i64 hi] := hk 3 13 (by kernel_rfl) rfl
      go_simp
      refine (sTurnDistance_any _ _ _ _ _ _ _ _ _ _).mono ?_; rintro e w2 ⟨rfl, hb⟩
      first | exact ⟨hb, _, rfl, rfl⟩ | exact ⟨hb, rfl⟩
    · intro a w1 hw ho hk
      have t0 : a.tmps[14]?.getD undef = .tuple #[.agg #[.int .i64 (turnR k len rise rl rh fl fh lo hi).1, .int .i64 (turnR k len rise rl rh fl fh lo hi).2.1], .int .i64 (turnR k len rise rl rh fl fh lo hi).2.2] := hk 4 14 (by kernel_rfl) rfl
      go_simp
      exact New.refl _
    · intro a w1 hw ho hk
      have t0 : a.tmps[9]?.getD undef = .tuple #[.agg #[.int .i64 (turnR k len rise rl rh fl fh lo hi).1, .int .i64 (turnR k len rise rl rh fl fh lo hi).2.1], .int .i64 (turnR k len rise rl rh fl fh lo hi).2.2] := hk 5 9 (by kernel_rfl) rfl
      go_simp
      exact New.refl _
    · intro a w1 hw ho hk
      have t0 : a.tmps[9]?.getD undef = .tuple #[.agg #[.int .i64 (turnR k len rise rl rh fl fh lo hi).1, .int .i64 (turnR k len rise rl rh fl fh lo hi).2.1], .int .i64 (turnR k len rise rl rh fl fh lo hi).2.2] := hk 5 9 (by kernel_rfl) rfl
      go_simp
      exact New.refl _
    · intro a w1 hw ho hk
      go_simp
      exact ⟨(New.refl _).alloc _, _, rfl, _, rfl, hw.size, _, rfl, heap_alloc_new _ _⟩
    · intro a w1 hw ho hk
      obtain ⟨b, t1, hb1, cs, hcs, hb2⟩ : BoxPtr ((w.alloc (.cells #[.int .i64 k, .int .i64 len, .int .i64 rise, .int .i64 rl, .int .i64 rh, .int .i64 fl, .int .i64 fh] 41)).alloc (.cells #[.int .i64 lo, .int .i64 hi] 39)) 2 42 (a.tmps[5]?.getD undef) w1 := hk 8 5 (by kernel_rfl) rfl
      have t2 : a.tmps[15]?.getD undef = .agg #[.int .i64 (turnR k len rise rl rh fl fh lo hi).1, .int .i64 (turnR k len rise rl rh fl fh lo hi).2.1] := hk 6 15 (by kernel_rfl) rfl
      obtain ⟨c0, c1, rfl⟩ : ∃ c0 c1, cs = #[c0, c1] := array2 hcs
      obtain ⟨k0, k1, k2, k3⟩ := box2 hb2
      go_simp
      exact ⟨turn_box2 hb1 hb2 _ _, fun d hd => (by cases hd; rw [t1]; exact ⟨b, rfl, hb1, (by simpa using heap_lt hb2), box2_set hb2 _ _⟩)⟩
    · intro a w1 hw ho hk
      have t0 : a.tmps[16]?.getD undef = .int .i64 (turnR k len rise rl rh fl fh lo hi).2.2 := hk 7 16 (by kernel_rfl) rfl
      go_simp
      exact New.refl _
  · intro w1 b1 v0 h0 v1 h1 v2 h2 v3 h3 v4 h4 v5 h5 v6 h6 v7 h7 v8 h8 v9 h9 v10 h10 hpq
    subst h0 h1 h2 h3 h4 h5 h6 h7 h10
    obtain rfl : v9 = v8 := by simpa using hpq
    obtain ⟨B1, rfl, hb1, hb2, hb3⟩ := h9
    obtain ⟨q0, q1, _, _⟩ := box2 hb3
    clear hpq hb3
    obtain ⟨c1, f1⟩ := b1.rules
    have z1 := b1.size
    simp only [World.size_alloc] at z1
    have z1_0 : w.heap.size < w1.heap.size := by omega
    have z1_1 : w.heap.size + 1 < w1.heap.size := by omega
    simp only [List.nil_append, List.cons_append, putAll, Act.put, List.setIfInBounds_toArray, List.set_cons_succ, List.set_cons_zero]
    go_wp2_with fail
    refine wp_pivot 9 8 42 [fun v _ => v = .agg #[.int .i64 k, .int .i64 len, .int .i64 rise, .int .i64 rl, .int .i64 rh, .int .i64 fl, .int .i64 fh], fun v _ => v = .agg #[.int .i64 k, .int .i64 len, .int .i64 rise, .int .i64 rl, .int .i64 rh, .int .i64 fl, .int .i64 fh], fun v _ => v = .agg #[.int .i64 lo, .int .i64 hi], fun v _ => v = .agg #[.int .i64 lo, .int .i64 hi], fun v _ => v = .tuple #[.agg #[.int .i64 (turnR k len rise rl rh fl fh lo hi).1, .int .i64 (turnR k len rise rl rh fl fh lo hi).2.1], .int .i64 (turnR k len rise rl rh fl fh lo hi).2.2], fun v _ => v = .tuple #[.agg #[.int .i64 (turnR k len rise rl rh fl fh lo hi).1, .int .i64 (turnR k len rise rl rh fl fh lo hi).2.1], .int .i64 (turnR k len rise rl rh fl fh lo hi).2.2], fun v _ => v = .agg #[.int .i64 (turnR k len rise rl rh fl fh lo hi).1, .int .i64 (turnR k len rise rl rh fl fh lo hi).2.1], fun v _ => v = .int .i64 (turnR k len rise rl rh fl fh lo hi).2.2, BoxPtr w1 2 42, NewPtr w1 #[.int .i64 (turnR k len rise rl rh fl fh lo hi).1, .int .i64 (turnR k len rise rl rh fl fh lo hi).2.1] 42, fun v _ => v = .int .i64 (turnR k len rise rl rh fl fh lo hi).2.2] (by kernel_rfl) (by kernel_rfl) ⟨stable_eq _, stable_eq _, stable_eq _, stable_eq _, stable_eq _, stable_eq _, stable_eq _, stable_eq _, stable_box _ _ _, stable_ptr _ _ _, stable_eq _, trivial⟩ ?_ ?_ ?_
    · exact ⟨fun _ => tstable_eq _ _ _, fun _ => tstable_eq _ _ _, fun _ => tstable_eq _ _ _, fun _ => tstable_eq _ _ _, fun _ => tstable_eq _ _ _, fun _ => tstable_eq _ _ _, fun _ => tstable_eq _ _ _, fun _ => tstable_eq _ _ _, fun _ => tstable_box _ _ _, fun h => absurd rfl h, fun _ => tstable_eq _ _ _, trivial⟩
    · refine ⟨?_, ?_, ?_, ?_, ?_, ?_, ?_, ?_, ?_, ?_, ?_, trivial⟩
      · intro a w9 hw ho hk
        have t2 := ho 2 rfl
        dsimp at t2
        obtain ⟨c, f⟩ := hw.rules
        go_simp
        exact New.refl _
      · intro a w9 hw ho hk
        have t0 : a.tmps[18]?.getD undef = .agg #[.int .i64 k, .int .i64 len, .int .i64 rise, .int .i64 rl, .int .i64 rh, .int .i64 fl, .int .i64 fh] := hk 0 18 (by kernel_rfl) rfl
        go_simp
        refine (toSegment_any _ _ _ _ _ _ _ _).mono ?_; rintro e w2 ⟨rfl, hb⟩
        first | exact ⟨hb, _, rfl, rfl⟩ | exact ⟨hb, rfl⟩
      · intro a w9 hw ho hk
        have t2 := ho 3 rfl
        dsimp at t2
        obtain ⟨c, f⟩ := hw.rules
        go_simp
        exact New.refl _
      · intro a w9 hw ho hk
        have t0 : a.tmps[20]?.getD undef = .agg #[.int .i64 lo, .int .i64 hi] := hk 2 20 (by kernel_rfl) rfl
        go_simp
        refine (toInterval_any _ _ _).mono ?_; rintro e w2 ⟨rfl, hb⟩
        first | exact ⟨hb, _, rfl, rfl⟩ | exact ⟨hb, rfl⟩
      · intro a w9 hw ho hk
        have t0 : a.tmps[19]?.getD undef = .agg #[.int .i64 k, .int .i64 len, .int .i64 rise, .int .i64 rl, .int .i64 rh, .int .i64 fl, .int .i64 fh] := hk 1 19 (by kernel_rfl) rfl
        have t1 : a.tmps[21]?.getD undef = .agg #[.int .i64 lo, .int .i64 hi] := hk 3 21 (by kernel_rfl) rfl
        go_simp
        refine (iTurnDistance_any _ _ _ _ _ _ _ _ _ _).mono ?_; rintro e w2 ⟨rfl, hb⟩
        first | exact ⟨hb, _, rfl, rfl⟩ | exact ⟨hb, rfl⟩
      · intro a w9 hw ho hk
        have t0 : a.tmps[22]?.getD undef = .tuple #[.agg #[.int .i64 (turnR k len rise rl rh fl fh lo hi).1, .int .i64 (turnR k len rise rl rh fl fh lo hi).2.1], .int .i64 (turnR k len rise rl rh fl fh lo hi).2.2] := hk 4 22 (by kernel_rfl) rfl
        go_simp
        exact New.refl _
      · intro a w9 hw ho hk
        have t0 : a.tmps[17]?.getD undef = .tuple #[.agg #[.int .i64 (turnR k len rise rl rh fl fh lo hi).1, .int .i64 (turnR k len rise rl rh fl fh lo hi).2.1], .int .i64 (turnR k len rise rl rh fl fh lo hi).2.2] := hk 5 17 (by kernel_rfl) rfl
        go_simp
        exact New.refl _
      · intro a w9 hw ho hk
        have t0 : a.tmps[17]?.getD undef = .tuple #[.agg #[.int .i64 (turnR k len rise rl rh fl fh lo hi).1, .int .i64 (turnR k len rise rl rh fl fh lo hi).2.1], .int .i64 (turnR k len rise rl rh fl fh lo hi).2.2] := hk 5 17 (by kernel_rfl) rfl
        go_simp
        exact New.refl _
      · intro a w9 hw ho hk
        go_simp
        exact ⟨(New.refl _).alloc _, _, rfl, _, rfl, hw.size, _, rfl, heap_alloc_new _ _⟩
      · intro a w9 hw ho hk
        obtain ⟨b, t1, hb1, cs, hcs, hb2⟩ : BoxPtr w1 2 42 (a.tmps[7]?.getD undef) w9 := hk 8 7 (by kernel_rfl) rfl
        have t2 : a.tmps[23]?.getD undef = .agg #[.int .i64 (turnR k len rise rl rh fl fh lo hi).1, .int .i64 (turnR k len rise rl rh fl fh lo hi).2.1] := hk 6 23 (by kernel_rfl) rfl
        obtain ⟨c0, c1, rfl⟩ : ∃ c0 c1, cs = #[c0, c1] := array2 hcs
        obtain ⟨k0, k1, k2, k3⟩ := box2 hb2
        go_simp
        exact ⟨turn_box2 hb1 hb2 _ _, fun d hd => (by cases hd; rw [t1]; exact ⟨b, rfl, hb1, (by simpa using heap_lt hb2), box2_set hb2 _ _⟩)⟩
      · intro a w9 hw ho hk
        have t0 : a.tmps[24]?.getD undef = .int .i64 (turnR k len rise rl rh fl fh lo hi).2.2 := hk 7 24 (by kernel_rfl) rfl
        go_simp
        exact New.refl _
    · intro w2 b2 v0 h0 v1 h1 v2 h2 v3 h3 v4 h4 v5 h5 v6 h6 v7 h7 v8 h8 v9 h9 v10 h10 hpq
      subst h0 h1 h2 h3 h4 h5 h6 h7 h10
      obtain rfl : v9 = v8 := by simpa using hpq
      obtain ⟨B2, rfl, hb1', hb2', hb3'⟩ := h9
      obtain ⟨q0', q1', _, _⟩ := box2 hb3'
      clear hpq hb3'
      obtain ⟨c2, f2⟩ := b2.rules
      simp only [List.nil_append, List.cons_append, putAll, Act.put, List.setIfInBounds_toArray, List.set_cons_succ, List.set_cons_zero]
      go_wp2_with fail
      refine (eqInterval_any _ _ _ _ _).mono ?_; rintro e w3 ⟨rfl, b3⟩
      go_wp2_with fail
      all_goals (go_ret; exact ⟨ret_bool (by simp_all), (by repeat (first | with_reducible exact New.refl _ | with_reducible assumption | with_reducible refine New.drew ?_ | with_reducible refine New.drewN ?_ _ | with_reducible refine New.alloc ?_ _ | with_reducible refine New.setCell ?_ (by first | (simp; done) | (simp; omega) | omega) _ | with_reducible refine New.trans ?_ (by with_reducible assumption)))⟩)
namespace fnExactTurnDistance
theorem own : ownKnob Try.prog.godebug = none := by kernel_rfl
theorem reads : (Try.f7.params.toList.all fun t => Try.prog.readableRec t && decide (t < Try.prog.types.size)) = true := by kernel_rfl
set_option maxRecDepth 100000 in
theorem lifted (os : Os) (started : os.Started) (H : Type) (enc : TypeId × Value → H) :
    ReturnsInHanded {} Try.checked os 7 .any (Rows.fnExactTurnDistanceSpec.pre6 enc Try.prog Try.f7 Rows.fnExactTurnDistanceRow.domain false) (Rows.fnExactTurnDistanceSpec.post enc Try.prog Try.f7 false true false false) := by
  refine returnsInHanded_of_change (C := Try.checked) own started (by kernel_rfl) Try.func7
    (ChangeSpec.witness6 (enc := enc) (C := Try.checked) false ⟨#[], #[.agg #[.int .i64 0, .int .i64 0, .int .i64 0, .int .i64 0, .int .i64 0, .int .i64 0, .int .i64 0], .agg #[.int .i64 0, .int .i64 0]], []⟩ 8 (by kernel_rfl) (by kernel_rfl) (by kernel_rfl) (by kernel_rfl)) ?_
  intro W base args ds gs before hval0 hW hcnd _
  have hval : ∀ (j : Nat) t v, Try.f7.params[j]? = some t → args[j]? = some v → Value.okWide Try.prog W .any base t v := hval0
  have hW' := hW
  obtain ⟨p, q, hA0, hV, rfl, hfz, hnd⟩ := hW
  have hA : DataW.TrodAll enc Try.prog W 0 (fun _ => true) true Try.f7.params.toList args.toList ds p := hA0
  rw [Try.params7] at hA hval
  obtain ⟨v0, vs0, d0, ds0, p0, q0, hargs, rfl, rfl, h0, r0⟩ := trodAll_cons hA
  obtain ⟨v1, vs1, d1, ds1, p1, q1, rfl, rfl, rfl, h1, r1⟩ := trodAll_cons r0
  obtain ⟨rfl, rfl, rfl⟩ := trodAll_nil r1
  obtain rfl : args = #[v0, v1] := by cases args; simp_all
  have o0 := hval 0 41 v0 rfl rfl
  have o1 := hval 1 39 v1 rfl rfl
  clear hA0 hval hval0
  obtain ⟨rfl, rfl⟩ := trodVars_none hV
  have walk : Calls Try.prog 7 #[v0, v1] W fun e w' => e = .returned (.bool true) ∧ New W w' := by
    obtain ⟨k, len, rise, rl, rh, fl, fh, rfl⟩ := openSeg h0 o0
    obtain ⟨lo, hi, rfl⟩ := openIv h1 o1
    exact lawTurnDistance_any _ _ _ _ _ _ _ _ _ W
  refine walk.mono fun e W' ⟨he, hg⟩ => ?_
  subst he
  exact ⟨_, rfl, law_post laidOut (fun t ht => reads_of reads t ht) (fun n hn => by cases hn) rfl Try.underlying4 hW' rfl hg⟩
theorem proved : Rows.FnExactTurnDistanceSaid :=
  OpenClaim.holds_of_wide 7 Try.f7 rfl rfl rfl rfl rfl rfl rfl ⟨rfl, rfl, rfl, rfl, rfl⟩ rfl rfl rfl rfl rfl (by kernel_rfl) Try.func7 (by kernel_rfl)
    (of_decide_eq_true (by kernel_rfl)) (by unfold Func.isWrapper; first | (rw [if_pos (by decide +kernel)]; kernel_rfl) | (rw [if_neg (by decide +kernel)]; exact ⟨rfl, rfl⟩))
    (fun os started H enc _ => lifted os started H enc)
#print axioms proved
end fnExactTurnDistance
end Go.Proofs.Ytdhmngmclbaieaa
