/- The program's LiftTime, LaunchForce and TurnDistance return what the reference's return, for every argument. No condition. -/
import Derived.Test.YtdhmngmclbaieaaRows
import Derived.Test.YtdhmngmclbaieaaShape
import Derived.Test.YtdhmngmclbaieaaFacts
import Derived.Test.YtdhmngmclbaieaaLaunch
namespace Go.Proofs.Ytdhmngmclbaieaa
open Go Go.Proofs Go.RowKit Go.ChangeShapes Go.WideShapes Go.ChangeAt
set_option linter.unusedVariables false
set_option linter.unusedSimpArgs false
set_option maxRecDepth 100000
theorem sh_Segment : Sh.of Try.prog 5 41 = some (.pair .int (.pair .int (.pair .int (.pair (.pair .int (.pair .int .nil)) (.pair (.pair .int (.pair .int .nil)) .nil))))) := by kernel_rfl
theorem openSeg {H : Type} {enc : TypeId × Value → H} {W : World} {r : Reach} {base : Nat} {v : Value} {d : DataW H} {p : List MemPlace} (h : DataW.Trod enc Try.prog W 0 (fun _ => true) true 41 v d p) (o : Value.okWide Try.prog W r base 41 v) :
    ∃ k len rise rl rh fl fh : Int, v = .agg #[.int .i64 k, .int .i64 len, .int .i64 rise, .int .i64 rl, .int .i64 rh, .int .i64 fl, .int .i64 fh] := by
  have hv := agg_of_okWide Try.underlying41 o
  obtain ⟨_, _, e, ⟨k, rfl, _⟩, _, _, rfl, ⟨len, rfl, _⟩, _, _, rfl, ⟨rise, rfl, _⟩, _, _, rfl, ⟨_, _, rfl, ⟨rl, rfl, _⟩, _, _, rfl, ⟨rh, rfl, _⟩, rfl⟩, _, _, rfl, ⟨_, _, rfl, ⟨fl, rfl, _⟩, _, _, rfl, ⟨fh, rfl, _⟩, rfl⟩, rfl⟩ := Sh.is_of_trod sh_Segment h
  refine ⟨k, len, rise, rl, rh, fl, fh, ?_⟩
  rw [hv, ← Array.toArray_toList (xs := v.cells), e]
  rfl
set_option maxHeartbeats 1000000 in
theorem lawLiftTime_any (k len rise rl rh fl fh : Int) (w : World) :
    Calls Try.prog 5 #[.agg #[.int .i64 k, .int .i64 len, .int .i64 rise, .int .i64 rl, .int .i64 rh, .int .i64 fl, .int .i64 fh]] w fun e w' => e = .returned (.bool true) ∧ New w w' := by
  generalize hL : liftT k len rise rl rh fl fh = L
  go_enter Try.func5, Try.ntmps5
  go_wp2_with fail
  refine (toSegment_any _ _ _ _ _ _ _ _).mono ?_; rintro e w1 ⟨rfl, b1⟩
  obtain ⟨c1, f1⟩ := b1.rules
  have z1 := b1.size
  try simp only [World.size_alloc, World.size_drew, World.heap_drewN, World.size_setCell] at z1
  have z1_0 : w.heap.size < w1.heap.size := by omega
  go_wp2_with fail
  refine (sLiftTime_any _ _ _ _ _ _ _ _).mono ?_; rintro e w2 ⟨rfl, b2⟩
  obtain ⟨c2, f2⟩ := b2.rules
  have z2 := b2.size
  try simp only [World.size_alloc, World.size_drew, World.heap_drewN, World.size_setCell] at z2
  have z2_0 : w.heap.size < w2.heap.size := by omega
  go_wp2_with fail
  refine (toSegment_any _ _ _ _ _ _ _ _).mono ?_; rintro e w3 ⟨rfl, b3⟩
  obtain ⟨c3, f3⟩ := b3.rules
  have z3 := b3.size
  try simp only [World.size_alloc, World.size_drew, World.heap_drewN, World.size_setCell] at z3
  have z3_0 : w.heap.size < w3.heap.size := by omega
  have z3_1 : w2.heap.size < w3.heap.size := by omega
  go_wp2_with fail
  refine (iLiftTime_any _ _ _ _ _ _ _ _).mono ?_; rintro e w4 ⟨rfl, b4⟩
  obtain ⟨c4, f4⟩ := b4.rules
  have z4 := b4.size
  try simp only [World.size_alloc, World.size_drew, World.heap_drewN, World.size_setCell] at z4
  have z4_0 : w.heap.size < w4.heap.size := by omega
  have z4_1 : w2.heap.size < w4.heap.size := by omega
  go_wp2_with fail
  refine (eqInterval_any _ _ _ _ _).mono ?_; rintro e w5 ⟨rfl, b5⟩
  obtain ⟨c5, f5⟩ := b5.rules
  have z5 := b5.size
  try simp only [World.size_alloc, World.size_drew, World.heap_drewN, World.size_setCell] at z5
  have z5_0 : w.heap.size < w5.heap.size := by omega
  have z5_1 : w2.heap.size < w5.heap.size := by omega
  have z5_2 : w4.heap.size < w5.heap.size := by omega
  go_wp2_with fail
  all_goals (go_ret; exact ⟨ret_bool (by simp_all), (by repeat (first | with_reducible exact New.refl _ | with_reducible assumption | with_reducible refine New.drew ?_ | with_reducible refine New.drewN ?_ _ | with_reducible refine New.alloc ?_ _ | with_reducible refine New.setCell ?_ (by first | (simp; done) | (simp; omega) | omega) _ | with_reducible refine New.trans ?_ (by with_reducible assumption)))⟩)
namespace fnExactLiftTime
theorem own : ownKnob Try.prog.godebug = none := by kernel_rfl
theorem reads : (Try.f5.params.toList.all fun t => Try.prog.readableRec t && decide (t < Try.prog.types.size)) = true := by kernel_rfl
set_option maxRecDepth 100000 in
theorem lifted (os : Os) (started : os.Started) (H : Type) (enc : TypeId × Value → H) :
    ReturnsInHanded {} Try.checked os 5 .any (Rows.fnExactLiftTimeSpec.pre6 enc Try.prog Try.f5 Rows.fnExactLiftTimeRow.domain false) (Rows.fnExactLiftTimeSpec.post enc Try.prog Try.f5 false true false false) := by
  refine returnsInHanded_of_change (C := Try.checked) own started (by kernel_rfl) Try.func5
    (ChangeSpec.witness6 (enc := enc) (C := Try.checked) false ⟨#[], #[.agg #[.int .i64 0, .int .i64 0, .int .i64 0, .int .i64 0, .int .i64 0, .int .i64 0, .int .i64 0]], []⟩ 8 (by kernel_rfl) (by kernel_rfl) (by kernel_rfl) (by kernel_rfl)) ?_
  intro W base args ds gs before hval0 hW hcnd _
  have hval : ∀ (j : Nat) t v, Try.f5.params[j]? = some t → args[j]? = some v → Value.okWide Try.prog W .any base t v := hval0
  have hW' := hW
  obtain ⟨p, q, hA0, hV, rfl, hfz, hnd⟩ := hW
  have hA : DataW.TrodAll enc Try.prog W 0 (fun _ => true) true Try.f5.params.toList args.toList ds p := hA0
  rw [Try.params5] at hA hval
  obtain ⟨v0, vs0, d0, ds0, p0, q0, hargs, rfl, rfl, h0, r0⟩ := trodAll_cons hA
  obtain ⟨rfl, rfl, rfl⟩ := trodAll_nil r0
  obtain rfl : args = #[v0] := by cases args; simp_all
  have o0 := hval 0 41 v0 rfl rfl
  clear hA0 hval hval0
  obtain ⟨rfl, rfl⟩ := trodVars_none hV
  have walk : Calls Try.prog 5 #[v0] W fun e w' => e = .returned (.bool true) ∧ New W w' := by
    obtain ⟨k, len, rise, rl, rh, fl, fh, rfl⟩ : ∃ k len rise rl rh fl fh : Int, v0 = .agg #[.int .i64 k, .int .i64 len, .int .i64 rise, .int .i64 rl, .int .i64 rh, .int .i64 fl, .int .i64 fh] := openSeg h0 o0
    exact lawLiftTime_any _ _ _ _ _ _ _ W
  refine walk.mono fun e W' ⟨he, hg⟩ => ?_
  subst he
  exact ⟨_, rfl, law_post laidOut (fun t ht => reads_of reads t ht) (fun n hn => by cases hn) rfl Try.underlying4 hW' rfl hg⟩
theorem proved : Rows.FnExactLiftTimeSaid :=
  OpenClaim.holds_of_wide 5 Try.f5 rfl rfl rfl rfl rfl rfl rfl ⟨rfl, rfl, rfl, rfl, rfl⟩ rfl rfl rfl rfl rfl (by kernel_rfl) Try.func5 (by kernel_rfl)
    (of_decide_eq_true (by kernel_rfl)) (by unfold Func.isWrapper; first | (rw [if_pos (by decide +kernel)]; kernel_rfl) | (rw [if_neg (by decide +kernel)]; exact ⟨rfl, rfl⟩))
    (fun os started H enc _ => lifted os started H enc)
#print axioms proved
end fnExactLiftTime
end Go.Proofs.Ytdhmngmclbaieaa
