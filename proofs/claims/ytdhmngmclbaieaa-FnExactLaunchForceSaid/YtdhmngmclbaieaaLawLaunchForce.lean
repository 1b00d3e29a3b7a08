/- The program's LaunchForce returns what the reference's returns, for every argument. No condition. -/
import Derived.Test.YtdhmngmclbaieaaRows
import Derived.Test.YtdhmngmclbaieaaOpenSeg
import Derived.Test.YtdhmngmclbaieaaLaunch
namespace Go.Proofs.Ytdhmngmclbaieaa
open Go Go.Proofs Go.RowKit Go.ChangeShapes Go.WideShapes Go.ChangeAt
set_option linter.unusedVariables false
set_option linter.unusedSimpArgs false
set_option maxRecDepth 100000
set_option maxHeartbeats 1000000 in
theorem lawLaunchForce_any (k len rise rl rh fl fh lo hi target : Int) (w : World) :
    Calls Try.prog 6 #[.agg #[.int .i64 k, .int .i64 len, .int .i64 rise, .int .i64 rl, .int .i64 rh, .int .i64 fl, .int .i64 fh], .agg #[.int .i64 lo, .int .i64 hi], .int .i64 target] w fun e w' => e = .returned (.bool true) ∧ New w w' := by
  generalize hL : launchR k len rise rl rh fl fh lo hi target = L
  go_enter Try.func6, Try.ntmps6
  go_wp2_with fail
  have hq := fun (n : NewOf ((w.alloc (.cells #[.int .i64 k, .int .i64 len, .int .i64 rise, .int .i64 rl, .int .i64 rh, .int .i64 fl, .int .i64 fh] 41)).alloc (.cells #[.int .i64 lo, .int .i64 hi] 39))) b o => NewOf.cell n b o
  refine wp_region_new (by kernel_rfl) (by kernel_rfl) ?_
  repeat (quiet_step ((first | exact newq (toSegment_any _ _ _ _ _ _ _ _) | exact newq (toInterval_any _ _ _) | exact newq (sLaunchForce_any _ _ _ _ _ _ _ _ _ _ _))))
  refine wpQuiet_nil ?_
  rintro ⟨w1, b1⟩
  dsimp only
  obtain ⟨c1, f1⟩ := b1.rules
  have z1 := b1.size
  try simp only [World.size_alloc, World.size_drew, World.heap_drewN, World.size_setCell] at z1
  have z1_0 : w.heap.size < w1.heap.size := by omega
  have z1_1 : w.heap.size + 1 < w1.heap.size := by omega
  go_wp2_with fail
  clear hq
  have hq := fun (n : NewOf w1) b o => NewOf.cell n b o
  refine wp_region_new (by kernel_rfl) (by kernel_rfl) ?_
  repeat (quiet_step ((first | exact newq (toSegment_any _ _ _ _ _ _ _ _) | exact newq (toInterval_any _ _ _) | exact newq (iLaunchForce_any _ _ _ _ _ _ _ _ _ _ _))))
  refine wpQuiet_nil ?_
  rintro ⟨w2, b2⟩
  dsimp only
  obtain ⟨c2, f2⟩ := b2.rules
  have z2 := b2.size
  try simp only [World.size_alloc, World.size_drew, World.heap_drewN, World.size_setCell] at z2
  have z2_0 : w.heap.size < w2.heap.size := by omega
  have z2_1 : w.heap.size + 1 < w2.heap.size := by omega
  go_wp2_with fail
  all_goals (go_ret; exact ⟨rfl, (by repeat (first | with_reducible exact New.refl _ | with_reducible assumption | with_reducible refine New.drew ?_ | with_reducible refine New.drewN ?_ _ | with_reducible refine New.alloc ?_ _ | with_reducible refine New.setCell ?_ (by first | (simp; done) | (simp; omega) | omega) _ | with_reducible refine New.trans ?_ (by with_reducible assumption)))⟩)
namespace fnExactLaunchForce
theorem own : ownKnob Try.prog.godebug = none := by kernel_rfl
theorem reads : (Try.f6.params.toList.all fun t => Try.prog.readableRec t && decide (t < Try.prog.types.size)) = true := by kernel_rfl
set_option maxRecDepth 100000 in
theorem lifted (os : Os) (started : os.Started) (H : Type) (enc : TypeId × Value → H) :
    ReturnsInHanded {} Try.checked os 6 .any (Rows.fnExactLaunchForceSpec.pre6 enc Try.prog Try.f6 Rows.fnExactLaunchForceRow.domain false) (Rows.fnExactLaunchForceSpec.post enc Try.prog Try.f6 false true false false) := by
  refine returnsInHanded_of_change (C := Try.checked) own started (by kernel_rfl) Try.func6
    (ChangeSpec.witness6 (enc := enc) (C := Try.checked) false ⟨#[], #[.agg #[.int .i64 0, .int .i64 0, .int .i64 0, .int .i64 0, .int .i64 0, .int .i64 0, .int .i64 0], .agg #[.int .i64 0, .int .i64 0], .int .i64 0], []⟩ 8 (by kernel_rfl) (by kernel_rfl) (by kernel_rfl) (by kernel_rfl)) ?_
  intro W base args ds gs before hval0 hW hcnd _
  have hval : ∀ (j : Nat) t v, Try.f6.params[j]? = some t → args[j]? = some v → Value.okWide Try.prog W .any base t v := hval0
  have hW' := hW
  obtain ⟨p, q, hA0, hV, rfl, hfz, hnd⟩ := hW
  have hA : DataW.TrodAll enc Try.prog W 0 (fun _ => true) true Try.f6.params.toList args.toList ds p := hA0
  rw [Try.params6] at hA hval
  obtain ⟨v0, vs0, d0, ds0, p0, q0, hargs, rfl, rfl, h0, r0⟩ := trodAll_cons hA
  obtain ⟨v1, vs1, d1, ds1, p1, q1, rfl, rfl, rfl, h1, r1⟩ := trodAll_cons r0
  obtain ⟨v2, vs2, d2, ds2, p2, q2, rfl, rfl, rfl, h2, r2⟩ := trodAll_cons r1
  obtain ⟨rfl, rfl, rfl⟩ := trodAll_nil r2
  obtain rfl : args = #[v0, v1, v2] := by cases args; simp_all
  have o0 := hval 0 41 v0 rfl rfl
  have o1 := hval 1 39 v1 rfl rfl
  have o2 := hval 2 2 v2 rfl rfl
  clear hA0 hval hval0
  obtain ⟨rfl, rfl⟩ := trodVars_none hV
  have walk : Calls Try.prog 6 #[v0, v1, v2] W fun e w' => e = .returned (.bool true) ∧ New W w' := by
    obtain ⟨k, len, rise, rl, rh, fl, fh, rfl⟩ := openSeg h0 o0
    obtain ⟨lo, hi, rfl⟩ := openIv h1 o1
    obtain ⟨target, rfl, rfl, rfl, _⟩ := open_int Try.underlying2 o2 h2
    exact lawLaunchForce_any _ _ _ _ _ _ _ _ _ _ W
  refine walk.mono fun e W' ⟨he, hg⟩ => ?_
  subst he
  exact ⟨_, rfl, law_post laidOut (fun t ht => reads_of reads t ht) (fun n hn => by cases hn) rfl Try.underlying4 hW' rfl hg⟩
theorem proved : Rows.FnExactLaunchForceSaid :=
  OpenClaim.holds_of_wide 6 Try.f6 rfl rfl rfl rfl rfl rfl rfl ⟨rfl, rfl, rfl, rfl, rfl⟩ rfl rfl rfl rfl rfl (by kernel_rfl) Try.func6 (by kernel_rfl)
    (of_decide_eq_true (by kernel_rfl)) (by unfold Func.isWrapper; first | (rw [if_pos (by decide +kernel)]; kernel_rfl) | (rw [if_neg (by decide +kernel)]; exact ⟨rfl, rfl⟩))
    (fun os started H enc _ => lifted os started H enc)
#print axioms proved
end fnExactLaunchForce
end Go.Proofs.Ytdhmngmclbaieaa
