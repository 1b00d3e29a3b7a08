/- The program's AreTolerated returns what the reference's returns, for every argument. No condition. -/
import Derived.Test.YtdhmngmclbaieaaRows
import Derived.Test.YtdhmngmclbaieaaShape
import Derived.Test.YtdhmngmclbaieaaFacts
import Derived.Test.YtdhmngmclbaieaaTol
namespace Go.Proofs.Ytdhmngmclbaieaa
open Go Go.Proofs Go.RowKit Go.ChangeShapes Go.WideShapes Go.ChangeAt
set_option linter.unusedVariables false
set_option linter.unusedSimpArgs false
set_option maxRecDepth 100000
theorem sh_SensorFaultS : Sh.of Try.prog 5 31 = some (.slice (.pair .int (.pair .int (.pair .int .nil)))) := by kernel_rfl
theorem dec_SensorFault {w : World} (cs : List Value) (h : Sh.Is w (.pair .int (.pair .int (.pair .int .nil))) cs) : ∃ x : ESensorFault, cs = encSensorFault x := by
  obtain ⟨_, _, rfl, ⟨blk, rfl, _⟩, ⟨_, _, rfl, ⟨chan, rfl, _⟩, ⟨_, _, rfl, ⟨val, rfl, _⟩, rfl⟩⟩⟩ := h
  exact ⟨⟨blk, chan, val⟩, rfl⟩
theorem openSensorFaultS {H : Type} {enc : TypeId × Value → H} {W : World} {r : Reach} {base : Nat} {v : Value} {d : DataW H} {p : List MemPlace} (h : DataW.Trod enc Try.prog W 0 (fun _ => true) true 31 v d p) (o : Value.okWide Try.prog W r base 31 v) :
    ∃ xs : List ESensorFault, Rd W v xs.length (xs.flatMap encSensorFault) := by
  obtain ⟨a, n, cap, rfl⟩ := okWide_slice Try.underlying31 o
  exact rd_of_slice encSensorFault dec_SensorFault encSensorFault_len (Sh.is_of_trod sh_SensorFaultS h)
set_option maxHeartbeats 1000000 in
theorem lawAreTolerated_any (nb : Int) (s : Value) (xs : List ESensorFault) (w : World) (hv : Rd w s xs.length (xs.flatMap encSensorFault)) :
    Calls Try.prog 11 #[.int .i64 nb, s] w fun e w' => e = .returned (.bool true) ∧ New w w' := by
  have HV := Lib.hid hv
  clear hv
  go_enter Try.func11, Try.ntmps11
  go_wp2_with fail
  refine (szSensorFaultS_any s xs.length _ 1048576 _ (HV.out.new (by repeat (first | with_reducible exact New.refl _ | with_reducible assumption | with_reducible refine New.drew ?_ | with_reducible refine New.drewN ?_ _ | with_reducible refine New.alloc ?_ _ | with_reducible refine New.setCell ?_ (by first | (simp; done) | (simp; omega) | omega) _ | with_reducible refine New.trans ?_ (by with_reducible assumption)))) (by omega) (by omega)).mono ?_; rintro e w1 ⟨rfl, rfl⟩
  have hbd := szL_range (n := xs.length) (left := 1048576) (B := 1048576) (by omega) (by omega)
  by_cases hsz : szL xs.length 1048576 < 0
  · go_wp2_with fail
    go_ret
    exact ⟨rfl, (by repeat (first | with_reducible exact New.refl _ | with_reducible assumption | with_reducible refine New.drew ?_ | with_reducible refine New.drewN ?_ _ | with_reducible refine New.alloc ?_ _ | with_reducible refine New.setCell ?_ (by first | (simp; done) | (simp; omega) | omega) _ | with_reducible refine New.trans ?_ (by with_reducible assumption)))⟩
  · obtain ⟨hl, hle⟩ := szL_bd (Int.not_lt.1 hsz)
    have hlen : xs.length ≤ 1048576 := by omega
    clear hle
    go_wp2_with fail
    refine (toSensorFaultS_any s xs _ (HV.out.new (by repeat (first | with_reducible exact New.refl _ | with_reducible assumption | with_reducible refine New.drew ?_ | with_reducible refine New.drewN ?_ _ | with_reducible refine New.alloc ?_ _ | with_reducible refine New.setCell ?_ (by first | (simp; done) | (simp; omega) | omega) _ | with_reducible refine New.trans ?_ (by with_reducible assumption)))) hlen).mono ?_; rintro e w2 ⟨v2, rfl, b2, o2⟩
    obtain ⟨c2, f2⟩ := b2.rules
    have z2 := b2.size
    try simp only [World.size_alloc, World.size_drew, World.heap_drewN, World.size_setCell] at z2
    go_wp2_with fail
    refine (sAreTolerated_any nb v2 xs _ (own_rd o2)).mono ?_; rintro e w3 ⟨rfl, b3⟩
    try replace b3 := New.undrawN b3
    try replace b3 := New.undraw b3
    obtain ⟨c3, f3⟩ := b3.rules
    have z3 := b3.size
    try simp only [World.size_alloc, World.size_drew, World.heap_drewN, World.size_setCell] at z3
    go_wp2_with fail
    refine (toSensorFaultS_any s xs _ (HV.out.new (by repeat (first | with_reducible exact New.refl _ | with_reducible assumption | with_reducible refine New.drew ?_ | with_reducible refine New.drewN ?_ _ | with_reducible refine New.alloc ?_ _ | with_reducible refine New.setCell ?_ (by first | (simp; done) | (simp; omega) | omega) _ | with_reducible refine New.trans ?_ (by with_reducible assumption)))) hlen).mono ?_; rintro e w4 ⟨v4, rfl, b4, o4⟩
    obtain ⟨c4, f4⟩ := b4.rules
    have z4 := b4.size
    try simp only [World.size_alloc, World.size_drew, World.heap_drewN, World.size_setCell] at z4
    go_wp2_with fail
    refine (iAreTolerated_any nb v4 xs _ (own_rd o4) hlen).mono ?_; rintro e w5 ⟨rfl, b5⟩
    try replace b5 := New.undrawN b5
    try replace b5 := New.undraw b5
    obtain ⟨c5, f5⟩ := b5.rules
    have z5 := b5.size
    try simp only [World.size_alloc, World.size_drew, World.heap_drewN, World.size_setCell] at z5
    go_wp2_with fail
    have hne : (areTolL nb xs != areTolL nb xs) = false := by simp
    go_wp2_with fail
    refine (toSensorFaultS_any s xs _ (HV.out.new (by repeat (first | with_reducible exact New.refl _ | with_reducible assumption | with_reducible refine New.drew ?_ | with_reducible refine New.drewN ?_ _ | with_reducible refine New.alloc ?_ _ | with_reducible refine New.setCell ?_ (by first | (simp; done) | (simp; omega) | omega) _ | with_reducible refine New.trans ?_ (by with_reducible assumption)))) hlen).mono ?_; rintro e w6 ⟨v6, rfl, b6, o6⟩
    obtain ⟨c6, f6⟩ := b6.rules
    have z6 := b6.size
    try simp only [World.size_alloc, World.size_drew, World.heap_drewN, World.size_setCell] at z6
    go_wp2_with fail
    refine (eqSensorFaultS_any v4 v6 xs xs _ (Rd.new (own_rd o4) (by repeat (first | with_reducible exact New.refl _ | with_reducible assumption | with_reducible refine New.drew ?_ | with_reducible refine New.drewN ?_ _ | with_reducible refine New.alloc ?_ _ | with_reducible refine New.setCell ?_ (by first | (simp; done) | (simp; omega) | omega) _ | with_reducible refine New.trans ?_ (by with_reducible assumption)))) (own_rd o6)).mono ?_; rintro e w7 ⟨rfl, b7⟩
    try replace b7 := New.undrawN b7
    try replace b7 := New.undraw b7
    obtain ⟨c7, f7⟩ := b7.rules
    have z7 := b7.size
    try simp only [World.size_alloc, World.size_drew, World.heap_drewN, World.size_setCell] at z7
    go_wp2_with fail
    go_ret
    exact ⟨rfl, (by repeat (first | with_reducible exact New.refl _ | with_reducible assumption | with_reducible refine New.drew ?_ | with_reducible refine New.drewN ?_ _ | with_reducible refine New.alloc ?_ _ | with_reducible refine New.setCell ?_ (by first | (simp; done) | (simp; omega) | omega) _ | with_reducible refine New.trans ?_ (by with_reducible assumption)))⟩
namespace fnExactAreTolerated
theorem own : ownKnob Try.prog.godebug = none := by kernel_rfl
theorem reads : (Try.f11.params.toList.all fun t => Try.prog.readableRec t && decide (t < Try.prog.types.size)) = true := by kernel_rfl
set_option maxRecDepth 100000 in
theorem lifted (os : Os) (started : os.Started) (H : Type) (enc : TypeId × Value → H) :
    ReturnsInHanded {} Try.checked os 11 .any (Rows.fnExactAreToleratedSpec.pre6 enc Try.prog Try.f11 Rows.fnExactAreToleratedRow.domain false) (Rows.fnExactAreToleratedSpec.post enc Try.prog Try.f11 false true false false) := by
  refine returnsInHanded_of_change (C := Try.checked) own started (by kernel_rfl) Try.func11
    (ChangeSpec.witness6 (enc := enc) (C := Try.checked) false ⟨#[], #[.int .i64 0, .slice none 0 0], []⟩ 8 (by kernel_rfl) (by kernel_rfl) (by kernel_rfl) (by kernel_rfl)) ?_
  intro W base args ds gs before hval0 hW hcnd _
  have hval : ∀ (j : Nat) t v, Try.f11.params[j]? = some t → args[j]? = some v → Value.okWide Try.prog W .any base t v := hval0
  have hW' := hW
  obtain ⟨p, q, hA0, hV, rfl, hfz, hnd⟩ := hW
  have hA : DataW.TrodAll enc Try.prog W 0 (fun _ => true) true Try.f11.params.toList args.toList ds p := hA0
  rw [Try.params11] at hA hval
  obtain ⟨v0, vs0, d0, ds0, p0, q0, hargs, rfl, rfl, h0, r0⟩ := trodAll_cons hA
  obtain ⟨v1, vs1, d1, ds1, p1, q1, rfl, rfl, rfl, h1, r1⟩ := trodAll_cons r0
  obtain ⟨rfl, rfl, rfl⟩ := trodAll_nil r1
  obtain rfl : args = #[v0, v1] := by cases args; simp_all
  have o0 := hval 0 2 v0 rfl rfl
  have o1 := hval 1 31 v1 rfl rfl
  clear hA0 hval hval0
  obtain ⟨rfl, rfl⟩ := trodVars_none hV
  have walk : Calls Try.prog 11 #[v0, v1] W fun e w' => e = .returned (.bool true) ∧ New W w' := by
    obtain ⟨nb, rfl⟩ := okWide_int Try.underlying2 o0
    obtain ⟨xs, hxs⟩ := openSensorFaultS h1 o1
    exact lawAreTolerated_any nb v1 xs W hxs
  refine walk.mono fun e W' ⟨he, hg⟩ => ?_
  subst he
  exact ⟨_, rfl, law_post laidOut (fun t ht => reads_of reads t ht) (fun n hn => by cases hn) rfl Try.underlying4 hW' rfl hg⟩
theorem proved : Rows.FnExactAreToleratedSaid :=
  OpenClaim.holds_of_wide 11 Try.f11 rfl rfl rfl rfl rfl rfl rfl ⟨rfl, rfl, rfl, rfl, rfl⟩ rfl rfl rfl rfl rfl (by kernel_rfl) Try.func11 (by kernel_rfl)
    (of_decide_eq_true (by kernel_rfl)) (by unfold Func.isWrapper; first | (rw [if_pos (by decide +kernel)]; kernel_rfl) | (rw [if_neg (by decide +kernel)]; exact ⟨rfl, rfl⟩))
    (fun os started H enc _ => lifted os started H enc)
#print axioms proved
end fnExactAreTolerated
end Go.Proofs.Ytdhmngmclbaieaa
