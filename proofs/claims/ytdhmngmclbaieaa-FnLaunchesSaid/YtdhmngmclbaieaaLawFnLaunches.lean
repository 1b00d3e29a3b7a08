/- With the least force of a launch the target is reached, and with a smaller one it is not, for every code. No condition. -/
import Derived.Test.YtdhmngmclbaieaaRows
import Derived.Test.YtdhmngmclbaieaaShape
import Derived.Test.YtdhmngmclbaieaaLawBase
import Derived.Test.YtdhmngmclbaieaaFacts
import Derived.Test.YtdhmngmclbaieaaDraw8
namespace Go.Proofs.Ytdhmngmclbaieaa
open Go Go.Proofs Go.RowKit Go.ChangeShapes Go.WideShapes Go.ChangeAt
set_option linter.unusedVariables false
set_option linter.unusedSimpArgs false
set_option maxRecDepth 100000
theorem sh_code : Sh.of Try.prog 5 56 = some (.slice .byte) := by kernel_rfl
theorem openCode {H : Type} {enc : TypeId × Value → H} {W : World} {r : Reach} {base : Nat} {v : Value} {d : DataW H} {p : List MemPlace} (h : DataW.Trod enc Try.prog W 0 (fun _ => true) true 56 v d p) (o : Value.okWide Try.prog W r base 56 v) :
    ∃ bs : List Int, Rd W v bs.length (bs.map (Value.int .u8)) ∧ ∀ c ∈ bs, 0 ≤ c ∧ c ≤ 255 := by
  obtain ⟨a, n, cap, rfl⟩ := okWide_slice Try.underlying56 o
  exact rdBytes_of_sh (Sh.is_of_trod sh_code h)
theorem big_any (v : Value) (n : Nat) (cs : List Value) (w : World) (hv : Rd w v n cs) : Calls Try.prog 34 #[v] w fun e w' => e = .returned (.bool (decide (4096 < (n : Int)))) ∧ w = w' := by
  obtain ⟨a, cap, rfl, hn, h0, hc⟩ := hv
  clear hc
  go_enter Try.func34, Try.ntmps34
  go_wp2_with fail
  go_ret
  exact ⟨ret_bool (by simp), rfl⟩
/-- The least force: with it the sum is reached, with one less it is not. -/
theorem launch_reach {len x f : Int} (hl : 1 ≤ len) (hf : f = if -x / (2 * len) < 0 then -(-x / (2 * len)) else 0) : 0 ≤ f ∧ x ≤ 2 * f * len ∧ (f = 0 ∨ 2 * (f - 1) * len < x) := by
  have h1 := Int.ediv_mul_le (-x) (b := 2 * len) (by omega)
  have h2 := Int.lt_ediv_add_one_mul_self (-x) (b := 2 * len) (by omega)
  generalize -x / (2 * len) = q at *
  split at hf
  · subst hf
    refine ⟨by omega, by grind, .inr (by grind)⟩
  · subst hf
    refine ⟨by omega, ?_, .inl rfl⟩
    have : 0 ≤ q * (2 * len) := Int.mul_nonneg (by omega) (by omega)
    omega
theorem changeOf_any (k len rise rl rh fl fh : Int) (w : World) (h : isSeg k len rise rl rh fl fh = true) :
    Calls Try.prog 36 #[.agg #[.int .i64 k, .int .i64 len, .int .i64 rise, .int .i64 rl, .int .i64 rh, .int .i64 fl, .int .i64 fh]] w fun e w' => e = .returned (.tuple #[.agg #[.int .i64 (chLo len rise rh), .int .i64 (chHi len rise rl)], .int .i64 0]) ∧ New w w' := by
  have bd := isSeg_bd h
  go_enter Try.func36, Try.ntmps36
  go_wp2_with fail
  refine (iIsSegment_any _ _ _ _ _ _ _ _).mono ?_; rintro e w1 ⟨rfl, b1⟩
  try with_reducible replace b1 := New.undrawN b1
  try with_reducible replace b1 := New.undraw b1
  obtain ⟨c1, f1⟩ := b1.rules
  have z1 := b1.size
  try simp only [World.size_alloc, World.size_drew, World.heap_drewN, World.size_setCell] at z1
  have z1_0 : w.heap.size < w1.heap.size := by omega
  have z1_1 : w.heap.size + 1 < w1.heap.size := by omega
  go_wp2_with fail
  refine (change_any _ _ _ _ _ _ _ _ (by omega)).mono ?_; rintro e w2 ⟨rfl, b2⟩
  try with_reducible replace b2 := New.undrawN b2
  try with_reducible replace b2 := New.undraw b2
  obtain ⟨c2, f2⟩ := b2.rules
  have z2 := b2.size
  try simp only [World.size_alloc, World.size_drew, World.heap_drewN, World.size_setCell] at z2
  have z2_0 : w.heap.size < w2.heap.size := by omega
  have z2_1 : w.heap.size + 1 < w2.heap.size := by omega
  go_wp2_with fail
  exact bodyPost_ret (v := .tuple #[.agg #[.int .i64 (chLo len rise rh), .int .i64 (chHi len rise rl)], .int .i64 0]) (by simp [results, Try.results36, go_sem, c1, c2, z1_0, z1_1, z2_0, z2_1]) rfl ⟨rfl, (by repeat (first | with_reducible exact New.refl _ | with_reducible assumption | with_reducible refine New.drew ?_ | with_reducible refine New.drewN ?_ _ | with_reducible refine New.alloc ?_ _ | with_reducible refine New.setCell ?_ (by first | (simp; done) | (simp; omega) | omega) _ | with_reducible refine New.trans ?_ (by with_reducible assumption)))⟩
theorem launch_plain {k len rise rl rh fl fh lo hi t : Int} (h : (launchR k len rise rl rh fl fh lo hi t).2 = 0) :
    isSeg k len rise rl rh fl fh = true ∧ 0 ≤ lo ∧ lo ≤ 10000000000 ∧ 0 ≤ t ∧ t ≤ 10000000000 ∧ 0 ≤ (launchR k len rise rl rh fl fh lo hi t).1 ∧ (launchR k len rise rl rh fl fh lo hi t).1 ≤ fl ∧
      t ≤ lo + chLo len rise rh + 2 * (launchR k len rise rl rh fl fh lo hi t).1 * len ∧ ((launchR k len rise rl rh fl fh lo hi t).1 = 0 ∨ lo + chLo len rise rh + 2 * ((launchR k len rise rl rh fl fh lo hi t).1 - 1) * len < t) := by
  unfold launchR at h ⊢
  split at h
  · rename_i h1
    simp only [h1, if_true] at h ⊢
    split at h
    · rename_i h2
      simp only [h2, if_true] at h ⊢
      split at h
      · rename_i h3
        simp only [h3, if_true] at h ⊢
        split at h
        · simp at h
        · rename_i h4
          rw [if_neg h4]
          simp only [Bool.and_eq_true] at h1
          have bd := isSeg_bd h1.1
          have be : 0 ≤ lo ∧ lo ≤ 10000000000 := by
            have := h1.2
            simp only [ivIn, isIv, Bool.and_eq_true, decide_eq_true_eq] at this; omega
          have bt := inB_iff.1 h2
          have hr := launch_reach (len := len) (x := t - lo - chLo len rise rh) (f := launchF len rise rh lo t) (by omega) rfl
          simp only [decide_eq_true_eq] at h4
          exact ⟨h1.1, be.1, be.2, bt.1, bt.2, hr.1, by show launchF len rise rh lo t ≤ fl; omega, by have := hr.2.1; show t ≤ lo + chLo len rise rh + 2 * launchF len rise rh lo t * len; omega, by
            rcases hr.2.2 with h | h
            · exact .inl h
            · exact .inr (by show lo + chLo len rise rh + 2 * (launchF len rise rh lo t - 1) * len < t; omega)⟩
      · simp at h
    · simp at h
  · simp at h
set_option maxHeartbeats 4000000 in
theorem fnLaunches_any (v : Value) (bs : List Int) (w : World) (hv : Rd w v bs.length (bs.map (Value.int .u8))) (hb : ∀ c ∈ bs, 0 ≤ c ∧ c ≤ 255) :
    Calls Try.prog 8 #[v] w fun e w' => e = .returned (.bool true) ∧ New w w' := by
  have HV := Lib.hid hv
  have HB := Lib.hid hb
  clear hv hb
  by_cases hl : (4096 : Int) < (bs.length : Int)
  · go_enter Try.func8, Try.ntmps8
    go_wp2_with fail
    refine (big_any v bs.length _ _ HV.out).mono ?_; rintro e w1 ⟨rfl, rfl⟩
    go_wp2_with fail
    go_ret
    exact ⟨rfl, New.refl _⟩
  · have hl' : bs.length ≤ 4096 := by omega
    have HL := Lib.hid hl'; clear hl'
    go_enter Try.func8, Try.ntmps8
    go_wp2_with fail
    refine (big_any v bs.length _ _ HV.out).mono ?_; rintro e w1 ⟨rfl, rfl⟩
    go_wp2_with fail
    refine (drawLaunchForce_any v bs _ HV.out HL.out HB.out).mono ?_; rintro e w1 ⟨k, len, rise, rl, rh, fl, fh, lo, hi, t, rfl, b1⟩
    obtain ⟨c1, f1⟩ := b1.rules
    have z1 := b1.size
    try simp only [World.size_alloc, World.size_drew, World.heap_drewN, World.size_setCell] at z1
    go_wp2_with fail
    generalize hR : launchR k len rise rl rh fl fh lo hi t = R
    have HI := Lib.hid (fun (w0 : World) => iLaunchForce_any k len rise rl rh fl fh lo hi t w0)
    have HS := Lib.hid (fun (w0 : World) => sLaunchForce_any k len rise rl rh fl fh lo hi t w0)
    have HP := Lib.hid (launch_plain (k := k) (len := len) (rise := rise) (rl := rl) (rh := rh) (fl := fl) (fh := fh) (lo := lo) (hi := hi) (t := t))
    rw [hR] at HI HS HP
    clear hR
    obtain ⟨f, bad⟩ := R
    dsimp only at HI HS HP
    refine (HI.out _).mono ?_; rintro e w2 ⟨rfl, b2⟩
    try with_reducible replace b2 := New.undrawN b2
    try with_reducible replace b2 := New.undraw b2
    obtain ⟨c2, f2⟩ := b2.rules
    have z2 := b2.size
    try simp only [World.size_alloc, World.size_drew, World.heap_drewN, World.size_setCell] at z2
    have z2_0 : w1.heap.size < w2.heap.size := by omega
    have z2_1 : w1.heap.size + 1 < w2.heap.size := by omega
    go_wp2_with fail
    refine (HS.out _).mono ?_; rintro e w3 ⟨rfl, b3⟩
    try with_reducible replace b3 := New.undrawN b3
    try with_reducible replace b3 := New.undraw b3
    obtain ⟨c3, f3⟩ := b3.rules
    have z3 := b3.size
    try simp only [World.size_alloc, World.size_drew, World.heap_drewN, World.size_setCell] at z3
    have z3_0 : w1.heap.size < w3.heap.size := by omega
    have z3_1 : w1.heap.size + 1 < w3.heap.size := by omega
    go_wp2_with fail
    · go_ret
      exact ⟨rfl, (by repeat (first | with_reducible exact New.refl _ | with_reducible assumption | with_reducible refine New.drew ?_ | with_reducible refine New.drewN ?_ _ | with_reducible refine New.alloc ?_ _ | with_reducible refine New.setCell ?_ (by first | (simp; done) | (simp; omega) | omega) _ | with_reducible refine New.trans ?_ (by with_reducible assumption)))⟩
    · have hbad : bad = 0 := by first | assumption | simp_all
      obtain ⟨hs, l0, l1, t0, t1, f0, f1, hr, hq⟩ := HP.out hbad
      have bd := isSeg_bd hs
      have bc := chLo_bd (len := len) (rise := rise) (rh := rh) (by omega) (by omega) (by omega) (by omega) (by omega) (by omega)
      have p1 := mul_bd (a := 2 * f) (b := len) (A := 40000) (B := 200000) (by omega) (by omega) (by omega) (by omega)
      have HC := Lib.hid (fun (w0 : World) => changeOf_any k len rise rl rh fl fh w0 hs)
      subst hbad
      clear hs
      generalize chLo len rise rh = C at *
      generalize chHi len rise rl = D at *
      obtain ⟨p2, p3⟩ := p1
      obtain ⟨bc1, bc2⟩ := bc
      rcases hq with hq | hq
      · subst hq
        refine (HC.out _).mono ?_; rintro e w4 ⟨rfl, b4⟩
        try with_reducible replace b4 := New.undrawN b4
        try with_reducible replace b4 := New.undraw b4
        obtain ⟨c4, f4⟩ := b4.rules
        have z4 := b4.size
        try simp only [World.size_alloc, World.size_drew, World.heap_drewN, World.size_setCell] at z4
        have z4_0 : w1.heap.size < w4.heap.size := by omega
        have z4_1 : w1.heap.size + 1 < w4.heap.size := by omega
        go_wp2_with fail
        all_goals (go_ret; exact ⟨rfl, (by repeat (first | with_reducible exact New.refl _ | with_reducible assumption | with_reducible refine New.drew ?_ | with_reducible refine New.drewN ?_ _ | with_reducible refine New.alloc ?_ _ | with_reducible refine New.setCell ?_ (by first | (simp; done) | (simp; omega) | omega) _ | with_reducible refine New.trans ?_ (by with_reducible assumption)))⟩)
      · have p4 : 2 * (f - 1) * len = 2 * f * len - 2 * len := by grind
        have p5 : -400000 ≤ 2 * (f - 1) * len := by omega
        have p6 : 2 * (f - 1) * len ≤ 8000000000 := by omega
        clear p4
        refine (HC.out _).mono ?_; rintro e w4 ⟨rfl, b4⟩
        try with_reducible replace b4 := New.undrawN b4
        try with_reducible replace b4 := New.undraw b4
        obtain ⟨c4, f4⟩ := b4.rules
        have z4 := b4.size
        try simp only [World.size_alloc, World.size_drew, World.heap_drewN, World.size_setCell] at z4
        have z4_0 : w1.heap.size < w4.heap.size := by omega
        have z4_1 : w1.heap.size + 1 < w4.heap.size := by omega
        go_wp2_with fail
        all_goals (go_ret; exact ⟨rfl, (by repeat (first | with_reducible exact New.refl _ | with_reducible assumption | with_reducible refine New.drew ?_ | with_reducible refine New.drewN ?_ _ | with_reducible refine New.alloc ?_ _ | with_reducible refine New.setCell ?_ (by first | (simp; done) | (simp; omega) | omega) _ | with_reducible refine New.trans ?_ (by with_reducible assumption)))⟩)
namespace fnLaunches
theorem own : ownKnob Try.prog.godebug = none := by kernel_rfl
theorem reads : (Try.f8.params.toList.all fun t => Try.prog.readableRec t && decide (t < Try.prog.types.size)) = true := by kernel_rfl
set_option maxRecDepth 100000 in
theorem lifted (os : Os) (started : os.Started) (H : Type) (enc : TypeId × Value → H) :
    ReturnsInHanded {} Try.checked os 8 .any (Rows.fnLaunchesSpec.pre6 enc Try.prog Try.f8 Rows.fnLaunchesRow.domain false) (Rows.fnLaunchesSpec.post enc Try.prog Try.f8 false true false false) := by
  refine returnsInHanded_of_change (C := Try.checked) own started (by kernel_rfl) Try.func8
    (ChangeSpec.witness6 (enc := enc) (C := Try.checked) false ⟨#[], #[.slice none 0 0], []⟩ 8 (by kernel_rfl) (by kernel_rfl) (by kernel_rfl) (by kernel_rfl)) ?_
  intro W base args ds gs before hval0 hW hcnd _
  have hval : ∀ (j : Nat) t v, Try.f8.params[j]? = some t → args[j]? = some v → Value.okWide Try.prog W .any base t v := hval0
  have hW' := hW
  obtain ⟨p, q, hA0, hV, rfl, hfz, hnd⟩ := hW
  have hA : DataW.TrodAll enc Try.prog W 0 (fun _ => true) true Try.f8.params.toList args.toList ds p := hA0
  rw [Try.params8] at hA hval
  obtain ⟨v0, vs0, d0, ds0, p0, q0, hargs, rfl, rfl, h0, r0⟩ := trodAll_cons hA
  obtain ⟨rfl, rfl, rfl⟩ := trodAll_nil r0
  obtain rfl : args = #[v0] := by cases args; simp_all
  have o0 := hval 0 56 v0 rfl rfl
  clear hA0 hval hval0
  obtain ⟨rfl, rfl⟩ := trodVars_none hV
  have walk : Calls Try.prog 8 #[v0] W fun e w' => e = .returned (.bool true) ∧ New W w' := by
    obtain ⟨bs, hbs, hbb⟩ := openCode h0 o0
    exact fnLaunches_any _ bs W hbs hbb
  refine walk.mono fun e W' ⟨he, hg⟩ => ?_
  subst he
  exact ⟨_, rfl, law_post laidOut (fun t ht => reads_of reads t ht) (fun n hn => by cases hn) rfl Try.underlying4 hW' rfl hg⟩
theorem proved : Rows.FnLaunchesSaid :=
  OpenClaim.holds_of_wide 8 Try.f8 rfl rfl rfl rfl rfl rfl rfl ⟨rfl, rfl, rfl, rfl, rfl⟩ rfl rfl rfl rfl rfl (by kernel_rfl) Try.func8 (by kernel_rfl)
    (of_decide_eq_true (by kernel_rfl)) (by unfold Func.isWrapper; first | (rw [if_pos (by decide +kernel)]; kernel_rfl) | (rw [if_neg (by decide +kernel)]; exact ⟨rfl, rfl⟩))
    (fun os started H enc _ => lifted os started H enc)
#print axioms proved
end fnLaunches
end Go.Proofs.Ytdhmngmclbaieaa
