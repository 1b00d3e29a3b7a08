/- The program's IsToken returns what the reference's returns, for every argument. No condition but the row's own: the listed variables hold what the program's text lays. -/
import Derived.Test.YtndpgdkgjnfalaaDoorRows
import Derived.Test.YtndpgdkgjnfalaaDoorCards
import Derived.Test.YtndpgdkgjnfalaaDoorTie
import Derived.Test.YtndpgdkgjnfalaaDoorShape
import Derived.Test.YtndpgdkgjnfalaaDoorLawBase
import Derived.Test.YtndpgdkgjnfalaaDoorFacts
import Derived.Test.YtndpgdkgjnfalaaDoorTokW
import Derived.Test.YtndpgdkgjnfalaaDoorLaidX
namespace Go.Proofs.YtndpgdkgjnfalaaDoor
open Go Go.Proofs Go.RowKit Go.ChangeShapes Go.WideShapes Go.ChangeAt
set_option linter.unusedVariables false
set_option linter.unusedSimpArgs false
set_option maxRecDepth 100000
theorem sh_Token : Sh.of Tryd.prog 5 42 = some (.pair .int (.pair .str .nil)) := by kernel_rfl
theorem openToken {H : Type} {enc : TypeId × Value → H} {W : World} {r : Reach} {base : Nat} {v : Value} {d : DataW H} {p : List MemPlace} (h : DataW.Trod enc Tryd.prog W 0 (fun _ => true) true 42 v d p) (o : Value.okWide Tryd.prog W r base 42 v) :
    ∃ (k : Int) (s : ByteArray), v = .agg #[.int .i64 k, .string s] ∧ s.size ≤ 9223372036854775807 := by
  have hv := agg_of_okWide Tryd.underlying42 o
  obtain ⟨_, _, e, ⟨k, rfl, _⟩, _, _, rfl, ⟨s, rfl, hs⟩, rfl⟩ := Sh.is_of_trod sh_Token h
  refine ⟨k, s, ?_, hs⟩
  rw [hv, ← Array.toArray_toList (xs := v.cells), e]
  rfl
theorem lawIsToken_any (k : Int) (s : ByteArray) (w : World) (hp : PW w) (he : ER w) (hm : s.size ≤ 9223372036854775807) :
    Calls Tryd.prog 7 #[.agg #[.int .i64 k, .string s]] w fun e w' => e = .returned (.bool true) ∧ New w w' := by
  have HP := Lib.hid hp
  have HE := Lib.hid he
  clear hp he
  by_cases hz : szK s 1048576 < 0
  · go_enter Tryd.func7, Tryd.ntmps7
    go_wp2_with fail
    refine (szToken_any k s 1048576 _ (by omega) (by omega) hm).mono ?_; rintro e w1 ⟨rfl, b1⟩
    try with_reducible replace b1 := New.undrawN b1
    try with_reducible replace b1 := New.undraw b1
    obtain ⟨c1, f1⟩ := b1.rules
    have z1 := b1.size
    try simp only [World.size_alloc, World.size_drew, World.heap_drewN, World.size_setCell] at z1
    have z1_0 : w.heap.size < w1.heap.size := by omega
    go_wp2_with fail
    go_ret
    exact ⟨rfl, (by repeat (first | with_reducible exact New.refl _ | with_reducible assumption | with_reducible refine New.drew ?_ | with_reducible refine New.drewN ?_ _ | with_reducible refine New.alloc ?_ _ | with_reducible refine New.setCell ?_ (by first | (simp; done) | (simp; omega) | omega) _ | with_reducible refine New.trans ?_ (by with_reducible assumption)))⟩
  · have hs : s.size ≤ 1048576 := by rw [szK] at hz; split at hz <;> omega
    have hbd : -1 ≤ szK s 1048576 ∧ szK s 1048576 ≤ 1048576 := by rw [szK]; split <;> omega
    go_enter Tryd.func7, Tryd.ntmps7
    go_wp2_with fail
    refine (szToken_any k s 1048576 _ (by omega) (by omega) hm).mono ?_; rintro e w1 ⟨rfl, b1⟩
    try with_reducible replace b1 := New.undrawN b1
    try with_reducible replace b1 := New.undraw b1
    obtain ⟨c1, f1⟩ := b1.rules
    have z1 := b1.size
    try simp only [World.size_alloc, World.size_drew, World.heap_drewN, World.size_setCell] at z1
    have z1_0 : w.heap.size < w1.heap.size := by omega
    go_wp2_with fail
    refine (toToken_any k s _).mono ?_; rintro e w2 ⟨rfl, b2⟩
    try with_reducible replace b2 := New.undrawN b2
    try with_reducible replace b2 := New.undraw b2
    obtain ⟨c2, f2⟩ := b2.rules
    have z2 := b2.size
    try simp only [World.size_alloc, World.size_drew, World.heap_drewN, World.size_setCell] at z2
    have z2_0 : w.heap.size < w2.heap.size := by omega
    go_wp2_with fail
    refine (sIsToken_any k s _ hs).mono ?_; rintro e w3 ⟨rfl, b3⟩
    try with_reducible replace b3 := New.undrawN b3
    try with_reducible replace b3 := New.undraw b3
    obtain ⟨c3, f3⟩ := b3.rules
    have z3 := b3.size
    try simp only [World.size_alloc, World.size_drew, World.heap_drewN, World.size_setCell] at z3
    have z3_0 : w.heap.size < w3.heap.size := by omega
    go_wp2_with fail
    refine (toToken_any k s _).mono ?_; rintro e w4 ⟨rfl, b4⟩
    try with_reducible replace b4 := New.undrawN b4
    try with_reducible replace b4 := New.undraw b4
    obtain ⟨c4, f4⟩ := b4.rules
    have z4 := b4.size
    try simp only [World.size_alloc, World.size_drew, World.heap_drewN, World.size_setCell] at z4
    have z4_0 : w.heap.size < w4.heap.size := by omega
    go_wp2_with fail
    refine (iIsToken_any k s _ hs (HP.out.new (by repeat (first | with_reducible exact New.refl _ | with_reducible assumption | with_reducible refine New.drew ?_ | with_reducible refine New.drewN ?_ _ | with_reducible refine New.alloc ?_ _ | with_reducible refine New.setCell ?_ (by first | (simp; done) | (simp; omega) | omega) _ | with_reducible refine New.trans ?_ (by with_reducible assumption)))) (HE.out.new (by repeat (first | with_reducible exact New.refl _ | with_reducible assumption | with_reducible refine New.drew ?_ | with_reducible refine New.drewN ?_ _ | with_reducible refine New.alloc ?_ _ | with_reducible refine New.setCell ?_ (by first | (simp; done) | (simp; omega) | omega) _ | with_reducible refine New.trans ?_ (by with_reducible assumption))))).mono ?_; rintro e w5 ⟨rfl, b5⟩
    try with_reducible replace b5 := New.undrawN b5
    try with_reducible replace b5 := New.undraw b5
    obtain ⟨c5, f5⟩ := b5.rules
    have z5 := b5.size
    try simp only [World.size_alloc, World.size_drew, World.heap_drewN, World.size_setCell] at z5
    have z5_0 : w.heap.size < w5.heap.size := by omega
    go_wp2_with fail
    go_ret
    exact ⟨rfl, (by repeat (first | with_reducible exact New.refl _ | with_reducible assumption | with_reducible refine New.drew ?_ | with_reducible refine New.drewN ?_ _ | with_reducible refine New.alloc ?_ _ | with_reducible refine New.setCell ?_ (by first | (simp; done) | (simp; omega) | omega) _ | with_reducible refine New.trans ?_ (by with_reducible assumption)))⟩
namespace fnExactIsToken
theorem own : ownKnob Tryd.prog.godebug = none := by kernel_rfl
theorem reads : (Tryd.f7.params.toList.all fun t => Tryd.prog.readableRec t && decide (t < Tryd.prog.types.size)) = true := by kernel_rfl
set_option maxRecDepth 100000 in
noncomputable def low : Nat := (World.holding Tryd.prog default ⟨#[], #[], []⟩).heap.size
noncomputable def cells0 : Array Value := #[.int .u8 0, .int .u8 1, .int .u8 28, .int .u8 2, .int .u8 29, .int .u8 14, .int .u8 24, .int .u8 3, .int .u8 30, .int .u8 22, .int .u8 20, .int .u8 15, .int .u8 25, .int .u8 17, .int .u8 4, .int .u8 8, .int .u8 31, .int .u8 27, .int .u8 13, .int .u8 23, .int .u8 21, .int .u8 19, .int .u8 16, .int .u8 7, .int .u8 26, .int .u8 12, .int .u8 18, .int .u8 6, .int .u8 11, .int .u8 5, .int .u8 10, .int .u8 9]
noncomputable def cells1 : Array Value := #[.int .u8 0, .int .u8 1, .int .u8 56, .int .u8 2, .int .u8 57, .int .u8 49, .int .u8 28, .int .u8 3, .int .u8 61, .int .u8 58, .int .u8 42, .int .u8 50, .int .u8 38, .int .u8 29, .int .u8 17, .int .u8 4, .int .u8 62, .int .u8 47, .int .u8 59, .int .u8 36, .int .u8 45, .int .u8 43, .int .u8 51, .int .u8 22, .int .u8 53, .int .u8 39, .int .u8 33, .int .u8 30, .int .u8 24, .int .u8 18, .int .u8 12, .int .u8 5, .int .u8 63, .int .u8 55, .int .u8 48, .int .u8 27, .int .u8 60, .int .u8 41, .int .u8 37, .int .u8 16, .int .u8 46, .int .u8 35, .int .u8 44, .int .u8 21, .int .u8 52, .int .u8 32, .int .u8 23, .int .u8 11, .int .u8 54, .int .u8 26, .int .u8 40, .int .u8 15, .int .u8 34, .int .u8 20, .int .u8 31, .int .u8 10, .int .u8 25, .int .u8 14, .int .u8 19, .int .u8 9, .int .u8 13, .int .u8 8, .int .u8 7, .int .u8 6]
noncomputable def cells2 : Array Value := #[.int .u64 1, .int .u64 10, .int .u64 100, .int .u64 1000, .int .u64 10000, .int .u64 100000, .int .u64 1000000, .int .u64 10000000, .int .u64 100000000, .int .u64 1000000000, .int .u64 10000000000, .int .u64 100000000000, .int .u64 1000000000000, .int .u64 10000000000000, .int .u64 100000000000000, .int .u64 1000000000000000, .int .u64 10000000000000000, .int .u64 100000000000000000, .int .u64 1000000000000000000, .int .u64 10000000000000000000]
noncomputable def cells3 : Array Value := #[.iface 145 (.pointer (some ⟨low + 0, 0, none⟩))]
noncomputable def cells4 : Array Value := #[.iface 145 (.pointer (some ⟨low + 1, 0, none⟩))]
noncomputable def laidWorld (os : Os) : World :=
  let w0 := World.holding Tryd.prog os ⟨#[.cells #[.string ⟨#[118, 97, 108, 117, 101, 32, 111, 117, 116, 32, 111, 102, 32, 114, 97, 110, 103, 101]⟩] 147, .cells #[.string ⟨#[105, 110, 118, 97, 108, 105, 100, 32, 115, 121, 110, 116, 97, 120]⟩] 147], #[], []⟩
  { w0 with heap := (((((w0.heap.modify 6 fun | .cells _ t frozen => .cells cells0 t frozen | o => o).modify 7 fun | .cells _ t frozen => .cells cells1 t frozen | o => o).modify 3 fun | .cells _ t frozen => .cells cells2 t frozen | o => o).modify 2 fun | .cells _ t frozen => .cells cells3 t frozen | o => o).modify 1 fun | .cells _ t frozen => .cells cells4 t frozen | o => o) }
theorem laid_met (os : Os) : laidMet Tryd.prog Rows.fnExactIsTokenRow.laid ((laidWorld os).forCall (fun _ _ => 0) ⟨#[], #[.agg #[.int .i64 0, .string ⟨#[]⟩]], []⟩).memory :=
  laidMet_of_run' 8 (by kernel_rfl) (by kernel_rfl)
theorem reading (os : Os) {H : Type} (enc : TypeId × Value → H) : ∃ x, DataW.whole enc Tryd.prog ((laidWorld os).forCall (fun _ _ => 0) ⟨#[], #[.agg #[.int .i64 0, .string ⟨#[]⟩]], []⟩).memory Tryd.f7.params.toList Rows.fnExactIsTokenSpec.vars false (#[.agg #[.int .i64 0, .string ⟨#[]⟩]] : Array Value).toList 8 = some x :=
  Option.isSome_iff_exists.1 (by kernel_rfl)
theorem lifted (os : Os) (started : os.Started) (H : Type) (enc : TypeId × Value → H) (F : Stop.Interp) :
    ReturnsInHanded {} Tryd.checked os 7 .any ((OpenSpec.ofChange Rows.fnExactIsTokenSpec).preRow enc Tryd.prog Tryd.f7 Rows.fnExactIsTokenRow.domain false Rows.fnExactIsTokenRow.laid) (((OpenSpec.ofChange Rows.fnExactIsTokenSpec).at F).post enc Tryd.prog Tryd.f7 false true false false) := by
  obtain ⟨x, hx⟩ := reading os enc
  refine returnsInHanded_of_row (C := Tryd.checked) (s := OpenSpec.ofChange Rows.fnExactIsTokenSpec) own started (by kernel_rfl) Tryd.func7
    (witness_row_at (enc := enc) (C := Tryd.checked) false (laidWorld os) #[.agg #[.int .i64 0, .string ⟨#[]⟩]] rfl (by kernel_rfl) (by kernel_rfl) (by kernel_rfl)
      (OpenSpec.preRow_of_cond 8 hx (by first | rfl | kernel_rfl) (fun k hk => by cases hk) (by kernel_rfl) (laid_met os))) ?_
  intro W base args ds gs before hval0 hW _ _ _ hL hSh _
  have hM : laidMet Tryd.prog Rows.fnExactIsTokenRow.laid W := hL
  have hpw : PW W := pw_of_laid (show laidMet Tryd.prog (_ :: _ :: _ :: _) W from hM).tail.tail
  have her : ER W := er_of_laid (show laidMet Tryd.prog (_ :: _ :: _ :: _ :: _) W from hM).tail.tail.tail (show laidMet Tryd.prog (_ :: _ :: _ :: _ :: _ :: _) W from hM).tail.tail.tail.tail
  have hval : ∀ (j : Nat) t v, Tryd.f7.params[j]? = some t → args[j]? = some v → Value.okWide Tryd.prog W .any base t v := hval0
  have hW' := hW
  obtain ⟨p, q, hA0, hV, rfl, hfz, hnd⟩ := hW
  have hA : DataW.TrodAll enc Tryd.prog W 0 (fun _ => true) true Tryd.f7.params.toList args.toList ds p := hA0
  rw [Tryd.params7] at hA hval
  obtain ⟨v0, vs0, d0, ds0, p0, q0, hargs, rfl, rfl, h0, r0⟩ := trodAll_cons hA
  obtain ⟨rfl, rfl, rfl⟩ := trodAll_nil r0
  obtain rfl : args = #[v0] := by cases args; simp_all
  have o0 := hval 0 42 v0 rfl rfl
  clear hA0 hval hval0
  obtain ⟨rfl, rfl⟩ := trodVars_none hV
  have walk : Calls Tryd.prog 7 #[v0] W fun e w' => e = .returned (.bool true) ∧ New W w' := by
    obtain ⟨k, s, rfl, hs⟩ := openToken h0 o0
    exact lawIsToken_any k s W hpw her hs
  refine walk.mono fun e W' ⟨he, hg⟩ => ?_
  subst he
  exact ⟨_, rfl, law_post laidOut (fun t ht => reads_of reads t ht) (fun n hn => by cases hn) rfl Tryd.underlying4 hW' rfl hg⟩
theorem said : Rows.FnExactIsTokenSaid :=
  OpenClaim.holds_of_cond 7 Tryd.f7 rfl rfl rfl rfl rfl rfl rfl ⟨rfl, rfl, rfl, rfl, rfl⟩ rfl rfl rfl rfl rfl (by kernel_rfl) Tryd.func7 (by kernel_rfl)
    (of_decide_eq_true (by kernel_rfl)) (by unfold Func.isWrapper; first | (rw [if_pos (by decide +kernel)]; kernel_rfl) | (rw [if_neg (by decide +kernel)]; exact ⟨rfl, rfl⟩))
    (fun os started H enc _ F => by rw [OpenClaim.pre_eq_preRow]; exact lifted os started H enc F)
theorem plain (f : FuncId) (fn : Func) (hf : Tryd.pinned.checked.prog.funcNamed "loop.example/g00916/laws.FnExactIsToken" = some f) (hfn : Tryd.pinned.checked.prog.funcs[f]? = some fn) :
    true = Tryd.pinned.checked.prog.looks [] ∧ ∀ (j : Nat) t, fn.params[j]? = some t → Tryd.pinned.checked.prog.wantsStandIn t = false := by
  obtain rfl : f = 7 := Option.some.inj ((show Tryd.prog.funcNamed "loop.example/g00916/laws.FnExactIsToken" = some 7 by kernel_rfl).symm.trans hf) |>.symm
  obtain rfl : fn = Tryd.f7 := (Option.some.inj (Tryd.func7.symm.trans hfn)).symm
  refine ⟨by kernel_rfl, fun j t ht => ?_⟩
  rw [Tryd.params7] at ht
  have hm : t ∈ ([42] : List TypeId) := by simpa using Array.mem_of_getElem? ht
  have all : (([42] : List TypeId).all fun t => !Tryd.prog.wantsStandIn t) = true := by kernel_rfl
  have := List.all_eq_true.1 all t hm
  show Tryd.prog.wantsStandIn t = false
  exact (Bool.not_eq_true _).mp (fun h => by rw [h] at this; cases this)
theorem card : Rows.FnExactIsTokenCardSaid :=
  Claim7.holds_tied_plain_at .later [] _ _ _ _ said (fun _ h => by cases h) (by kernel_rfl) (fun _ h => by cases h) fnExactIsToken_row_tie rfl ⟨rfl, rfl⟩ (by kernel_rfl) rfl plain (by kernel_rfl)
#print axioms card
end fnExactIsToken
end Go.Proofs.YtndpgdkgjnfalaaDoor
