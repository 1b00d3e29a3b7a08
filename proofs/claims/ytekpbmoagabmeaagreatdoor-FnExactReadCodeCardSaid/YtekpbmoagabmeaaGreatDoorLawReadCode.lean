/- The program's ReadCode returns what the reference's returns, for every argument. No condition but the row's own: the listed tables hold what the program's text lays. -/
import Derived.Test.YtekpbmoagabmeaaGreatDoorRows
import Derived.Test.YtekpbmoagabmeaaGreatDoorCards
import Derived.Test.YtekpbmoagabmeaaGreatDoorTie
import Derived.Test.YtekpbmoagabmeaaGreatDoorShape
import Derived.Test.YtekpbmoagabmeaaGreatDoorMrgA
import Derived.Test.YtekpbmoagabmeaaGreatDoorKeys
import Derived.Test.YtekpbmoagabmeaaGreatDoorRdcI
import Derived.Test.YtekpbmoagabmeaaGreatDoorRdcV
import Derived.Test.YtekpbmoagabmeaaGreatDoorMrgB
import Derived.Test.YtekpbmoagabmeaaGreatDoorMrgD
import Derived.Test.YtekpbmoagabmeaaGreatDoorRegion
import Derived.Test.YtekpbmoagabmeaaGreatDoorCells
namespace Go.Proofs.YtekpbmoagabmeaaGreatDoor
open Go Go.Proofs Go.RowKit Go.ChangeShapes Go.WideShapes Go.ChangeAt
set_option linter.unusedVariables false
set_option linter.unusedSimpArgs false
set_option maxRecDepth 100000
theorem blk_turnedR {B E b : Nat} {w w' : World} {cs : Array Value} {T : TypeId} (h : Blk w b cs T) (ht : Turned B E w w') (hb : b < B ∨ E ≤ b) : Blk w' b cs T := by
  rcases hb with hb | hb
  · exact (Below.block ht.1 b hb).trans h
  · exact (ht.2 b hb h.lt).trans h
theorem rdc_bd (l : List UInt8) : ((rdcI l).getD zC).blocks.length ≤ 1048576 ∧ ((rdcI l).getD zC).steps.length ≤ 1048576 := by
  cases h : rdcI l with
  | none => simp [zC]
  | some c =>
    obtain ⟨h1, _⟩ := rdcI_ok h
    have hh := code_head h1
    dsimp only [Option.getD]
    omega
set_option maxHeartbeats 4000000 in
theorem lawReadCode_any (s : ByteArray) (w : World) (hm : ML w) (hk : KW w) (hp : PW w) (he : ER w) :
    Calls Tryz.prog 3 #[.string s] w fun e w' => e = .returned (.bool true) ∧ New w w' := by
  have HM := Lib.hid hm; clear hm
  have HK := Lib.hid hk; clear hk
  have HPW := Lib.hid hp; clear hp
  have HER := Lib.hid he; clear he
  by_cases hz0 : (1048576 : Int) < (s.size : Int)
  · go_enter Tryz.func3, Tryz.ntmps3
    go_wp2_with fail
    go_ret
    exact ⟨rfl, (by repeat (first | with_reducible exact New.refl _ | with_reducible assumption | with_reducible refine New.drew ?_ | with_reducible refine New.drewN ?_ _ | with_reducible refine New.alloc ?_ _ | with_reducible refine New.setCell ?_ (by first | (simp; done) | (simp; omega) | omega) _ | with_reducible refine New.trans ?_ (by with_reducible assumption)))⟩
  have hs : s.size ≤ 1048576 := by omega
  have HS := fun (w0 : World) => sReadCode_any s w0 hs
  have HI := fun (w0 : World) (hn : New w w0) => iReadCode_any s w0 hs (HM.out.new hn) (HK.out.new hn) (HPW.out.new hn) (HER.out.new hn)
  obtain ⟨hD1, hD2⟩ := rdc_bd s.data.toList
  rw [rdc_same] at HS
  unfold RetRC at HS HI
  generalize (rdcI s.data.toList).getD zC = D at *
  generalize (rdcI s.data.toList).isSome = ok at HS HI
  replace HS := Lib.hid HS
  replace HI := Lib.hid HI
  have hbb : (ok != ok) = false := by simp
  have hqq : (((1 + D.blocks.length * 3 + D.steps.length * 2 : Nat) : Int) != ((1 + D.blocks.length * 3 + D.steps.length * 2 : Nat) : Int)) = false := by simp
  go_enter Tryz.func3, Tryz.ntmps3
  go_wp2_with fail
  refine (HS.out _).mono ?_; rintro e w1 ⟨r1, s1, rfl, b1, o1, o1'⟩
  obtain ⟨a1, k1, rfl⟩ := own_slice o1; obtain ⟨a1', k1', rfl⟩ := own_slice o1'
  obtain ⟨c1, f1⟩ := b1.rules
  have z1 := b1.size
  try simp only [World.size_alloc, World.size_drew, World.heap_drewN, World.size_setCell] at z1
  go_wp2_with fail
  refine (HI.out _ (by repeat (first | with_reducible exact New.refl _ | with_reducible assumption | with_reducible refine New.drew ?_ | with_reducible refine New.drewN ?_ _ | with_reducible refine New.alloc ?_ _ | with_reducible refine New.setCell ?_ (by first | (simp; done) | (simp; omega) | omega) _ | with_reducible refine New.trans ?_ (by with_reducible assumption)))).mono ?_; rintro e w2 ⟨r2, s2, rfl, b2, o2, o2'⟩
  obtain ⟨a2, k2, rfl⟩ := own_slice o2; obtain ⟨a2', k2', rfl⟩ := own_slice o2'; simp only [World.size_alloc] at o2 o2'
  obtain ⟨c2, f2⟩ := b2.rules
  have z2 := b2.size
  try simp only [World.size_alloc, World.size_drew, World.heap_drewN, World.size_setCell] at z2
  have z2_0 : w1.heap.size < w2.heap.size := by omega
  go_wp2_with fail
  have R1 := Lib.hid (own_rd o1)
  have R1' := Lib.hid (own_rd o1')
  clear o1 o1'
  refine (eqCode_any D _ _ _ _ _ (Rd.new (own_rd o2) (by repeat (first | with_reducible exact New.refl _ | with_reducible assumption | with_reducible refine New.drew ?_ | with_reducible refine New.drewN ?_ _ | with_reducible refine New.alloc ?_ _ | with_reducible refine New.setCell ?_ (by first | (simp; done) | (simp; omega) | omega) _ | with_reducible refine New.trans ?_ (by with_reducible assumption)))) (Rd.new (own_rd o2') (by repeat (first | with_reducible exact New.refl _ | with_reducible assumption | with_reducible refine New.drew ?_ | with_reducible refine New.drewN ?_ _ | with_reducible refine New.alloc ?_ _ | with_reducible refine New.setCell ?_ (by first | (simp; done) | (simp; omega) | omega) _ | with_reducible refine New.trans ?_ (by with_reducible assumption)))) (Rd.new R1.out (by repeat (first | with_reducible exact New.refl _ | with_reducible assumption | with_reducible refine New.drew ?_ | with_reducible refine New.drewN ?_ _ | with_reducible refine New.alloc ?_ _ | with_reducible refine New.setCell ?_ (by first | (simp; done) | (simp; omega) | omega) _ | with_reducible refine New.trans ?_ (by with_reducible assumption)))) (Rd.new R1'.out (by repeat (first | with_reducible exact New.refl _ | with_reducible assumption | with_reducible refine New.drew ?_ | with_reducible refine New.drewN ?_ _ | with_reducible refine New.alloc ?_ _ | with_reducible refine New.setCell ?_ (by first | (simp; done) | (simp; omega) | omega) _ | with_reducible refine New.trans ?_ (by with_reducible assumption))))).mono ?_; rintro e w3 ⟨rfl, b3⟩
  try with_reducible replace b3 := New.undrawN b3
  try with_reducible replace b3 := New.undraw b3
  obtain ⟨c3, f3⟩ := b3.rules
  have z3 := b3.size
  try simp only [World.size_alloc, World.size_drew, World.heap_drewN, World.size_setCell] at z3
  have z3_0 : w1.heap.size < w3.heap.size := by omega
  have z3_1 : w2.heap.size < w3.heap.size := by omega
  go_wp2_with fail
  have hub := own_block_lt o2
  have hvb := own_block_lt o2'
  have N23 : New w2 w3 := ((New.refl w2).alloc _).trans b3
  have o23 := own_new o2 N23
  have o23' := own_new o2' N23
  have K2 : Blk w3 w2.heap.size #[.int .i64 D.ins, .int .i64 D.vars, .int .i64 D.outs, .slice a2 D.blocks.length k2, .slice a2' D.steps.length k2'] 25 := (Blk.alloc_at rfl).new b3
  have N12 : New w1 w2 := ((New.refl w1).alloc _).trans b2
  have N13 : New (w1.alloc (.cells #[.int .i64 D.ins, .int .i64 D.vars, .int .i64 D.outs, .slice a1 D.blocks.length k1, .slice a1' D.steps.length k1'] 25)) w3 := b2.trans N23
  have K1 : Blk w3 w1.heap.size #[.int .i64 D.ins, .int .i64 D.vars, .int .i64 D.outs, .slice a1 D.blocks.length k1, .slice a1' D.steps.length k1'] 25 := (Blk.alloc_at rfl).new N13
  have N03 : New w w3 := b1.trans (N12.trans N23)
  refine (markCode2_any D _ _ (w1.heap.size + 1) w2.heap.size 1 _ o23 o23' (own_ne_ownK o23 o23' (by decide)) (by omega) hD1 hD2 (fun k hk => (hub k hk).2) (fun k hk => (hvb k hk).2) (by omega) (by omega)).mono ?_
  rintro e w4 ⟨rfl, t4, m4, m4'⟩
  have N14 := t4.new N13 (by simp)
  have N04 := t4.new N03 (by have := b1.size; omega)
  have z4 := Below.size t4.1
  have K14 := blk_turnedR K1 t4 (.inl (by omega))
  have K24 := blk_turnedR K2 t4 (.inr (by omega))
  have N1 : New w1 w4 := ((New.refl w1).alloc _).trans N14
  clear c1 f1 c2 f2 c3 f3 t4 o2 o2' o23 o23' K1 K2 hub hvb N13 N23
  have M4 := Lib.hid m4
  have M4' := Lib.hid m4'
  clear m4 m4'
  obtain ⟨cX, fX⟩ := K14.rules
  obtain ⟨d2, g2⟩ := K24.rules
  have y4_0 : w1.heap.size < w4.heap.size := by omega
  have y4_1 : w2.heap.size < w4.heap.size := by omega
  go_wp2_with fail
  refine (heldCode_any D.ins D.vars D.outs _ _ 1 D.blocks.length D.steps.length _ M4.out M4'.out (by omega) hD1 hD2).mono ?_; rintro e w5 ⟨rfl, b5⟩
  try with_reducible replace b5 := New.undrawN b5
  try with_reducible replace b5 := New.undraw b5
  obtain ⟨c5, f5⟩ := b5.rules
  have z5 := b5.size
  try simp only [World.size_alloc, World.size_drew, World.heap_drewN, World.size_setCell] at z5
  have z5_0 : w1.heap.size < w5.heap.size := by omega
  have z5_1 : w2.heap.size < w5.heap.size := by omega
  go_wp2_with fail
  have N05 := N04.trans b5
  have N15 := N1.trans b5
  refine (HI.out _ N05).mono ?_; rintro e w6 ⟨r6, s6, rfl, b6, o6, o6'⟩
  obtain ⟨a6, k6, rfl⟩ := own_slice o6; obtain ⟨a6', k6', rfl⟩ := own_slice o6'
  obtain ⟨c6, f6⟩ := b6.rules
  have z6 := b6.size
  try simp only [World.size_alloc, World.size_drew, World.heap_drewN, World.size_setCell] at z6
  have z6_0 : w1.heap.size < w6.heap.size := by omega
  have z6_1 : w2.heap.size < w6.heap.size := by omega
  go_wp2_with fail
  have N16 := N15.trans b6
  refine (eqCode_any D _ _ _ _ _ (Rd.new (own_rd o6) (by repeat (first | with_reducible exact New.refl _ | with_reducible assumption | with_reducible refine New.drew ?_ | with_reducible refine New.drewN ?_ _ | with_reducible refine New.alloc ?_ _ | with_reducible refine New.setCell ?_ (by first | (simp; done) | (simp; omega) | omega) _ | with_reducible refine New.trans ?_ (by with_reducible assumption)))) (Rd.new (own_rd o6') (by repeat (first | with_reducible exact New.refl _ | with_reducible assumption | with_reducible refine New.drew ?_ | with_reducible refine New.drewN ?_ _ | with_reducible refine New.alloc ?_ _ | with_reducible refine New.setCell ?_ (by first | (simp; done) | (simp; omega) | omega) _ | with_reducible refine New.trans ?_ (by with_reducible assumption)))) (Rd.new R1.out (N16.alloc _)) (Rd.new R1'.out (N16.alloc _))).mono ?_; rintro e w7 ⟨rfl, b7⟩
  try with_reducible replace b7 := New.undrawN b7
  try with_reducible replace b7 := New.undraw b7
  obtain ⟨c7, f7⟩ := b7.rules
  have z7 := b7.size
  try simp only [World.size_alloc, World.size_drew, World.heap_drewN, World.size_setCell] at z7
  have z7_0 : w1.heap.size < w7.heap.size := by omega
  have z7_1 : w2.heap.size < w7.heap.size := by omega
  go_wp2_with fail
  have N47 : New w4 w7 := b5.trans (b6.trans (((New.refl w6).alloc _).trans b7))
  refine (heldCode_any D.ins D.vars D.outs _ _ 1 D.blocks.length D.steps.length _ (Rd.new M4.out N47) (Rd.new M4'.out N47) (by omega) hD1 hD2).mono ?_; rintro e w8 ⟨rfl, b8⟩
  try with_reducible replace b8 := New.undrawN b8
  try with_reducible replace b8 := New.undraw b8
  obtain ⟨c8, f8⟩ := b8.rules
  have z8 := b8.size
  try simp only [World.size_alloc, World.size_drew, World.heap_drewN, World.size_setCell] at z8
  have z8_0 : w1.heap.size < w8.heap.size := by omega
  have z8_1 : w2.heap.size < w8.heap.size := by omega
  go_wp2_with fail
  go_ret
  exact ⟨rfl, (N04.trans N47).trans b8⟩
namespace fnExactReadCode
theorem own : ownKnob Tryz.prog.godebug = none := by kernel_rfl
theorem reads : (Tryz.f3.params.toList.all fun t => Tryz.prog.readableRec t && decide (t < Tryz.prog.types.size)) = true := by kernel_rfl
set_option maxRecDepth 100000 in
noncomputable def low : Nat := (World.holding Tryz.prog default ⟨#[], #[], []⟩).heap.size
noncomputable def cells0 : Array Value := #[.int .u8 0, .int .u8 1, .int .u8 28, .int .u8 2, .int .u8 29, .int .u8 14, .int .u8 24, .int .u8 3, .int .u8 30, .int .u8 22, .int .u8 20, .int .u8 15, .int .u8 25, .int .u8 17, .int .u8 4, .int .u8 8, .int .u8 31, .int .u8 27, .int .u8 13, .int .u8 23, .int .u8 21, .int .u8 19, .int .u8 16, .int .u8 7, .int .u8 26, .int .u8 12, .int .u8 18, .int .u8 6, .int .u8 11, .int .u8 5, .int .u8 10, .int .u8 9]
noncomputable def cells1 : Array Value := #[.int .u8 0, .int .u8 1, .int .u8 56, .int .u8 2, .int .u8 57, .int .u8 49, .int .u8 28, .int .u8 3, .int .u8 61, .int .u8 58, .int .u8 42, .int .u8 50, .int .u8 38, .int .u8 29, .int .u8 17, .int .u8 4, .int .u8 62, .int .u8 47, .int .u8 59, .int .u8 36, .int .u8 45, .int .u8 43, .int .u8 51, .int .u8 22, .int .u8 53, .int .u8 39, .int .u8 33, .int .u8 30, .int .u8 24, .int .u8 18, .int .u8 12, .int .u8 5, .int .u8 63, .int .u8 55, .int .u8 48, .int .u8 27, .int .u8 60, .int .u8 41, .int .u8 37, .int .u8 16, .int .u8 46, .int .u8 35, .int .u8 44, .int .u8 21, .int .u8 52, .int .u8 32, .int .u8 23, .int .u8 11, .int .u8 54, .int .u8 26, .int .u8 40, .int .u8 15, .int .u8 34, .int .u8 20, .int .u8 31, .int .u8 10, .int .u8 25, .int .u8 14, .int .u8 19, .int .u8 9, .int .u8 13, .int .u8 8, .int .u8 7, .int .u8 6]
noncomputable def cells2 : Array Value := #[.int .u64 1, .int .u64 10, .int .u64 100, .int .u64 1000, .int .u64 10000, .int .u64 100000, .int .u64 1000000, .int .u64 10000000, .int .u64 100000000, .int .u64 1000000000, .int .u64 10000000000, .int .u64 100000000000, .int .u64 1000000000000, .int .u64 10000000000000, .int .u64 100000000000000, .int .u64 1000000000000000, .int .u64 10000000000000000, .int .u64 100000000000000000, .int .u64 1000000000000000000, .int .u64 10000000000000000000]
noncomputable def cells3 : Array Value := #[.int .u8 128, .int .u8 191, .int .u8 160, .int .u8 191, .int .u8 128, .int .u8 159, .int .u8 144, .int .u8 191, .int .u8 128, .int .u8 143, .int .u8 0, .int .u8 0, .int .u8 0, .int .u8 0, .int .u8 0, .int .u8 0, .int .u8 0, .int .u8 0, .int .u8 0, .int .u8 0, .int .u8 0, .int .u8 0, .int .u8 0, .int .u8 0, .int .u8 0, .int .u8 0, .int .u8 0, .int .u8 0, .int .u8 0, .int .u8 0, .int .u8 0, .int .u8 0]
noncomputable def cells4 : Array Value := #[.iface 225 (.pointer (some ⟨low + 0, 0, none⟩))]
noncomputable def cells5 : Array Value := #[.iface 225 (.pointer (some ⟨low + 1, 0, none⟩))]
noncomputable def cells6 : Array Value := (keyData.map fun z => Value.string (kw z)).toArray
noncomputable def cells7 : Array Value := (Go.Pinned.utf8FirstZ.map fun (z : Nat) => Value.int .u8 (z : Int)).toArray
noncomputable def laidWorld (os : Os) : World :=
  let w0 := World.holding Tryz.prog os ⟨#[.cells #[.string ⟨#[118, 97, 108, 117, 101, 32, 111, 117, 116, 32, 111, 102, 32, 114, 97, 110, 103, 101]⟩] 227, .cells #[.string ⟨#[105, 110, 118, 97, 108, 105, 100, 32, 115, 121, 110, 116, 97, 120]⟩] 227], #[], []⟩
  { w0 with heap := ((((((((w0.heap.modify 7 fun | .cells _ t frozen => .cells cells0 t frozen | o => o).modify 8 fun | .cells _ t frozen => .cells cells1 t frozen | o => o).modify 6 fun | .cells _ t frozen => .cells cells2 t frozen | o => o).modify 5 fun | .cells _ t frozen => .cells cells3 t frozen | o => o).modify 3 fun | .cells _ t frozen => .cells cells4 t frozen | o => o).modify 2 fun | .cells _ t frozen => .cells cells5 t frozen | o => o).modify 0 fun | .cells _ t frozen => .cells cells6 t frozen | o => o).modify 4 fun | .cells _ t frozen => .cells cells7 t frozen | o => o) }
theorem laid_met (os : Os) : laidMet Tryz.prog Rows.fnExactReadCodeRow.laid ((laidWorld os).forCall (fun _ _ => 0) ⟨#[], #[.string ⟨#[]⟩], []⟩).memory :=
  laidMet_of_run' 8 (by kernel_rfl) (by kernel_rfl)
theorem reading (os : Os) {H : Type} (enc : TypeId × Value → H) : ∃ x, DataW.whole enc Tryz.prog ((laidWorld os).forCall (fun _ _ => 0) ⟨#[], #[.string ⟨#[]⟩], []⟩).memory Tryz.f3.params.toList Rows.fnExactReadCodeSpec.vars false (#[.string ⟨#[]⟩] : Array Value).toList 8 = some x :=
  Option.isSome_iff_exists.1 (by kernel_rfl)
theorem lifted (os : Os) (started : os.Started) (H : Type) (enc : TypeId × Value → H) (F : Stop.Interp) :
    ReturnsInHanded {} Tryz.checked os 3 .any ((OpenSpec.ofChange Rows.fnExactReadCodeSpec).preRow enc Tryz.prog Tryz.f3 Rows.fnExactReadCodeRow.domain false Rows.fnExactReadCodeRow.laid) (((OpenSpec.ofChange Rows.fnExactReadCodeSpec).at F).post enc Tryz.prog Tryz.f3 false true false false) := by
  obtain ⟨x, hx⟩ := reading os enc
  refine returnsInHanded_of_row (C := Tryz.checked) (s := OpenSpec.ofChange Rows.fnExactReadCodeSpec) own started (by kernel_rfl) Tryz.func3
    (witness_row_at (enc := enc) (C := Tryz.checked) false (laidWorld os) #[.string ⟨#[]⟩] rfl (by kernel_rfl) (by kernel_rfl) (by kernel_rfl)
      (OpenSpec.preRow_of_cond 8 hx (by first | rfl | kernel_rfl) (fun k hk => by cases hk) (by kernel_rfl) (laid_met os))) ?_
  intro W base args ds gs before hval0 hW _ _ _ hL hSh _
  have hM : laidMet Tryz.prog Rows.fnExactReadCodeRow.laid W := hL
  have hpw : PW W := pw_of_laid (show laidMet Tryz.prog (_ :: _ :: _ :: _) W from hM).tail.tail
  have her : ER W := er_of_laid (show laidMet Tryz.prog (_ :: _ :: _ :: _ :: _ :: _) W from hM).tail.tail.tail.tail (show laidMet Tryz.prog (_ :: _ :: _ :: _ :: _ :: _ :: _) W from hM).tail.tail.tail.tail.tail
  have hkw : KW W := KW.of_var (keys_of_head (g := 0) (by kernel_rfl) (by kernel_rfl) Tryz.underlying65 Tryz.underlying9 (by kernel_rfl) (by kernel_rfl) (show laidMet Tryz.prog (_ :: _ :: _ :: _ :: _ :: _ :: _ :: _) W from hM).tail.tail.tail.tail.tail.tail)
  have hval : ∀ (j : Nat) t v, Tryz.f3.params[j]? = some t → args[j]? = some v → Value.okWide Tryz.prog W .any base t v := hval0
  have hW' := hW
  obtain ⟨p, q, hA0, hV, rfl, hfz, hnd⟩ := hW
  have hA : DataW.TrodAll enc Tryz.prog W 0 (fun _ => true) true Tryz.f3.params.toList args.toList ds p := hA0
  rw [Tryz.params3] at hA hval
  obtain ⟨v0, vs0, d0, ds0, p0, q0, hargs, rfl, rfl, h0, r0⟩ := trodAll_cons hA
  obtain ⟨rfl, rfl, rfl⟩ := trodAll_nil r0
  obtain rfl : args = #[v0] := by cases args; simp_all
  have o0 := hval 0 9 v0 rfl rfl
  clear hA0 hval hval0
  obtain ⟨_, _, _, _, gd, _, rfl, _, _, _, _, rfl⟩ := trodVars_one hV
  have walk : Calls Tryz.prog 3 #[v0] W fun e w' => e = .returned (.bool true) ∧ New W w' := by
    obtain ⟨s, rfl, hs⟩ := openStr h0 o0
    exact lawReadCode_any s W (ml_shaped W hSh) hkw hpw her
  refine walk.mono fun e W' ⟨he, hg⟩ => ?_
  subst he
  exact ⟨_, rfl, law_post laidOut (fun t ht => reads_of reads t ht) (fun n hn g t hg ht => by
    obtain rfl : n = "loop.example/g00916/impl.keywords" := List.mem_singleton.1 hn
    obtain rfl : 0 = g := Option.some.inj ((show Tryz.prog.globalNamed "loop.example/g00916/impl.keywords" = some 0 by kernel_rfl).symm.trans hg)
    obtain rfl : 65 = t := Option.some.inj ((show (Tryz.prog.globals[0]?).map (·.type) = some 65 by kernel_rfl).symm.trans ht)
    exact ⟨by kernel_rfl, of_decide_eq_true (by kernel_rfl)⟩) rfl Tryz.underlying4 hW' rfl hg⟩
theorem said : Rows.FnExactReadCodeSaid :=
  OpenClaim.holds_of_cond 3 Tryz.f3 rfl rfl rfl rfl rfl rfl rfl ⟨rfl, rfl, rfl, rfl, rfl⟩ rfl rfl rfl rfl rfl (by kernel_rfl) Tryz.func3 (by kernel_rfl)
    (of_decide_eq_true (by kernel_rfl)) (by unfold Func.isWrapper; first | (rw [if_pos (by decide +kernel)]; kernel_rfl) | (rw [if_neg (by decide +kernel)]; exact ⟨rfl, rfl⟩))
    (fun os started H enc _ F => by rw [OpenClaim.pre_eq_preRow]; exact lifted os started H enc F)
theorem plain (f : FuncId) (fn : Func) (hf : Tryz.pinned.checked.prog.funcNamed "loop.example/g00916/laws.FnExactReadCode" = some f) (hfn : Tryz.pinned.checked.prog.funcs[f]? = some fn) :
    true = Tryz.pinned.checked.prog.looks [] ∧ ∀ (j : Nat) t, fn.params[j]? = some t → Tryz.pinned.checked.prog.wantsStandIn t = false := by
  obtain rfl : f = 3 := Option.some.inj ((show Tryz.prog.funcNamed "loop.example/g00916/laws.FnExactReadCode" = some 3 by kernel_rfl).symm.trans hf) |>.symm
  obtain rfl : fn = Tryz.f3 := (Option.some.inj (Tryz.func3.symm.trans hfn)).symm
  refine ⟨by kernel_rfl, fun j t ht => ?_⟩
  rw [Tryz.params3] at ht
  have hm : t ∈ ([9] : List TypeId) := by simpa using Array.mem_of_getElem? ht
  have all : (([9] : List TypeId).all fun t => !Tryz.prog.wantsStandIn t) = true := by kernel_rfl
  have := List.all_eq_true.1 all t hm
  show Tryz.prog.wantsStandIn t = false
  exact (Bool.not_eq_true _).mp (fun h => by rw [h] at this; cases this)
theorem card : Rows.FnExactReadCodeCardSaid :=
  Claim7.holds_tied_plain_at .later [] _ _ _ _ said (fun _ h => by cases h) (by kernel_rfl) (fun _ h => by cases h) fnExactReadCode_row_tie rfl ⟨rfl, rfl⟩ (by kernel_rfl) rfl plain (by kernel_rfl)
#print axioms card
end fnExactReadCode
end Go.Proofs.YtekpbmoagabmeaaGreatDoor
