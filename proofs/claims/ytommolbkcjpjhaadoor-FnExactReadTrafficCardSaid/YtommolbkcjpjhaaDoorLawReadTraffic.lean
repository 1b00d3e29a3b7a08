/- The program's ReadTraffic returns what the reference's returns, for every argument. No condition but the row's own: the listed tables hold what the program's text lays. -/
import Derived.Test.YtommolbkcjpjhaaDoorRows
import Derived.Test.YtommolbkcjpjhaaDoorCards
import Derived.Test.YtommolbkcjpjhaaDoorTie
import Derived.Test.YtommolbkcjpjhaaDoorShape
import Derived.Test.YtommolbkcjpjhaaDoorLawBase
import Derived.Test.YtommolbkcjpjhaaDoorFacts
import Derived.Test.YtommolbkcjpjhaaDoorTrafRI
import Derived.Test.YtommolbkcjpjhaaDoorOpenStr
import Derived.Test.YtommolbkcjpjhaaDoorLaidX
import Derived.Test.YtommolbkcjpjhaaDoorPermitted
import Derived.Test.YtommolbkcjpjhaaDoorDrawB
namespace Go.Proofs.YtommolbkcjpjhaaDoor
open Go Go.Proofs Go.RowKit Go.ChangeShapes Go.WideShapes Go.ChangeAt
set_option linter.unusedVariables false
set_option linter.unusedSimpArgs false
set_option maxRecDepth 100000
theorem markTraffic2_any (b : Int) (u : Value) (f : List Int) (B E k : Nat) (w : World) (hu : w.ownsRow B 2 1 u f.length (f.map (Value.int .i64)))
    (hk : k ≤ 100000000) (hf : f.length ≤ 1048576) (huE : ∀ k, u.ownBlock = some k → k < E) (hB : B ≤ w.heap.size) :
    Calls Tryd.prog 14 #[.agg #[.int .i64 b, u], .int .i64 k] w fun e w' => e = .returned (.int .i64 ((k + f.length : Nat) : Int)) ∧ Turned B E w w' ∧ RdI w' u (marks k f.length) := by
  have hub := own_block_lt hu
  go_enter Tryd.func14, Tryd.ntmps14
  go_wp2_with fail
  refine (markInt64S_any _ f B k _ (hu.alloc _) hf (by omega)).mono ?_
  rintro e w1 ⟨rfl, on1, own1⟩
  have t1 : Turned B E _ w1 := Turned.of_only on1 (by simp; omega) (fun k hk => ⟨(hub k hk).1, huE k hk⟩)
  go_wp2_with fail
  go_ret
  refine ⟨rfl, (Turned.of_new hB ((New.refl w).alloc _)).trans t1, ?_⟩
  have := own_rd own1; rwa [RdI, marks_length]
theorem heldTraffic_any (b : Int) (u : Value) (k n : Nat) (w : World) (hu : RdI w u (marks k n)) (hk : k ≤ 100000000) (hn : n ≤ 1048576) :
    Calls Tryd.prog 15 #[.agg #[.int .i64 b, u], .int .i64 k] w fun e w' => e = .returned (.int .i64 ((k + n : Nat) : Int)) ∧ New w w' := by
  have HU := Lib.hid hu
  clear hu
  go_enter Tryd.func15, Tryd.ntmps15
  go_wp2_with fail
  refine (heldInt64S_any _ k n _ (HU.out.new (by repeat (first | with_reducible exact New.refl _ | with_reducible assumption | with_reducible refine New.drew ?_ | with_reducible refine New.drewN ?_ _ | with_reducible refine New.alloc ?_ _ | with_reducible refine New.setCell ?_ (by first | (simp; done) | (simp; omega) | omega) _ | with_reducible refine New.trans ?_ (by with_reducible assumption)))) hn (by omega)).mono ?_; rintro e w1 ⟨rfl, rfl⟩
  go_wp2_with fail
  go_ret
  exact ⟨rfl, (by repeat (first | with_reducible exact New.refl _ | with_reducible assumption | with_reducible refine New.drew ?_ | with_reducible refine New.drewN ?_ _ | with_reducible refine New.alloc ?_ _ | with_reducible refine New.setCell ?_ (by first | (simp; done) | (simp; omega) | omega) _ | with_reducible refine New.trans ?_ (by with_reducible assumption)))⟩
theorem rd_bd (l : List UInt8) : (((rdI l).map Prod.snd).getD []).length ≤ 4 := by
  cases h : rdI l with
  | none => simp
  | some R => exact (traf_places (rdI_ok (n := R.1) (ps := R.2) h).1).2.1
set_option maxHeartbeats 4000000 in
theorem lawReadTraffic_any (s : ByteArray) (w : World) (hm : ML w) (hp : PW w) (he : ER w) :
    Calls Tryd.prog 4 #[.string s] w fun e w' => e = .returned (.bool true) ∧ New w w' := by
  have HM := Lib.hid hm; clear hm
  have HPW := Lib.hid hp; clear hp
  have HER := Lib.hid he; clear he
  by_cases hz0 : (1048576 : Int) < (s.size : Int)
  · go_enter Tryd.func4, Tryd.ntmps4
    go_wp2_with fail
    go_ret
    exact ⟨rfl, (by repeat (first | with_reducible exact New.refl _ | with_reducible assumption | with_reducible refine New.drew ?_ | with_reducible refine New.drewN ?_ _ | with_reducible refine New.alloc ?_ _ | with_reducible refine New.setCell ?_ (by first | (simp; done) | (simp; omega) | omega) _ | with_reducible refine New.trans ?_ (by with_reducible assumption)))⟩
  have hs : s.size ≤ 1048576 := by omega
  have HS := fun (w0 : World) => sRead_any s w0 hs
  have HI := fun (w0 : World) (hn : New w w0) => iRead_any s w0 hs (HM.out.new hn) (HPW.out.new hn) (HER.out.new hn)
  have hl4 := rd_bd s.data.toList
  rw [rd_same] at HS
  unfold RetRd at HS HI
  generalize ((rdI s.data.toList).map Prod.fst).getD 0 = n at HS HI
  generalize ((rdI s.data.toList).map Prod.snd).getD [] = ps at HS HI hl4
  generalize (rdI s.data.toList).isSome = ok at HS HI
  replace HS := Lib.hid HS
  replace HI := Lib.hid HI
  have hbb : (ok != ok) = false := by simp
  have hFF : decide (n = n ∧ ps = ps) = true := by simp
  have hqq : (((1 + ps.length : Nat) : Int) != ((1 + ps.length : Nat) : Int)) = false := by simp
  go_enter Tryd.func4, Tryd.ntmps4
  go_wp2_with fail
  refine (HS.out _).mono ?_; rintro e w1 ⟨v1, rfl, b1, o1⟩
  obtain ⟨a1, k1, rfl⟩ := own_slice o1
  obtain ⟨c1, f1⟩ := b1.rules
  have z1 := b1.size
  try simp only [World.size_alloc, World.size_drew, World.heap_drewN, World.size_setCell] at z1
  go_wp2_with fail
  refine (HI.out _ (by repeat (first | with_reducible exact New.refl _ | with_reducible assumption | with_reducible refine New.drew ?_ | with_reducible refine New.drewN ?_ _ | with_reducible refine New.alloc ?_ _ | with_reducible refine New.setCell ?_ (by first | (simp; done) | (simp; omega) | omega) _ | with_reducible refine New.trans ?_ (by with_reducible assumption)))).mono ?_; rintro e w2 ⟨v2, rfl, b2, o2⟩
  obtain ⟨a2, k2, rfl⟩ := own_slice o2; simp only [World.size_alloc] at o2
  obtain ⟨c2, f2⟩ := b2.rules
  have z2 := b2.size
  try simp only [World.size_alloc, World.size_drew, World.heap_drewN, World.size_setCell] at z2
  have z2_0 : w1.heap.size < w2.heap.size := by omega
  go_wp2_with fail
  refine (eqTraffic_any n n _ _ ps ps _ (RdI.new (own_rd o2) (by repeat (first | with_reducible exact New.refl _ | with_reducible assumption | with_reducible refine New.drew ?_ | with_reducible refine New.drewN ?_ _ | with_reducible refine New.alloc ?_ _ | with_reducible refine New.setCell ?_ (by first | (simp; done) | (simp; omega) | omega) _ | with_reducible refine New.trans ?_ (by with_reducible assumption)))) (RdI.new (own_rd o1) (by repeat (first | with_reducible exact New.refl _ | with_reducible assumption | with_reducible refine New.drew ?_ | with_reducible refine New.drewN ?_ _ | with_reducible refine New.alloc ?_ _ | with_reducible refine New.setCell ?_ (by first | (simp; done) | (simp; omega) | omega) _ | with_reducible refine New.trans ?_ (by with_reducible assumption))))).mono ?_; rintro e w3 ⟨rfl, b3⟩
  try with_reducible replace b3 := New.undrawN b3
  try with_reducible replace b3 := New.undraw b3
  obtain ⟨c3, f3⟩ := b3.rules
  have z3 := b3.size
  try simp only [World.size_alloc, World.size_drew, World.heap_drewN, World.size_setCell] at z3
  have z3_0 : w1.heap.size < w3.heap.size := by omega
  have z3_1 : w2.heap.size < w3.heap.size := by omega
  go_wp2_with fail
  have hub := own_block_lt o2
  have o23 := own_new o2 (show New w2 w3 from by exact (by repeat (first | with_reducible exact New.refl _ | with_reducible assumption | with_reducible refine New.drew ?_ | with_reducible refine New.drewN ?_ _ | with_reducible refine New.alloc ?_ _ | with_reducible refine New.setCell ?_ (by first | (simp; done) | (simp; omega) | omega) _ | with_reducible refine New.trans ?_ (by with_reducible assumption))))
  have K2 : Blk w3 w2.heap.size #[.int .i64 n, .slice a2 ps.length k2] 26 := (Blk.alloc_at rfl).new b3
  have N13 : New (w1.alloc (.cells #[.int .i64 n, .slice a1 ps.length k1] 26)) w3 := by exact (by repeat (first | with_reducible exact New.refl _ | with_reducible assumption | with_reducible refine New.drew ?_ | with_reducible refine New.drewN ?_ _ | with_reducible refine New.alloc ?_ _ | with_reducible refine New.setCell ?_ (by first | (simp; done) | (simp; omega) | omega) _ | with_reducible refine New.trans ?_ (by with_reducible assumption)))
  refine (markTraffic2_any n _ ps (w1.heap.size + 1) w2.heap.size 1 _ o23 (by omega) (by omega) (fun k hk => (hub k hk).2) (by omega)).mono ?_
  rintro e w4 ⟨rfl, t4, r4⟩
  have N14 : New (w1.alloc (.cells #[.int .i64 n, .slice a1 ps.length k1] 26)) w4 := t4.new N13 (by simp)
  have g0 := (t4.above (b := w2.heap.size) (o := 0) (Nat.le_refl _) (by omega)).trans (K2.rules.1 0)
  have g1 := (t4.above (b := w2.heap.size) (o := 1) (Nat.le_refl _) (by omega)).trans (K2.rules.1 1)
  have K1 : Blk w4 w1.heap.size #[.int .i64 n, .slice a1 ps.length k1] 26 := (Blk.alloc_at rfl).new N14
  obtain ⟨cK, fK⟩ := K1.rules
  have z4 := t4.1.size
  have z4_0 : w1.heap.size < w4.heap.size := by omega
  have z4_1 : w2.heap.size < w4.heap.size := by omega
  have R4 := Lib.hid r4
  have O1 := Lib.hid (own_rd o1)
  have N1 : New w1 w4 := ((New.refl w1).alloc _).trans N14
  have N4 : New w w4 := b1.trans N1
  simp at g0 g1
  clear t4 r4 o23 K2 N13 c1 f1 c2 f2 c3 f3 o2 hub
  go_wp2_with fail
  refine (heldTraffic_any n _ 1 ps.length _ R4.out (by omega) (by omega)).mono ?_; rintro e w5 ⟨rfl, b5⟩
  try with_reducible replace b5 := New.undrawN b5
  try with_reducible replace b5 := New.undraw b5
  obtain ⟨c5, f5⟩ := b5.rules
  have z5 := b5.size
  try simp only [World.size_alloc, World.size_drew, World.heap_drewN, World.size_setCell] at z5
  have z5_0 : w1.heap.size < w5.heap.size := by omega
  have z5_1 : w2.heap.size < w5.heap.size := by omega
  go_wp2_with fail
  refine (HI.out _ (N4.trans b5)).mono ?_; rintro e w6 ⟨v6, rfl, b6, o6⟩
  obtain ⟨a6, k6, rfl⟩ := own_slice o6
  obtain ⟨c6, f6⟩ := b6.rules
  have z6 := b6.size
  try simp only [World.size_alloc, World.size_drew, World.heap_drewN, World.size_setCell] at z6
  have z6_0 : w1.heap.size < w6.heap.size := by omega
  have z6_1 : w2.heap.size < w6.heap.size := by omega
  go_wp2_with fail
  refine (eqTraffic_any n n _ _ ps ps _ (RdI.new (own_rd o6) (by repeat (first | with_reducible exact New.refl _ | with_reducible assumption | with_reducible refine New.drew ?_ | with_reducible refine New.drewN ?_ _ | with_reducible refine New.alloc ?_ _ | with_reducible refine New.setCell ?_ (by first | (simp; done) | (simp; omega) | omega) _ | with_reducible refine New.trans ?_ (by with_reducible assumption)))) (RdI.new O1.out (N1.trans (b5.trans (((New.refl w5)).trans (b6.alloc _)))))).mono ?_; rintro e w7 ⟨rfl, b7⟩
  try with_reducible replace b7 := New.undrawN b7
  try with_reducible replace b7 := New.undraw b7
  obtain ⟨c7, f7⟩ := b7.rules
  have z7 := b7.size
  try simp only [World.size_alloc, World.size_drew, World.heap_drewN, World.size_setCell] at z7
  have z7_0 : w1.heap.size < w7.heap.size := by omega
  have z7_1 : w2.heap.size < w7.heap.size := by omega
  go_wp2_with fail
  refine (heldTraffic_any n _ 1 ps.length _ (RdI.new R4.out (b5.trans ((b6.alloc _).trans b7))) (by omega) (by omega)).mono ?_; rintro e w8 ⟨rfl, b8⟩
  try with_reducible replace b8 := New.undrawN b8
  try with_reducible replace b8 := New.undraw b8
  obtain ⟨c8, f8⟩ := b8.rules
  have z8 := b8.size
  try simp only [World.size_alloc, World.size_drew, World.heap_drewN, World.size_setCell] at z8
  have z8_0 : w1.heap.size < w8.heap.size := by omega
  have z8_1 : w2.heap.size < w8.heap.size := by omega
  go_wp2_with fail
  go_ret
  exact ⟨rfl, N4.trans (b5.trans (((b6.alloc _).trans b7).trans b8))⟩
namespace fnExactReadTraffic
theorem own : ownKnob Tryd.prog.godebug = none := by kernel_rfl
theorem reads : (Tryd.f4.params.toList.all fun t => Tryd.prog.readableRec t && decide (t < Tryd.prog.types.size)) = true := by kernel_rfl
set_option maxRecDepth 100000 in
noncomputable def low : Nat := (World.holding Tryd.prog default ⟨#[], #[], []⟩).heap.size
noncomputable def cells0 : Array Value := #[.int .u8 0, .int .u8 1, .int .u8 28, .int .u8 2, .int .u8 29, .int .u8 14, .int .u8 24, .int .u8 3, .int .u8 30, .int .u8 22, .int .u8 20, .int .u8 15, .int .u8 25, .int .u8 17, .int .u8 4, .int .u8 8, .int .u8 31, .int .u8 27, .int .u8 13, .int .u8 23, .int .u8 21, .int .u8 19, .int .u8 16, .int .u8 7, .int .u8 26, .int .u8 12, .int .u8 18, .int .u8 6, .int .u8 11, .int .u8 5, .int .u8 10, .int .u8 9]
noncomputable def cells1 : Array Value := #[.int .u8 0, .int .u8 1, .int .u8 56, .int .u8 2, .int .u8 57, .int .u8 49, .int .u8 28, .int .u8 3, .int .u8 61, .int .u8 58, .int .u8 42, .int .u8 50, .int .u8 38, .int .u8 29, .int .u8 17, .int .u8 4, .int .u8 62, .int .u8 47, .int .u8 59, .int .u8 36, .int .u8 45, .int .u8 43, .int .u8 51, .int .u8 22, .int .u8 53, .int .u8 39, .int .u8 33, .int .u8 30, .int .u8 24, .int .u8 18, .int .u8 12, .int .u8 5, .int .u8 63, .int .u8 55, .int .u8 48, .int .u8 27, .int .u8 60, .int .u8 41, .int .u8 37, .int .u8 16, .int .u8 46, .int .u8 35, .int .u8 44, .int .u8 21, .int .u8 52, .int .u8 32, .int .u8 23, .int .u8 11, .int .u8 54, .int .u8 26, .int .u8 40, .int .u8 15, .int .u8 34, .int .u8 20, .int .u8 31, .int .u8 10, .int .u8 25, .int .u8 14, .int .u8 19, .int .u8 9, .int .u8 13, .int .u8 8, .int .u8 7, .int .u8 6]
noncomputable def cells2 : Array Value := #[.int .u64 1, .int .u64 10, .int .u64 100, .int .u64 1000, .int .u64 10000, .int .u64 100000, .int .u64 1000000, .int .u64 10000000, .int .u64 100000000, .int .u64 1000000000, .int .u64 10000000000, .int .u64 100000000000, .int .u64 1000000000000, .int .u64 10000000000000, .int .u64 100000000000000, .int .u64 1000000000000000, .int .u64 10000000000000000, .int .u64 100000000000000000, .int .u64 1000000000000000000, .int .u64 10000000000000000000]
noncomputable def cells3 : Array Value := #[.int .u8 128, .int .u8 191, .int .u8 160, .int .u8 191, .int .u8 128, .int .u8 159, .int .u8 144, .int .u8 191, .int .u8 128, .int .u8 143, .int .u8 0, .int .u8 0, .int .u8 0, .int .u8 0, .int .u8 0, .int .u8 0, .int .u8 0, .int .u8 0, .int .u8 0, .int .u8 0, .int .u8 0, .int .u8 0, .int .u8 0, .int .u8 0, .int .u8 0, .int .u8 0, .int .u8 0, .int .u8 0, .int .u8 0, .int .u8 0, .int .u8 0, .int .u8 0]
noncomputable def cells4 : Array Value := #[.iface 103 (.pointer (some ⟨low + 0, 0, none⟩))]
noncomputable def cells5 : Array Value := #[.iface 103 (.pointer (some ⟨low + 1, 0, none⟩))]
noncomputable def cells6 : Array Value := (Go.Pinned.utf8FirstZ.map fun (z : Nat) => Value.int .u8 (z : Int)).toArray
noncomputable def laidWorld (os : Os) : World :=
  let w0 := World.holding Tryd.prog os ⟨#[.cells #[.string ⟨#[118, 97, 108, 117, 101, 32, 111, 117, 116, 32, 111, 102, 32, 114, 97, 110, 103, 101]⟩] 105, .cells #[.string ⟨#[105, 110, 118, 97, 108, 105, 100, 32, 115, 121, 110, 116, 97, 120]⟩] 105], #[], []⟩
  { w0 with heap := (((((((w0.heap.modify 6 fun | .cells _ t frozen => .cells cells0 t frozen | o => o).modify 7 fun | .cells _ t frozen => .cells cells1 t frozen | o => o).modify 3 fun | .cells _ t frozen => .cells cells2 t frozen | o => o).modify 5 fun | .cells _ t frozen => .cells cells3 t frozen | o => o).modify 2 fun | .cells _ t frozen => .cells cells4 t frozen | o => o).modify 1 fun | .cells _ t frozen => .cells cells5 t frozen | o => o).modify 4 fun | .cells _ t frozen => .cells cells6 t frozen | o => o) }
theorem laid_met (os : Os) : laidMet Tryd.prog Rows.fnExactReadTrafficRow.laid ((laidWorld os).forCall (fun _ _ => 0) ⟨#[], #[.string ⟨#[]⟩], []⟩).memory :=
  laidMet_of_run' 8 (by kernel_rfl) (by kernel_rfl)
theorem reading (os : Os) {H : Type} (enc : TypeId × Value → H) : ∃ x, DataW.whole enc Tryd.prog ((laidWorld os).forCall (fun _ _ => 0) ⟨#[], #[.string ⟨#[]⟩], []⟩).memory Tryd.f4.params.toList Rows.fnExactReadTrafficSpec.vars false (#[.string ⟨#[]⟩] : Array Value).toList 8 = some x :=
  Option.isSome_iff_exists.1 (by kernel_rfl)
theorem lifted (os : Os) (started : os.Started) (H : Type) (enc : TypeId × Value → H) (F : Stop.Interp) :
    ReturnsInHanded {} Tryd.checked os 4 .any ((OpenSpec.ofChange Rows.fnExactReadTrafficSpec).preRow enc Tryd.prog Tryd.f4 Rows.fnExactReadTrafficRow.domain false Rows.fnExactReadTrafficRow.laid) (((OpenSpec.ofChange Rows.fnExactReadTrafficSpec).at F).post enc Tryd.prog Tryd.f4 false true false false) := by
  obtain ⟨x, hx⟩ := reading os enc
  refine returnsInHanded_of_row (C := Tryd.checked) (s := OpenSpec.ofChange Rows.fnExactReadTrafficSpec) own started (by kernel_rfl) Tryd.func4
    (witness_row_at (enc := enc) (C := Tryd.checked) false (laidWorld os) #[.string ⟨#[]⟩] rfl (by kernel_rfl) (by kernel_rfl) (by kernel_rfl)
      (OpenSpec.preRow_of_cond 8 hx (by first | rfl | kernel_rfl) (fun k hk => by cases hk) (by kernel_rfl) (laid_met os))) ?_
  intro W base args ds gs before hval0 hW _ _ _ hL hSh _
  have hM : laidMet Tryd.prog Rows.fnExactReadTrafficRow.laid W := hL
  have hpw : PW W := pw_of_laid (show laidMet Tryd.prog (_ :: _ :: _ :: _) W from hM).tail.tail
  have her : ER W := er_of_laid (show laidMet Tryd.prog (_ :: _ :: _ :: _ :: _ :: _) W from hM).tail.tail.tail.tail (show laidMet Tryd.prog (_ :: _ :: _ :: _ :: _ :: _ :: _) W from hM).tail.tail.tail.tail.tail
  have hval : ∀ (j : Nat) t v, Tryd.f4.params[j]? = some t → args[j]? = some v → Value.okWide Tryd.prog W .any base t v := hval0
  have hW' := hW
  obtain ⟨p, q, hA0, hV, rfl, hfz, hnd⟩ := hW
  have hA : DataW.TrodAll enc Tryd.prog W 0 (fun _ => true) true Tryd.f4.params.toList args.toList ds p := hA0
  rw [Tryd.params4] at hA hval
  obtain ⟨v0, vs0, d0, ds0, p0, q0, hargs, rfl, rfl, h0, r0⟩ := trodAll_cons hA
  obtain ⟨rfl, rfl, rfl⟩ := trodAll_nil r0
  obtain rfl : args = #[v0] := by cases args; simp_all
  have o0 := hval 0 9 v0 rfl rfl
  clear hA0 hval hval0
  obtain ⟨rfl, rfl⟩ := trodVars_none hV
  have walk : Calls Tryd.prog 4 #[v0] W fun e w' => e = .returned (.bool true) ∧ New W w' := by
    obtain ⟨s, rfl, hs⟩ := openStr h0 o0
    exact lawReadTraffic_any s W (ml_shaped W hSh) hpw her
  refine walk.mono fun e W' ⟨he, hg⟩ => ?_
  subst he
  exact ⟨_, rfl, law_post laidOut (fun t ht => reads_of reads t ht) (fun n hn => by cases hn) rfl Tryd.underlying4 hW' rfl hg⟩
theorem said : Rows.FnExactReadTrafficSaid :=
  OpenClaim.holds_of_cond 4 Tryd.f4 rfl rfl rfl rfl rfl rfl rfl ⟨rfl, rfl, rfl, rfl, rfl⟩ rfl rfl rfl rfl rfl (by kernel_rfl) Tryd.func4 (by kernel_rfl)
    (of_decide_eq_true (by kernel_rfl)) (by unfold Func.isWrapper; first | (rw [if_pos (by decide +kernel)]; kernel_rfl) | (rw [if_neg (by decide +kernel)]; exact ⟨rfl, rfl⟩))
    (fun os started H enc _ F => by rw [OpenClaim.pre_eq_preRow]; exact lifted os started H enc F)
theorem plain (f : FuncId) (fn : Func) (hf : Tryd.pinned.checked.prog.funcNamed "loop.example/g00916/laws.FnExactReadTraffic" = some f) (hfn : Tryd.pinned.checked.prog.funcs[f]? = some fn) :
    true = Tryd.pinned.checked.prog.looks [] ∧ ∀ (j : Nat) t, fn.params[j]? = some t → Tryd.pinned.checked.prog.wantsStandIn t = false := by
  obtain rfl : f = 4 := Option.some.inj ((show Tryd.prog.funcNamed "loop.example/g00916/laws.FnExactReadTraffic" = some 4 by kernel_rfl).symm.trans hf) |>.symm
  obtain rfl : fn = Tryd.f4 := (Option.some.inj (Tryd.func4.symm.trans hfn)).symm
  refine ⟨by kernel_rfl, fun j t ht => ?_⟩
  rw [Tryd.params4] at ht
  have hm : t ∈ ([9] : List TypeId) := by simpa using Array.mem_of_getElem? ht
  have all : (([9] : List TypeId).all fun t => !Tryd.prog.wantsStandIn t) = true := by kernel_rfl
  have := List.all_eq_true.1 all t hm
  show Tryd.prog.wantsStandIn t = false
  exact (Bool.not_eq_true _).mp (fun h => by rw [h] at this; cases this)
theorem card : Rows.FnExactReadTrafficCardSaid :=
  Claim7.holds_tied_plain_at .later [] _ _ _ _ said (fun _ h => by cases h) (by kernel_rfl) (fun _ h => by cases h) fnExactReadTraffic_row_tie rfl ⟨rfl, rfl⟩ (by kernel_rfl) rfl plain (by kernel_rfl)
#print axioms card
end fnExactReadTraffic
end Go.Proofs.YtommolbkcjpjhaaDoor
