/- Contracts: memories in the laws' helpers; is a memory suitable. -/
import Derived.Deep.RegionHeld3
import Derived.Test.YtflhdijlhdckoaaGreatDoorProg
import Derived.Test.YtflhdijlhdckoaaGreatDoorMemP
import Derived.Test.YtflhdijlhdckoaaGreatDoorRegionG
namespace Go.Proofs.YtflhdijlhdckoaaGreatDoor
open Go Go.Proofs Go.RowKit
set_option linter.unusedVariables false
set_option linter.unusedSimpArgs false
set_option maxRecDepth 100000
structure MemD where
  vals : List Int
  blocks : List EBlockState
/-- How a memory's lists read. -/
structure RdMm (w : World) (m : MemD) (va bl : Value) : Prop where
  va : RdI w va m.vals
  bl : RdB w bl m.blocks
theorem RdMm.new {w w' : World} {m : MemD} {va bl : Value} (h : RdMm w m va bl) (n : New w w') : RdMm w' m va bl := ⟨h.va.new n, Rd.new h.bl n⟩
def szMm (m : MemD) (left : Int) : Int := if szL m.vals.length left < 0 then -1 else szL m.blocks.length (szL m.vals.length left)
theorem szMm_fit (m : MemD) (left : Int) (h : 0 ≤ left) (h' : left ≤ 1048576) (h2 : 0 ≤ szMm m left) : m.vals.length ≤ 1048576 ∧ m.blocks.length ≤ 1048576 := by
  rw [szMm] at h2
  split at h2
  · omega
  · have a1 := szL_bd (Int.not_lt.1 (by assumption : ¬ szL m.vals.length left < 0))
    have a2 := szL_bd h2
    omega
theorem szMm_bd (m : MemD) (left : Int) (h : 0 ≤ left) : -1 ≤ szMm m left ∧ szMm m left ≤ left := by
  have b1 := szL_range (n := m.vals.length) (left := left) (B := left) h (Int.le_refl _)
  rw [szMm]; split
  · omega
  · exact szL_range (by omega) (by omega)
set_option maxHeartbeats 1000000 in
theorem szMemory_any (m : MemD) (va bl : Value) (left : Int) (w : World) (hm : RdMm w m va bl) (hl : 0 ≤ left) (hl' : left ≤ 1048576) :
    Calls Tryz.prog 10 #[.agg #[va, bl], .int .i64 left] w fun e w' => e = .returned (.int .i64 (szMm m left)) ∧ New w w' := by
  have HM := Lib.hid hm; clear hm
  have b1 := szL_range (n := m.vals.length) (left := left) (B := 1048576) hl hl'
  have c1 := Lib.hid (fun (w0 : World) (n : New w w0) => szInt64S_any va m.vals.length _ left w0 (RdI.new HM.out.va n) hl hl')
  rw [szMm]
  by_cases h1 : szL m.vals.length left < 0
  · rw [if_pos h1]
    go_enter Tryz.func10, Tryz.ntmps10
    go_wp2_with fail
    refine (c1.out _ (by repeat (first | with_reducible exact New.refl _ | with_reducible assumption | with_reducible refine New.drew ?_ | with_reducible refine New.drewN ?_ _ | with_reducible refine New.alloc ?_ _ | with_reducible refine New.setCell ?_ (by first | (simp; done) | (simp; omega) | omega) _ | with_reducible refine New.trans ?_ (by with_reducible assumption)))).mono ?_; rintro e _ ⟨rfl, rfl⟩
    go_wp2_with fail
    go_ret
    exact ⟨rfl, (by repeat (first | with_reducible exact New.refl _ | with_reducible assumption | with_reducible refine New.drew ?_ | with_reducible refine New.drewN ?_ _ | with_reducible refine New.alloc ?_ _ | with_reducible refine New.setCell ?_ (by first | (simp; done) | (simp; omega) | omega) _ | with_reducible refine New.trans ?_ (by with_reducible assumption)))⟩
  rw [if_neg h1]
  have b4 := szL_range (n := m.blocks.length) (left := szL m.vals.length left) (B := 1048576) (by omega) (by omega)
  have c4 := Lib.hid (fun (w0 : World) (n : New w w0) => szBlockStateS_any bl m.blocks.length _ (szL m.vals.length left) w0 (Rd.new HM.out.bl n) (by omega) (by omega))
  go_enter Tryz.func10, Tryz.ntmps10
  go_wp2_with fail
  refine (c1.out _ (by repeat (first | with_reducible exact New.refl _ | with_reducible assumption | with_reducible refine New.drew ?_ | with_reducible refine New.drewN ?_ _ | with_reducible refine New.alloc ?_ _ | with_reducible refine New.setCell ?_ (by first | (simp; done) | (simp; omega) | omega) _ | with_reducible refine New.trans ?_ (by with_reducible assumption)))).mono ?_; rintro e _ ⟨rfl, rfl⟩
  go_wp2_with fail
  refine (c4.out _ (by repeat (first | with_reducible exact New.refl _ | with_reducible assumption | with_reducible refine New.drew ?_ | with_reducible refine New.drewN ?_ _ | with_reducible refine New.alloc ?_ _ | with_reducible refine New.setCell ?_ (by first | (simp; done) | (simp; omega) | omega) _ | with_reducible refine New.trans ?_ (by with_reducible assumption)))).mono ?_; rintro e _ ⟨rfl, rfl⟩
  go_wp2_with fail
  all_goals go_ret
  all_goals exact ⟨ret_int (by omega), (by repeat (first | with_reducible exact New.refl _ | with_reducible assumption | with_reducible refine New.drew ?_ | with_reducible refine New.drewN ?_ _ | with_reducible refine New.alloc ?_ _ | with_reducible refine New.setCell ?_ (by first | (simp; done) | (simp; omega) | omega) _ | with_reducible refine New.trans ?_ (by with_reducible assumption)))⟩
def RetMm (w : World) (m : MemD) (e : Ending) (w' : World) : Prop := ∃ va bl, e = .returned (.agg #[va, bl]) ∧ New w w' ∧ RdMm w' m va bl
set_option maxHeartbeats 2000000 in
theorem toMemory_any (m : MemD) (va bl : Value) (w : World) (hm : RdMm w m va bl) (h1 : m.vals.length ≤ 1048576) (h2 : m.blocks.length ≤ 1048576) :
    Calls Tryz.prog 13 #[.agg #[va, bl]] w (RetMm w m) := by
  have HM := Lib.hid hm; clear hm
  go_enter Tryz.func13, Tryz.ntmps13
  go_wp2_with fail
  refine (toInt64S_any _ m.vals _ (RdI.new HM.out.va (by repeat (first | with_reducible exact New.refl _ | with_reducible assumption | with_reducible refine New.drew ?_ | with_reducible refine New.drewN ?_ _ | with_reducible refine New.alloc ?_ _ | with_reducible refine New.setCell ?_ (by first | (simp; done) | (simp; omega) | omega) _ | with_reducible refine New.trans ?_ (by with_reducible assumption)))) h1).mono ?_; rintro e w1 ⟨r1, rfl, b1, own1⟩
  obtain ⟨a1, k1, rfl⟩ := own_slice own1; simp only [World.size_alloc, World.size_setCell] at own1
  obtain ⟨c1, f1⟩ := b1.rules
  have z1 := b1.size
  try simp only [World.size_alloc, World.size_drew, World.heap_drewN, World.size_setCell] at z1
  have z1_0 : w.heap.size < w1.heap.size := by omega
  have z1_1 : w.heap.size + 1 < w1.heap.size := by omega
  have z1_2 : w.heap.size + 1 + 1 < w1.heap.size := by omega
  go_wp2_with fail
  refine (toBlockStateS_any _ m.blocks _ (Rd.new HM.out.bl (by repeat (first | with_reducible exact New.refl _ | with_reducible assumption | with_reducible refine New.drew ?_ | with_reducible refine New.drewN ?_ _ | with_reducible refine New.alloc ?_ _ | with_reducible refine New.setCell ?_ (by first | (simp; done) | (simp; omega) | omega) _ | with_reducible refine New.trans ?_ (by with_reducible assumption)))) h2).mono ?_; rintro e w2 ⟨r2, rfl, b2, own2⟩
  obtain ⟨a2, k2, rfl⟩ := own_slice own2; simp only [World.size_alloc, World.size_setCell] at own2
  obtain ⟨c2, f2⟩ := b2.rules
  have z2 := b2.size
  try simp only [World.size_alloc, World.size_drew, World.heap_drewN, World.size_setCell] at z2
  have z2_0 : w.heap.size < w2.heap.size := by omega
  have z2_1 : w.heap.size + 1 < w2.heap.size := by omega
  have z2_2 : w.heap.size + 1 + 1 < w2.heap.size := by omega
  go_wp2_with fail
  refine bodyPost_ret (v := .agg #[.slice a1 m.vals.length k1, .slice a2 m.blocks.length k2]) (by simp [results, Tryz.results13, go_sem, c2, f2, c1, f1, z1_0, z1_1, z1_2, z2_0, z2_1, z2_2]) rfl ⟨_, _, rfl, ?_, ⟨?_, ?_⟩⟩
  · exact (by repeat (first | with_reducible exact New.refl _ | with_reducible assumption | with_reducible refine New.drew ?_ | with_reducible refine New.drewN ?_ _ | with_reducible refine New.alloc ?_ _ | with_reducible refine New.setCell ?_ (by first | (simp; done) | (simp; omega) | omega) _ | with_reducible refine New.trans ?_ (by with_reducible assumption)))
  · refine own_rd (base := w.heap.size) (e := 2) (sz := 1) (own_base (base := w.heap.size + 1 + 1 + 1) ?_ (by omega))
    iterate 3 apply ownsRow_setCell_below
    refine own_new ?_ b2
    apply ownsRow_setCell_below
    exact own1
    all_goals (dsimp; omega)
  · refine own_rd (base := w.heap.size) (e := 143) (sz := 3) (own_base (base := w1.heap.size) ?_ (by omega))
    iterate 3 apply ownsRow_setCell_below
    exact own2
    all_goals (dsimp; omega)
set_option maxHeartbeats 1000000 in
theorem eqMemory_any (m : MemD) (va bl va' bl' : Value) (w : World) (hm : RdMm w m va bl) (hm' : RdMm w m va' bl') :
    Calls Tryz.prog 16 #[.agg #[va, bl], .agg #[va', bl']] w fun e w' => e = .returned (.bool true) ∧ New w w' := by
  have HM := Lib.hid hm; clear hm
  have HM' := Lib.hid hm'; clear hm'
  have zz : w.heap.size < w.heap.size + 1 + 1 := by omega
  go_enter Tryz.func16, Tryz.ntmps16
  go_wp2_with fail
  refine (eqInt64S_any _ _ m.vals m.vals _ (RdI.new HM.out.va (by repeat (first | with_reducible exact New.refl _ | with_reducible assumption | with_reducible refine New.drew ?_ | with_reducible refine New.drewN ?_ _ | with_reducible refine New.alloc ?_ _ | with_reducible refine New.setCell ?_ (by first | (simp; done) | (simp; omega) | omega) _ | with_reducible refine New.trans ?_ (by with_reducible assumption)))) (RdI.new HM'.out.va (by repeat (first | with_reducible exact New.refl _ | with_reducible assumption | with_reducible refine New.drew ?_ | with_reducible refine New.drewN ?_ _ | with_reducible refine New.alloc ?_ _ | with_reducible refine New.setCell ?_ (by first | (simp; done) | (simp; omega) | omega) _ | with_reducible refine New.trans ?_ (by with_reducible assumption))))).mono ?_; rintro e w1 ⟨rfl, q1, rfl⟩
  go_wp2_with fail
  refine (eqBlockStateS_any _ _ m.blocks m.blocks _ (Rd.new HM.out.bl (by repeat (first | with_reducible exact New.refl _ | with_reducible assumption | with_reducible refine New.drew ?_ | with_reducible refine New.drewN ?_ _ | with_reducible refine New.alloc ?_ _ | with_reducible refine New.setCell ?_ (by first | (simp; done) | (simp; omega) | omega) _ | with_reducible refine New.trans ?_ (by with_reducible assumption)))) (Rd.new HM'.out.bl (by repeat (first | with_reducible exact New.refl _ | with_reducible assumption | with_reducible refine New.drew ?_ | with_reducible refine New.drewN ?_ _ | with_reducible refine New.alloc ?_ _ | with_reducible refine New.setCell ?_ (by first | (simp; done) | (simp; omega) | omega) _ | with_reducible refine New.trans ?_ (by with_reducible assumption))))).mono ?_; rintro e w4 ⟨rfl, b4⟩
  try replace b4 := New.undrawN b4
  try replace b4 := New.undraw b4
  obtain ⟨c4, f4⟩ := b4.rules
  have z4 := b4.size
  try simp only [World.size_alloc, World.size_drew, World.heap_drewN, World.size_setCell] at z4
  go_wp2_with fail
  go_ret
  exact ⟨rfl, (by repeat (first | with_reducible exact New.refl _ | with_reducible assumption | with_reducible refine New.drew ?_ | with_reducible refine New.drewN ?_ _ | with_reducible refine New.alloc ?_ _ | with_reducible refine New.setCell ?_ (by first | (simp; done) | (simp; omega) | omega) _ | with_reducible refine New.trans ?_ (by with_reducible assumption)))⟩
def suitB (p : ProgD) (m : MemD) : Bool := soundB p && suitsB p.vars.length (blkP p) m.vals m.blocks
theorem sSuitable_any (p : ProgD) (m : MemD) (iv vv ov lv va bl : Value) (w : World) (hp : RdP w p iv vv ov lv) (hf : FitP p) (hm : RdMm w m va bl) :
    Calls Tryz.prog 11 #[valP p iv vv ov lv, .agg #[va, bl]] w fun e w' => e = .returned (.bool (suitB p m)) ∧ New w w' := by
  have HP := Lib.hid hp; clear hp
  have HM := Lib.hid hm; clear hm
  have zz : w.heap.size < w.heap.size + 1 + 1 := by omega
  have HS := Lib.hid (fun (w0 : World) (h : RdP w0 p iv vv ov lv) => sIsSound_any p iv vv ov lv w0 h hf)
  rcases Bool.eq_false_or_eq_true (soundB p) with h1 | h1
  · have hw : wB p = true := by rw [soundB, Bool.and_eq_true] at h1; exact h1.1
    have HB := Lib.hid (fun (w0 : World) (h : RdP w0 p iv vv ov lv) (h' : RdMm w0 m va bl) => sMem_any p (blkP p) m.vals m.blocks iv vv ov lv va bl w0 h hw rfl h'.va h'.bl (blkP_ok hw))
    have HR := Lib.hid (show suitB p m = suitsB p.vars.length (blkP p) m.vals m.blocks by rw [suitB, h1]; rfl)
    rw [h1] at HS
    rw [← HR.out] at HB
    clear hw h1
    go_enter Tryz.func11, Tryz.ntmps11
    go_wp2_with fail
    refine (HS.out _ (HP.out.new (by repeat (first | with_reducible exact New.refl _ | with_reducible assumption | with_reducible refine New.drew ?_ | with_reducible refine New.drewN ?_ _ | with_reducible refine New.alloc ?_ _ | with_reducible refine New.setCell ?_ (by first | (simp; done) | (simp; omega) | omega) _ | with_reducible refine New.trans ?_ (by with_reducible assumption))))).mono ?_; rintro e w1 ⟨rfl, b1⟩
    try replace b1 := New.undrawN b1
    try replace b1 := New.undraw b1
    obtain ⟨c1, f1⟩ := b1.rules
    have z1 := b1.size
    try simp only [World.size_alloc, World.size_drew, World.heap_drewN, World.size_setCell] at z1
    have z1_0 : w.heap.size < w1.heap.size := by omega
    have z1_1 : w.heap.size + 1 < w1.heap.size := by omega
    go_wp2_with fail
    refine (HB.out _ (HP.out.new (by repeat (first | with_reducible exact New.refl _ | with_reducible assumption | with_reducible refine New.drew ?_ | with_reducible refine New.drewN ?_ _ | with_reducible refine New.alloc ?_ _ | with_reducible refine New.setCell ?_ (by first | (simp; done) | (simp; omega) | omega) _ | with_reducible refine New.trans ?_ (by with_reducible assumption)))) (HM.out.new (by repeat (first | with_reducible exact New.refl _ | with_reducible assumption | with_reducible refine New.drew ?_ | with_reducible refine New.drewN ?_ _ | with_reducible refine New.alloc ?_ _ | with_reducible refine New.setCell ?_ (by first | (simp; done) | (simp; omega) | omega) _ | with_reducible refine New.trans ?_ (by with_reducible assumption))))).mono ?_; rintro e w2 ⟨rfl, b2⟩
    try replace b2 := New.undrawN b2
    try replace b2 := New.undraw b2
    obtain ⟨c2, f2⟩ := b2.rules
    have z2 := b2.size
    try simp only [World.size_alloc, World.size_drew, World.heap_drewN, World.size_setCell] at z2
    go_wp2_with fail
    go_ret
    exact ⟨rfl, (by repeat (first | with_reducible exact New.refl _ | with_reducible assumption | with_reducible refine New.drew ?_ | with_reducible refine New.drewN ?_ _ | with_reducible refine New.alloc ?_ _ | with_reducible refine New.setCell ?_ (by first | (simp; done) | (simp; omega) | omega) _ | with_reducible refine New.trans ?_ (by with_reducible assumption)))⟩
  · have HR := Lib.hid (show suitB p m = false by rw [suitB, h1]; rfl)
    rw [h1] at HS
    clear h1
    go_enter Tryz.func11, Tryz.ntmps11
    go_wp2_with fail
    refine (HS.out _ (HP.out.new (by repeat (first | with_reducible exact New.refl _ | with_reducible assumption | with_reducible refine New.drew ?_ | with_reducible refine New.drewN ?_ _ | with_reducible refine New.alloc ?_ _ | with_reducible refine New.setCell ?_ (by first | (simp; done) | (simp; omega) | omega) _ | with_reducible refine New.trans ?_ (by with_reducible assumption))))).mono ?_; rintro e w1 ⟨rfl, b1⟩
    try replace b1 := New.undrawN b1
    try replace b1 := New.undraw b1
    obtain ⟨c1, f1⟩ := b1.rules
    have z1 := b1.size
    try simp only [World.size_alloc, World.size_drew, World.heap_drewN, World.size_setCell] at z1
    have z1_0 : w.heap.size < w1.heap.size := by omega
    have z1_1 : w.heap.size + 1 < w1.heap.size := by omega
    go_wp2_with fail
    go_ret
    exact ⟨ret_bool HR.out.symm, (by repeat (first | with_reducible exact New.refl _ | with_reducible assumption | with_reducible refine New.drew ?_ | with_reducible refine New.drewN ?_ _ | with_reducible refine New.alloc ?_ _ | with_reducible refine New.setCell ?_ (by first | (simp; done) | (simp; omega) | omega) _ | with_reducible refine New.trans ?_ (by with_reducible assumption)))⟩
theorem keep8 {n : Nat} {p : ProgD} {iv vv ov lv va bl : Value} {w w' : World} (hn : New w w') (hb : n + 1 < w.heap.size) (h : w.cell? ⟨n, 0, none⟩ = some (.string p.name) ∧ w.cell? ⟨n, 1, none⟩ = some iv ∧ w.cell? ⟨n, 2, none⟩ = some vv ∧ w.cell? ⟨n, 3, none⟩ = some ov ∧ w.cell? ⟨n, 4, none⟩ = some (.string p.guard) ∧ w.cell? ⟨n, 5, none⟩ = some lv ∧ w.cell? ⟨n + 1, 0, none⟩ = some va ∧ w.cell? ⟨n + 1, 1, none⟩ = some bl) : w'.cell? ⟨n, 0, none⟩ = some (.string p.name) ∧ w'.cell? ⟨n, 1, none⟩ = some iv ∧ w'.cell? ⟨n, 2, none⟩ = some vv ∧ w'.cell? ⟨n, 3, none⟩ = some ov ∧ w'.cell? ⟨n, 4, none⟩ = some (.string p.guard) ∧ w'.cell? ⟨n, 5, none⟩ = some lv ∧ w'.cell? ⟨n + 1, 0, none⟩ = some va ∧ w'.cell? ⟨n + 1, 1, none⟩ = some bl := by
  obtain ⟨h0, h1, h2, h3, h4, h5, h6, h7⟩ := h
  have g0 : n < w.heap.size := by omega
  exact ⟨(hn.cell g0).trans h0, (hn.cell g0).trans h1, (hn.cell g0).trans h2, (hn.cell g0).trans h3, (hn.cell g0).trans h4, (hn.cell g0).trans h5, (hn.cell hb).trans h6, (hn.cell hb).trans h7⟩
theorem made8 {p : ProgD} {iv vv ov lv va bl : Value} {w : World} {e f : TypeId} : ((w.alloc (.cells #[.string p.name, iv, vv, ov, .string p.guard, lv] e)).alloc (.cells #[va, bl] f)).cell? ⟨w.heap.size, 0, none⟩ = some (.string p.name) ∧ ((w.alloc (.cells #[.string p.name, iv, vv, ov, .string p.guard, lv] e)).alloc (.cells #[va, bl] f)).cell? ⟨w.heap.size, 1, none⟩ = some iv ∧ ((w.alloc (.cells #[.string p.name, iv, vv, ov, .string p.guard, lv] e)).alloc (.cells #[va, bl] f)).cell? ⟨w.heap.size, 2, none⟩ = some vv ∧ ((w.alloc (.cells #[.string p.name, iv, vv, ov, .string p.guard, lv] e)).alloc (.cells #[va, bl] f)).cell? ⟨w.heap.size, 3, none⟩ = some ov ∧ ((w.alloc (.cells #[.string p.name, iv, vv, ov, .string p.guard, lv] e)).alloc (.cells #[va, bl] f)).cell? ⟨w.heap.size, 4, none⟩ = some (.string p.guard) ∧ ((w.alloc (.cells #[.string p.name, iv, vv, ov, .string p.guard, lv] e)).alloc (.cells #[va, bl] f)).cell? ⟨w.heap.size, 5, none⟩ = some lv ∧ ((w.alloc (.cells #[.string p.name, iv, vv, ov, .string p.guard, lv] e)).alloc (.cells #[va, bl] f)).cell? ⟨w.heap.size + 1, 0, none⟩ = some va ∧ ((w.alloc (.cells #[.string p.name, iv, vv, ov, .string p.guard, lv] e)).alloc (.cells #[va, bl] f)).cell? ⟨w.heap.size + 1, 1, none⟩ = some bl := by
  have g : w.heap.size < (w.alloc (.cells #[.string p.name, iv, vv, ov, .string p.guard, lv] e)).heap.size := by simp
  have g1 : w.heap.size + 1 = (w.alloc (.cells #[.string p.name, iv, vv, ov, .string p.guard, lv] e)).heap.size := by simp
  refine ⟨?_, ?_, ?_, ?_, ?_, ?_, ?_, ?_⟩
  iterate 6 (rw [cell_alloc_old _ _ _ _ g, cell_alloc_new _ _ _ _ _ rfl]; rfl)
  iterate 2 (rw [cell_alloc_new _ _ _ _ _ g1]; rfl)
set_option maxHeartbeats 1000000 in
theorem iSuitable_any (p : ProgD) (m : MemD) (iv vv ov lv va bl : Value) (w : World) (hp : RdP w p iv vv ov lv) (hf : FitP p) (hm : RdMm w m va bl) (hk : KW w) :
    Calls Tryz.prog 14 #[valP p iv vv ov lv, .agg #[va, bl]] w fun e w' => e = .returned (.bool (suitB p m)) ∧ New w w' := by
  have HK := Lib.hid hk; clear hk
  have HP := Lib.hid hp
  have HM := Lib.hid hm; clear hm
  have zz : w.heap.size < w.heap.size + 1 + 1 := by omega
  obtain ⟨ax, cx, rfl, _⟩ := id hp.vars
  clear hp
  have HS := Lib.hid (fun (w0 : World) (h : RdP w0 p iv (.slice ax p.vars.length cx) ov lv) (k : KW w0) => iIsSound_any p iv _ ov lv w0 h hf k)
  rcases Bool.eq_false_or_eq_true (soundB p) with h1 | h1
  · have hw : wB p = true := by rw [soundB, Bool.and_eq_true] at h1; exact h1.1
    have HB := Lib.hid (fun (w0 : World) (h : RdP w0 p iv (.slice ax p.vars.length cx) ov lv) => iBlocks0_any p iv _ ov lv w0 h hw)
    have HR := Lib.hid (show suitB p m = suitsB p.vars.length (blkP p) m.vals m.blocks by rw [suitB, h1]; rfl)
    have HC := Lib.hid (blkP_ok hw)
    rw [h1] at HS
    generalize blkP p = bs at HB HR HC
    clear hw h1
    go_enter Tryz.func14, Tryz.ntmps14
    go_wp2_with fail
    have S0 := made8 (p := p) (iv := iv) (vv := .slice ax p.vars.length cx) (ov := ov) (lv := lv) (va := va) (bl := bl) (w := w) (e := 35) (f := 39)
    go_region_held3 (fun w' => w'.cell? ⟨w.heap.size, 0, none⟩ = some (.string p.name) ∧ w'.cell? ⟨w.heap.size, 1, none⟩ = some iv ∧ w'.cell? ⟨w.heap.size, 2, none⟩ = some (.slice ax p.vars.length cx) ∧ w'.cell? ⟨w.heap.size, 3, none⟩ = some ov ∧ w'.cell? ⟨w.heap.size, 4, none⟩ = some (.string p.guard) ∧ w'.cell? ⟨w.heap.size, 5, none⟩ = some lv ∧ w'.cell? ⟨w.heap.size + 1, 0, none⟩ = some va ∧ w'.cell? ⟨w.heap.size + 1, 1, none⟩ = some bl) (first | go_keep | exact S0 | exact S1 | exact S2 | exact S3) ((first | (go_at_call 51; refine (HS.out _ (HP.out.new (by repeat (first | with_reducible exact New.refl _ | with_reducible assumption | with_reducible refine New.drew ?_ | with_reducible refine New.drewN ?_ _ | with_reducible refine New.alloc ?_ _ | with_reducible refine New.setCell ?_ (by first | (simp; done) | (simp; omega) | omega) _ | with_reducible refine New.trans ?_ (by with_reducible assumption)))) (HK.out.new (by repeat (first | with_reducible exact New.refl _ | with_reducible assumption | with_reducible refine New.drew ?_ | with_reducible refine New.drewN ?_ _ | with_reducible refine New.alloc ?_ _ | with_reducible refine New.setCell ?_ (by first | (simp; done) | (simp; omega) | omega) _ | with_reducible refine New.trans ?_ (by with_reducible assumption))))).mono ?_; rintro e w1 ⟨rfl, n1⟩; have z1 : w.heap.size + 1 < w1.heap.size := (by have := n1.size; simp at this; omega); have S1 := keep8 n1 (by simp) S0) | (go_at_call 53; refine (HB.out _ (HP.out.new (by repeat (first | with_reducible exact New.refl _ | with_reducible assumption | with_reducible refine New.drew ?_ | with_reducible refine New.drewN ?_ _ | with_reducible refine New.alloc ?_ _ | with_reducible refine New.setCell ?_ (by first | (simp; done) | (simp; omega) | omega) _ | with_reducible refine New.trans ?_ (by with_reducible assumption))))).mono ?_; rintro e w2 ⟨r2, rfl, n2, own2⟩; have z2 : w.heap.size + 1 < w2.heap.size := (by have := n2.size; omega); have S2 := keep8 n2 z1 S1) | (go_at_call 52; refine (iSuits_any _ bs m.vals m.blocks _ _ _ _ (Rd.new (own_rd own2) (by repeat (first | with_reducible exact New.refl _ | with_reducible assumption | with_reducible refine New.drew ?_ | with_reducible refine New.drewN ?_ _ | with_reducible refine New.alloc ?_ _ | with_reducible refine New.setCell ?_ (by first | (simp; done) | (simp; omega) | omega) _ | with_reducible refine New.trans ?_ (by with_reducible assumption)))) (RdI.new HM.out.va (by repeat (first | with_reducible exact New.refl _ | with_reducible assumption | with_reducible refine New.drew ?_ | with_reducible refine New.drewN ?_ _ | with_reducible refine New.alloc ?_ _ | with_reducible refine New.setCell ?_ (by first | (simp; done) | (simp; omega) | omega) _ | with_reducible refine New.trans ?_ (by with_reducible assumption)))) (Rd.new HM.out.bl (by repeat (first | with_reducible exact New.refl _ | with_reducible assumption | with_reducible refine New.drew ?_ | with_reducible refine New.drewN ?_ _ | with_reducible refine New.alloc ?_ _ | with_reducible refine New.setCell ?_ (by first | (simp; done) | (simp; omega) | omega) _ | with_reducible refine New.trans ?_ (by with_reducible assumption)))) HC.out).mono ?_; rintro e w3 ⟨rfl, n3⟩; have S3 := keep8 n3 z2 S2)))
    all_goals go_wp2_with fail
    all_goals go_ret
    all_goals exact ⟨ret_bool HR.out.symm, (by repeat (first | with_reducible exact New.refl _ | with_reducible assumption | with_reducible refine New.drew ?_ | with_reducible refine New.drewN ?_ _ | with_reducible refine New.alloc ?_ _ | with_reducible refine New.setCell ?_ (by first | (simp; done) | (simp; omega) | omega) _ | with_reducible refine New.trans ?_ (by with_reducible assumption)))⟩
  · have HR := Lib.hid (show suitB p m = false by rw [suitB, h1]; rfl)
    rw [h1] at HS
    clear h1
    go_enter Tryz.func14, Tryz.ntmps14
    go_wp2_with fail
    refine RG.wp_facts [fun X _ => X = valP p iv (.slice ax p.vars.length cx) ov lv, fun X _ => X = .bool false, fun X _ => X = .bool false, fun X _ => X = undef, fun X _ => X = undef, fun X _ => X = undef, fun X _ => X = undef, fun X _ => X = undef, fun X _ => X = undef, fun X _ => X = undef, fun X _ => X = .bool false, fun X _ => X = .bool false] (by kernel_rfl) (by kernel_rfl) ⟨RG.stable_eq _, RG.stable_eq _, RG.stable_eq _, RG.stable_eq _, RG.stable_eq _, RG.stable_eq _, RG.stable_eq _, RG.stable_eq _, RG.stable_eq _, RG.stable_eq _, RG.stable_eq _, RG.stable_eq _, trivial⟩ ?_ ?_
    · refine ⟨?_, ?_, ?_, ?_, ?_, ?_, ?_, ?_, ?_, ?_, ?_, ?_, trivial⟩
      · intro a w9 hw ho hk
        refine .inl ⟨by rfl, ?_⟩
        have t2 := ho 2 rfl
        dsimp at t2
        try with_reducible replace hw := New.undrawN hw
        try with_reducible replace hw := New.undraw hw
        obtain ⟨c, f'⟩ := hw.rules
        go_simp
        exact New.refl _
      · intro a w9 hw ho hk
        refine .inl ⟨by rfl, ?_⟩
        have t5 : a.tmps[5]?.getD undef = valP p iv (.slice ax p.vars.length cx) ov lv := hk 0 5 (by kernel_rfl) rfl
        go_simp
        refine (HS.out _ (HP.out.new (by repeat (first | with_reducible exact New.refl _ | with_reducible assumption | with_reducible refine New.drew ?_ | with_reducible refine New.drewN ?_ _ | with_reducible refine New.alloc ?_ _ | with_reducible refine New.setCell ?_ (by first | (simp; done) | (simp; omega) | omega) _ | with_reducible refine New.trans ?_ (by with_reducible assumption)))) (HK.out.new (by repeat (first | with_reducible exact New.refl _ | with_reducible assumption | with_reducible refine New.drew ?_ | with_reducible refine New.drewN ?_ _ | with_reducible refine New.alloc ?_ _ | with_reducible refine New.setCell ?_ (by first | (simp; done) | (simp; omega) | omega) _ | with_reducible refine New.trans ?_ (by with_reducible assumption))))).mono ?_; rintro e w2 ⟨rfl, hb⟩
        first | exact ⟨hb, _, rfl, by simp⟩ | exact ⟨hb, by simp⟩
      · intro a w9 hw ho hk
        refine .inl ⟨by rfl, ?_⟩
        have t6 : a.tmps[6]?.getD undef = .bool false := hk 1 6 (by kernel_rfl) rfl
        go_simp
        exact New.refl _
      · intro a w9 hw ho hk
        have t7 : a.tmps[7]?.getD undef = .bool false := hk 2 7 (by kernel_rfl) rfl
        exact .inr ⟨by simp [Region.wanted, yielded, RG.look t7], rfl⟩
      · intro a w9 hw ho hk
        have t7 : a.tmps[7]?.getD undef = .bool false := hk 2 7 (by kernel_rfl) rfl
        exact .inr ⟨by simp [Region.wanted, yielded, RG.look t7], rfl⟩
      · intro a w9 hw ho hk
        have t7 : a.tmps[7]?.getD undef = .bool false := hk 2 7 (by kernel_rfl) rfl
        exact .inr ⟨by simp [Region.wanted, yielded, RG.look t7], rfl⟩
      · intro a w9 hw ho hk
        have t7 : a.tmps[7]?.getD undef = .bool false := hk 2 7 (by kernel_rfl) rfl
        exact .inr ⟨by simp [Region.wanted, yielded, RG.look t7], rfl⟩
      · intro a w9 hw ho hk
        have t7 : a.tmps[7]?.getD undef = .bool false := hk 2 7 (by kernel_rfl) rfl
        exact .inr ⟨by simp [Region.wanted, yielded, RG.look t7], rfl⟩
      · intro a w9 hw ho hk
        have t7 : a.tmps[7]?.getD undef = .bool false := hk 2 7 (by kernel_rfl) rfl
        exact .inr ⟨by simp [Region.wanted, yielded, RG.look t7], rfl⟩
      · intro a w9 hw ho hk
        have t7 : a.tmps[7]?.getD undef = .bool false := hk 2 7 (by kernel_rfl) rfl
        exact .inr ⟨by simp [Region.wanted, yielded, RG.look t7], rfl⟩
      · intro a w9 hw ho hk
        refine .inl ⟨by rfl, ?_⟩
        have t7 : a.tmps[7]?.getD undef = .bool false := hk 2 7 (by kernel_rfl) rfl
        have t14 : a.tmps[14]?.getD undef = undef := hk 9 14 (by kernel_rfl) rfl
        go_simp
        exact New.refl _
      · intro a w9 hw ho hk
        refine .inl ⟨by rfl, ?_⟩
        have t15 : a.tmps[15]?.getD undef = .bool false := hk 10 15 (by kernel_rfl) rfl
        go_simp
        exact New.refl _
    intro w3 b3 x0 h0 x1 h1 x2 h2 x3 h3 x4 h4 x5 h5 x6 h6 x7 h7 x8 h8 x9 h9 x10 h10 x11 h11
    subst h0 h1 h2 h3 h4 h5 h6 h7 h8 h9 h10 h11
    try with_reducible replace b3 := New.undrawN b3
    try with_reducible replace b3 := New.undraw b3
    obtain ⟨c3, f3⟩ := b3.rules
    have z3 := b3.size
    try simp only [World.size_alloc, World.size_drew, World.heap_drewN, World.size_setCell] at z3
    have z3_0 : w.heap.size < w3.heap.size := by omega
    have z3_1 : w.heap.size + 1 < w3.heap.size := by omega
    simp only [RG.EndAll, List.nil_append, List.cons_append, List.length_cons, List.length_nil, Nat.zero_add, Nat.reduceAdd, List.take_succ_cons, List.take_zero, List.drop_succ_cons, List.drop_zero, RG.putAll, Act.put, List.setIfInBounds_toArray, List.set_cons_succ, List.set_cons_zero]
    go_wp2_with fail
    go_ret
    exact ⟨ret_bool HR.out.symm, (by repeat (first | with_reducible exact New.refl _ | with_reducible assumption | with_reducible refine New.drew ?_ | with_reducible refine New.drewN ?_ _ | with_reducible refine New.alloc ?_ _ | with_reducible refine New.setCell ?_ (by first | (simp; done) | (simp; omega) | omega) _ | with_reducible refine New.trans ?_ (by with_reducible assumption)))⟩
end Go.Proofs.YtflhdijlhdckoaaGreatDoor
