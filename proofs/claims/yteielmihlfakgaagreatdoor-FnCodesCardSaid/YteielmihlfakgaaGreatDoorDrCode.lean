/- Contracts: a code drawn. -/
import Derived.WalkSpells
import Derived.IntWalk
import Derived.Test.YteielmihlfakgaaGreatDoorProg
import Derived.Test.YteielmihlfakgaaGreatDoorDrPg
import Derived.Test.YteielmihlfakgaaGreatDoorUI
import Derived.Test.YteielmihlfakgaaGreatDoorCompS
import Derived.Test.YteielmihlfakgaaGreatDoorCloneW
import Derived.Test.YteielmihlfakgaaGreatDoorUG
namespace Go.Proofs.YteielmihlfakgaaGreatDoor
open Go Go.Proofs Go.RowKit
set_option linter.unusedVariables false
set_option linter.unusedSimpArgs false
set_option maxRecDepth 100000
set_option maxHeartbeats 8000000 in
theorem drCd_any {B : Nat} (S : Nat) (w : World) (hs : Src B S w) : Calls Tryz.prog 22 #[.pointer (some ⟨S, 0, none⟩)] w (DrawCd S w) := by
  obtain ⟨i0, hi, hz0, hz1, hz2⟩ := info_parts infoInstruction
  have hS := hs.lt
  have HS := Lib.hid hs; clear hs
  go_enter Tryz.func22, Tryz.ntmps22
  go_wp2_with fail
  refine (drPg_any S _ (Dr.src ?hs4 HS.out)).mono ?_
  case hs4 => exact (by repeat (first | with_reducible refine Dr.setCell ?_ (by first | (simp; done) | (simp; omega) | omega) _ | with_reducible refine Dr.alloc ?_ _ | with_reducible exact Dr.refl _ _ | with_reducible assumption | with_reducible refine Dr.trans ?_ (by with_reducible assumption) | with_reducible refine Dr.trans ?_ (Dr.of_new (by with_reducible assumption)) | with_reducible refine Dr.drewN ?_ _ | with_reducible refine Dr.drew ?_))
  rintro e w1 ⟨p, iv, vv, ov, lv, rfl, b1, OP, hsm, hfew, _⟩
  have z1 := b1.size
  try simp only [World.size_alloc, World.size_drew, World.heap_drewN, World.size_setCell] at z1
  have y1 : S < w1.heap.size := by omega
  have zB1 := b1.size
  simp only [World.size_alloc] at zB1
  obtain ⟨hSM, hl1, hl2⟩ := comp_sm hfew (fun l hl => (hsm.terms l hl).2) hsm.lines1
  have D1 : Dr S w w1 := (by repeat (first | with_reducible refine Dr.setCell ?_ (by first | (simp; done) | (simp; omega) | omega) _ | with_reducible refine Dr.alloc ?_ _ | with_reducible exact Dr.refl _ _ | with_reducible assumption | with_reducible refine Dr.trans ?_ (by with_reducible assumption) | with_reducible refine Dr.trans ?_ (Dr.of_new (by with_reducible assumption)) | with_reducible refine Dr.drewN ?_ _ | with_reducible refine Dr.drew ?_))
  have KR1 := (Blk.alloc_at (w := w) (cs := #[.int .i64 0, .int .i64 0, .int .i64 0, .slice none 0 0, .slice none 0 0]) (T := 27) rfl).dr b1 (by omega)
  go_wp2_with fail
  refine (sCompile0_any p _ _ _ _ _ OP.rd hfew).mono ?_
  rintro e w2 ⟨bv, sv, rfl, b2, ob, os⟩
  have D2 := D1.trans (Dr.of_new b2)
  have KR2 := KR1.new b2
  have hR2 := KR2.lt
  clear b1 OP KR1
  generalize compC p = c at *
  obtain ⟨ba, bc, rfl⟩ := own_slice ob
  obtain ⟨sa, sc, rfl⟩ := own_slice os
  have z2 := b2.size
  have zD2 := D2.size
  have OB := Lib.hid (own_base (base' := w.heap.size + 1) ob (by omega))
  have OS0 := Lib.hid (own_rd os)
  clear ob os b2
  have own0 : ((w2.alloc (.cells #[.int .i64 c.ins, .int .i64 c.vars, .int .i64 c.outs, .slice ba c.blocks.length bc, .slice sa c.steps.length sc] 27)).alloc (.cells #[] 70)).ownsRow (w2.heap.size + 1) 70 2 (.slice (some ⟨w2.heap.size + 1, 0, none⟩) 0 0) 0 [] := own_freshS (by simp) (by simp)
  go_wp2_with (first | (at_builtin; refine wpList_append_rd rfl _ _ 25 rfl (w2.heap.size + 1) 70 i0 (Value.agg #[.int .i64 0, .int .i64 0]) 2 16 Tryz.underlying25 hi hz0 hz1 hz2 rfl (by decide) _ _ _ rfl (own0) _ _ ((c.steps).flatMap encInstruction) rfl (Rd.new OS0.out (by repeat (first | with_reducible exact New.refl _ | with_reducible assumption | with_reducible refine New.drew ?_ | with_reducible refine New.drewN ?_ _ | with_reducible refine New.alloc ?_ _ | with_reducible refine New.setCell ?_ (by first | (simp; done) | (simp; omega) | omega) _ | with_reducible refine New.trans ?_ (by with_reducible assumption)))) (flat_length encInstruction 2 encInstruction_len _) (encI_one _) (by unfold maxLen; omega) (by omega) (by first | (simp; done) | (simp; omega) | omega) ?_; intro va wa howna hgra; have NC := New.grown (New.alloc (New.refl (w2.alloc (.cells #[.int .i64 c.ins, .int .i64 c.vars, .int .i64 c.outs, .slice ba c.blocks.length bc, .slice sa c.steps.length sc] 27))) (.cells #[] 70)) hgra (fun q hq => by have := (own_block_lt own0 q hq).1; simpa using this); have own1 : wa.ownsRow (w2.heap.size + 1) 70 2 va c.steps.length (c.steps.flatMap encInstruction) := (by simpa using howna); clear howna hgra own0; obtain ⟨g, cap, rfl⟩ := own_form own1 (by omega); rename World => w3))
  obtain ⟨wc, hwc⟩ : ∃ wc, wc = w2.alloc (.cells #[.int .i64 c.ins, .int .i64 c.vars, .int .i64 c.outs, .slice ba c.blocks.length bc, .slice sa c.steps.length sc] 27) := ⟨_, rfl⟩
  have DC : Dr S w wc := by rw [hwc]; exact D2.alloc _
  have KRc : Blk wc w.heap.size #[.int .i64 0, .int .i64 0, .int .i64 0, .slice none 0 0, .slice none 0 0] 27 := by rw [hwc]; exact KR2.alloc _
  have KCc : Blk wc w2.heap.size #[.int .i64 c.ins, .int .i64 c.vars, .int .i64 c.outs, .slice ba c.blocks.length bc, .slice sa c.steps.length sc] 27 := by rw [hwc]; exact Blk.alloc_at rfl
  have OBc : wc.ownsRow (w.heap.size + 1) 66 3 (.slice ba c.blocks.length bc) c.blocks.length (c.blocks.flatMap encTerm) := by rw [hwc]; exact OB.out.alloc _
  rw [← hwc] at NC
  have hwz : wc.heap.size = w2.heap.size + 1 := by rw [hwc]; simp
  rw [← hwz] at own1
  have D3 : Dr S wc w3 := Dr.of_new NC
  replace own1 := Lib.hid own1
  replace OBc := Lib.hid OBc
  clear NC OB OS0 D2 KR2 D1 zB1 z1 y1
  have zRC : w.heap.size ≠ w2.heap.size := by omega
  generalize hcb : w2.heap.size = cb at *
  have zC3 := D3.size
  have hS3 : S < wc.heap.size := by omega
  have hcbS : cb ≠ S := by omega
  have DW3 := DC.trans D3
  refine (l01Next_any S c.steps.length _ (DW3.src HS.out)).mono ?_
  rintro e w4 ⟨r4, rfl, p4, q4, b4⟩
  obtain ⟨k, rfl⟩ := Int.eq_ofNat_of_zero_le p4; replace q4 : k < c.steps.length := (by omega)
  have z4 := b4.size
  try simp only [World.size_alloc, World.size_drew, World.heap_drewN, World.size_setCell] at z4
  try clear c3_0 f3_0 K3_0
  try clear c3_1 f3_1 K3_1
  try clear c3_2 f3_2 K3_2
  try clear c3_3 f3_3 K3_3
  try clear c3_4 f3_4 K3_4
  try clear c3_5 f3_5 K3_5
  try clear c2_0 f2_0 K2_0
  try clear c2_1 f2_1 K2_1
  try clear c2_2 f2_2 K2_2
  try clear c2_3 f2_3 K2_3
  try clear c2_4 f2_4 K2_4
  try clear c2_5 f2_5 K2_5
  try clear c1_0 f1_0 K1_0
  try clear c1_1 f1_1 K1_1
  try clear c1_2 f1_2 K1_2
  try clear c1_3 f1_3 K1_3
  try clear c1_4 f1_4 K1_4
  try clear c1_5 f1_5 K1_5
  have y4 : S < w4.heap.size := by omega
  have D4 := D3.trans b4
  have own4 := Lib.hid (own_dr own1.out b4 (by omega))
  clear b4 own1 D3 DW3 p4
  go_wp2_with fail
  have DW4 := DC.trans D4
  refine (l01Next_any S 20 _ (DW4.src HS.out)).mono ?_
  rintro e w5 ⟨r5, rfl, p5, q5, b5⟩
  have z5 := b5.size
  try simp only [World.size_alloc, World.size_drew, World.heap_drewN, World.size_setCell] at z5
  try clear c4_0 f4_0 K4_0
  try clear c4_1 f4_1 K4_1
  try clear c4_2 f4_2 K4_2
  try clear c4_3 f4_3 K4_3
  try clear c4_4 f4_4 K4_4
  try clear c4_5 f4_5 K4_5
  try clear c3_0 f3_0 K3_0
  try clear c3_1 f3_1 K3_1
  try clear c3_2 f3_2 K3_2
  try clear c3_3 f3_3 K3_3
  try clear c3_4 f3_4 K3_4
  try clear c3_5 f3_5 K3_5
  try clear c2_0 f2_0 K2_0
  try clear c2_1 f2_1 K2_1
  try clear c2_2 f2_2 K2_2
  try clear c2_3 f2_3 K2_3
  try clear c2_4 f2_4 K2_4
  try clear c2_5 f2_5 K2_5
  have y5 : S < w5.heap.size := by omega
  have D5 := D4.trans b5
  have own5 := Lib.hid (own_dr own4.out b5 (by omega))
  have DW5 := DC.trans D5
  clear b5 own4 D4 DW4
  have zC5 := D5.size
  have KR5 := KRc.dr D5 (by omega)
  have KC5 := KCc.dr D5 hcbS
  have hR5 := KR5.lt
  have hC5 := KC5.lt
  obtain ⟨cR, fR⟩ := KR5.rules
  obtain ⟨cC, fC⟩ := KC5.rules
  rcases (by omega : r5 = 0 ∨ r5 = 1 ∨ r5 = 2 ∨ r5 = 3 ∨ r5 = 4 ∨ r5 = 5 ∨ r5 = 6 ∨ 7 ≤ r5) with rfl | rfl | rfl | rfl | rfl | rfl | rfl | h7
  case inr.inr.inr.inr.inr.inr.inr =>
    have e0 : (r5 == 0) = false := by simp; omega
    have e1 : (r5 == 1) = false := by simp; omega
    have e2 : (r5 == 2) = false := by simp; omega
    have e3 : (r5 == 3) = false := by simp; omega
    have e4 : (r5 == 4) = false := by simp; omega
    have e5 : (r5 == 5) = false := by simp; omega
    have e6 : (r5 == 6) = false := by simp; omega
    go_wp2_with fail
    exact cd_fin rfl hS (by omega) DC D5 OBc.out own5.out (by omega) hSM (by simp [results, Tryz.results22, go_sem, cR, fR, hR5])
  · go_wp2_with fail
    refine (l01PickL_n S [0, 1, 2, 3, 4, 5, 12] _ _ (DW5.src HS.out)).mono ?_
    rintro e w6 ⟨r6, rfl, b6⟩
    have z6 := b6.size
    try simp only [World.size_alloc, World.size_drew, World.heap_drewN, World.size_setCell] at z6
    try clear c5_0 f5_0 K5_0
    try clear c5_1 f5_1 K5_1
    try clear c5_2 f5_2 K5_2
    try clear c5_3 f5_3 K5_3
    try clear c5_4 f5_4 K5_4
    try clear c5_5 f5_5 K5_5
    try clear c4_0 f4_0 K4_0
    try clear c4_1 f4_1 K4_1
    try clear c4_2 f4_2 K4_2
    try clear c4_3 f4_3 K4_3
    try clear c4_4 f4_4 K4_4
    try clear c4_5 f4_5 K4_5
    try clear c3_0 f3_0 K3_0
    try clear c3_1 f3_1 K3_1
    try clear c3_2 f3_2 K3_2
    try clear c3_3 f3_3 K3_3
    try clear c3_4 f3_4 K3_4
    try clear c3_5 f3_5 K3_5
    have y6 : S < w6.heap.size := by omega
    have own6 := own_dr (own5.out.alloc (.cells (([0, 1, 2, 3, 4, 5, 12] : List Int).map (Value.int .i64)).toArray 2)) b6 (by omega)
    have D6 := (D5.alloc (.cells (([0, 1, 2, 3, 4, 5, 12] : List Int).map (Value.int .i64)).toArray 2)).trans b6
    have hg := (own_block_lt own6 g rfl).1
    have hgz := (own_block_lt own6 g rfl).2
    have KR6 := KRc.dr D6 (by omega)
    have KC6 := KCc.dr D6 hcbS
    clear KR5 KC5 cR fR cC fC hR5 hC5
    have hR6 := KR6.lt
    have hC6 := KC6.lt
    obtain ⟨cR, fR⟩ := KR6.rules
    obtain ⟨cC, fC⟩ := KC6.rules
    have hgc : g ≠ cb := by omega
    have hgw : g ≠ w.heap.size := by omega
    have hgc' : cb ≠ g := by omega
    have hgw' : w.heap.size ≠ g := by omega
    have hcx : w6.cell? ⟨g, k * 2, none⟩ = some (.int .i64 c.steps[k].op) := by
      rw [own6.cellAt (k * 2) (by omega)]
      have := flat_at encInstruction 2 encInstruction_len c.steps k q4 0 (by omega)
      exact this
    have hfx := own6.frozenAt (k * 2)
    have oL := ownI_set own6 (setI0 c.steps k q4 r6) (by simp)
    have DE := D6.setCell (p := ⟨g, k * 2, none⟩) hg (.int .i64 r6)
    have hll : (c.steps.set k ⟨r6, c.steps[k].arg⟩).length = c.steps.length := by simp
    replace oL := Lib.hid oL
    go_wp2_with fail
    exact cd_fin rfl hS (by omega) DC DE OBc.out oL.out (by rw [hll]; omega) hSM (by simp [results, Tryz.results22, go_sem, cR, fR, hR6, hgw, hgw'])
  · go_wp2_with fail
    refine (l01PickL_n S [-1, 0, 1, 2, 9] _ _ (DW5.src HS.out)).mono ?_
    rintro e w6 ⟨r6, rfl, b6⟩
    have z6 := b6.size
    try simp only [World.size_alloc, World.size_drew, World.heap_drewN, World.size_setCell] at z6
    try clear c5_0 f5_0 K5_0
    try clear c5_1 f5_1 K5_1
    try clear c5_2 f5_2 K5_2
    try clear c5_3 f5_3 K5_3
    try clear c5_4 f5_4 K5_4
    try clear c5_5 f5_5 K5_5
    try clear c4_0 f4_0 K4_0
    try clear c4_1 f4_1 K4_1
    try clear c4_2 f4_2 K4_2
    try clear c4_3 f4_3 K4_3
    try clear c4_4 f4_4 K4_4
    try clear c4_5 f4_5 K4_5
    try clear c3_0 f3_0 K3_0
    try clear c3_1 f3_1 K3_1
    try clear c3_2 f3_2 K3_2
    try clear c3_3 f3_3 K3_3
    try clear c3_4 f3_4 K3_4
    try clear c3_5 f3_5 K3_5
    have y6 : S < w6.heap.size := by omega
    have own6 := own_dr (own5.out.alloc (.cells (([-1, 0, 1, 2, 9] : List Int).map (Value.int .i64)).toArray 2)) b6 (by omega)
    have D6 := (D5.alloc (.cells (([-1, 0, 1, 2, 9] : List Int).map (Value.int .i64)).toArray 2)).trans b6
    have hg := (own_block_lt own6 g rfl).1
    have hgz := (own_block_lt own6 g rfl).2
    have KR6 := KRc.dr D6 (by omega)
    have KC6 := KCc.dr D6 hcbS
    clear KR5 KC5 cR fR cC fC hR5 hC5
    have hR6 := KR6.lt
    have hC6 := KC6.lt
    obtain ⟨cR, fR⟩ := KR6.rules
    obtain ⟨cC, fC⟩ := KC6.rules
    have hgc : g ≠ cb := by omega
    have hgw : g ≠ w.heap.size := by omega
    have hgc' : cb ≠ g := by omega
    have hgw' : w.heap.size ≠ g := by omega
    have hcx : w6.cell? ⟨g, k * 2 + 1, none⟩ = some (.int .i64 c.steps[k].arg) := by
      rw [own6.cellAt (k * 2 + 1) (by omega)]
      have := flat_at encInstruction 2 encInstruction_len c.steps k q4 1 (by omega)
      exact this
    have hfx := own6.frozenAt (k * 2 + 1)
    have oL := ownI_set own6 (setI1 c.steps k q4 r6) (by simp)
    have DE := D6.setCell (p := ⟨g, k * 2 + 1, none⟩) hg (.int .i64 r6)
    have hll : (c.steps.set k ⟨c.steps[k].op, r6⟩).length = c.steps.length := by simp
    replace oL := Lib.hid oL
    go_wp2_with fail
    exact cd_fin rfl hS (by omega) DC DE OBc.out oL.out (by rw [hll]; omega) hSM (by simp [results, Tryz.results22, go_sem, cR, fR, hR6, hgw, hgw'])
  · have hcap := Rd.cap (own_rd own5.out)
    have OR5 := Lib.hid (own_rd own5.out)
    have htlk : (c.steps.take k).length = k := by simp; omega
    have hdl : (c.steps.drop (k + 1)).length = c.steps.length - (k + 1) := by simp
    have hwk : IntKind.i64.wrap ((k : Int) + 1) = (k : Int) + 1 := IntWalk.i64_in _ (by omega)
    have hkt : ((k : Int) + 1).toNat = k + 1 := by omega
    have hk0 : (0 : Int) ≤ (k : Int) + 1 := by omega
    have hk4 : k ≤ cap := by omega
    have hk5 : k + 1 ≤ cap := by omega
    have hk1 : (k : Int) + 1 ≤ c.steps.length := by omega
    go_wp2_with fail
    refine RG.wp_facts [fun X W' => ∃ q, X = .slice (some ⟨q, 0, none⟩) 0 0 ∧ w5.heap.size ≤ q ∧ Blk W' q #[] 70, fun X _ => X = .slice (some ⟨g, 0, none⟩) c.steps.length cap, fun X _ => X = .int .i64 (k : Int), fun X _ => X = .slice (some ⟨g, 0, none⟩) k cap, fun X W' => W'.ownsRow w5.heap.size 70 2 X k ((c.steps.take k).flatMap encInstruction), fun X _ => X = .slice (some ⟨g, 0, none⟩) c.steps.length cap, fun X _ => X = .int .i64 (k : Int), fun X _ => X = .int .i64 ((k : Int) + 1), fun X W' => RdN W' X (c.steps.drop (k + 1))] (by kernel_rfl) (by kernel_rfl) ⟨fun X w0 w1 hn ⟨q43, t43, l43, o43⟩ => ⟨q43, t43, l43, o43.new hn⟩, RG.stable_eq _, RG.stable_eq _, RG.stable_eq _, fun X w0 w1 hn r47 => own_new r47 hn, RG.stable_eq _, RG.stable_eq _, RG.stable_eq _, fun X w0 w1 hn k51 => Rd.new k51 hn, trivial⟩ ?_ ?_
    · refine ⟨?_, ?_, ?_, ?_, ?_, ?_, ?_, ?_, ?_, trivial⟩
      · intro a w9 hw ho hk
        refine .inl ⟨by rfl, ?_⟩
        have hws := hw.size; go_simp; first | exact ⟨(New.refl _).alloc _, _, rfl, _, rfl, hws, Blk.alloc_at rfl⟩ | exact ⟨(New.refl _).alloc _, _, by simp, hws, Blk.alloc_at rfl⟩
      · intro a w9 hw ho hk
        refine .inl ⟨by rfl, ?_⟩
        have t2 := ho 4 rfl
        dsimp at t2
        try with_reducible replace hw := New.undrawN hw
        try with_reducible replace hw := New.undraw hw
        obtain ⟨c, f'⟩ := hw.rules
        go_simp
        exact New.refl _
      · intro a w9 hw ho hk
        refine .inl ⟨by rfl, ?_⟩
        have t2 := ho 5 rfl
        dsimp at t2
        try with_reducible replace hw := New.undrawN hw
        try with_reducible replace hw := New.undraw hw
        obtain ⟨c, f'⟩ := hw.rules
        go_simp
        exact New.refl _
      · intro a w9 hw ho hk
        refine .inl ⟨by rfl, ?_⟩
        have t44 : a.tmps[44]?.getD undef = .slice (some ⟨g, 0, none⟩) c.steps.length cap := hk 1 44 (by kernel_rfl) rfl
        have t45 : a.tmps[45]?.getD undef = .int .i64 (k : Int) := hk 2 45 (by kernel_rfl) rfl
        go_simp
        exact New.refl _
      · intro a w9 hw ho hk
        refine .inl ⟨by rfl, ?_⟩
        obtain ⟨q43, t43, l43, o43⟩ : ∃ q, (a.tmps[43]?.getD undef) = .slice (some ⟨q, 0, none⟩) 0 0 ∧ w5.heap.size ≤ q ∧ Blk w9 q #[] 70 := hk 0 43 (by kernel_rfl) rfl
        have t46 : a.tmps[46]?.getD undef = .slice (some ⟨g, 0, none⟩) k cap := hk 3 46 (by kernel_rfl) rfl
        have hws := hw.size; exact wp_append_fresh _ _ 25 rfl 70 i0 (Value.agg #[.int .i64 0, .int .i64 0]) 2 16 Tryz.underlying25 hi hz0 hz1 hz2 rfl (by decide) w5.heap.size q43 l43 (by first | (simp [Act.eval, Act.get]; exact t43) | simp [Act.eval, t43]) o43 _ k ((c.steps.take k).flatMap encInstruction) (by first | (simp [Act.eval, Act.get]; exact t46) | simp [Act.eval, t46]) (rdN_takeI (Rd.new OR5.out hw) (by omega)) (by rw [flat_length encInstruction 2 encInstruction_len, htlk]) (encI_one _) (by unfold maxLen; omega) (by omega) hws (fun v2 w2 hn2 hr2 => ⟨hn2, _, rfl, hr2⟩)
      · intro a w9 hw ho hk
        refine .inl ⟨by rfl, ?_⟩
        have t2 := ho 4 rfl
        dsimp at t2
        try with_reducible replace hw := New.undrawN hw
        try with_reducible replace hw := New.undraw hw
        obtain ⟨c, f'⟩ := hw.rules
        go_simp
        exact New.refl _
      · intro a w9 hw ho hk
        refine .inl ⟨by rfl, ?_⟩
        have t2 := ho 5 rfl
        dsimp at t2
        try with_reducible replace hw := New.undrawN hw
        try with_reducible replace hw := New.undraw hw
        obtain ⟨c, f'⟩ := hw.rules
        go_simp
        exact New.refl _
      · intro a w9 hw ho hk
        refine .inl ⟨by rfl, ?_⟩
        have t49 : a.tmps[49]?.getD undef = .int .i64 (k : Int) := hk 6 49 (by kernel_rfl) rfl
        go_simp
        exact New.refl _
      · intro a w9 hw ho hk
        refine .inl ⟨by rfl, ?_⟩
        have t48 : a.tmps[48]?.getD undef = .slice (some ⟨g, 0, none⟩) c.steps.length cap := hk 5 48 (by kernel_rfl) rfl
        have t50 : a.tmps[50]?.getD undef = .int .i64 ((k : Int) + 1) := hk 7 50 (by kernel_rfl) rfl
        go_simp
        first | exact ⟨New.refl _, _, rfl, rdN_dropI0 (Rd.new OR5.out hw) rfl (by omega)⟩ | exact ⟨New.refl _, rdN_dropI0 (Rd.new OR5.out hw) rfl (by omega)⟩
    intro w6 b6
    rintro _ ⟨q43, rfl, l43, o43⟩ _ rfl _ rfl _ rfl xb r47 _ rfl _ rfl _ rfl xd k51
    clear o43 l43
    have D6 := D5.trans (Dr.of_new b6)
    clear KR5 KC5 cR fR cC fC hR5 hC5
    have KR6 := KRc.dr D6 (by omega)
    have KC6 := KCc.dr D6 hcbS
    have hR6 := KR6.lt
    have hC6 := KC6.lt
    obtain ⟨cR, fR⟩ := KR6.rules
    obtain ⟨cC, fC⟩ := KC6.rules
    have z6 := b6.size
    simp only [RG.EndAll, List.nil_append, List.cons_append, List.length_cons, List.length_nil, Nat.zero_add, Nat.reduceAdd, List.take_succ_cons, List.take_zero, List.drop_succ_cons, List.drop_zero, RG.putAll, Act.put, List.setIfInBounds_toArray, List.set_cons_succ, List.set_cons_zero]
    go_wp2_with (first | (at_builtin; refine wpList_append_rd rfl _ _ 25 rfl (w5.heap.size) 70 i0 (Value.agg #[.int .i64 0, .int .i64 0]) 2 16 Tryz.underlying25 hi hz0 hz1 hz2 rfl (by decide) _ _ _ rfl (r47) _ _ ((c.steps.drop (k + 1)).flatMap encInstruction) rfl (k51) (flat_length encInstruction 2 encInstruction_len _) (encI_one _) (by unfold maxLen; omega) (by omega) (by first | (simp; done) | (simp; omega) | omega) ?_; intro va wa howna hgra; have n7 := New.grown b6 hgra (fun q hq => (own_block_lt r47 q hq).1); have oq := own_appI (xs := c.steps.take k) (ys := c.steps.drop (k + 1)) (by rw [htlk]; exact howna); obtain ⟨da, dc, rfl⟩ := own_slice oq; have D7 := D5.trans (Dr.of_new n7); have KR7 := KRc.dr D7 (by omega); have KC7 := KCc.dr D7 hcbS; have hR7 := KR7.lt; have hC7 := KC7.lt; obtain ⟨cR7, fR7⟩ := KR7.rules; obtain ⟨cC7, fC7⟩ := KC7.rules))
    have hqv : (c.steps.take k ++ c.steps.drop (k + 1)).length = k + (c.steps.length - (k + 1)) := by rw [List.length_append, htlk, hdl]
    exact cd_fin rfl hS (by omega) DC D7 OBc.out (own_base (own_val oq (by rw [hqv])) (by omega)) (by rw [hqv]; omega) hSM (by simp [results, Tryz.results22, go_sem, cR7, fR7, hR7])
  · have hcap := Rd.cap (own_rd own5.out)
    have OR5 := Lib.hid (own_rd own5.out)
    have htlk : (c.steps.take k).length = k := by simp; omega
    have hdl : (c.steps.drop k).length = c.steps.length - k := by simp
    have hk4 : k ≤ cap := by omega
    have hkc : ¬ cap = k := by omega
    obtain ⟨M4, hMl, HM4⟩ : ∃ M : List EInstruction, M.length = 4 ∧ Hid (∀ w0 : World, RdN (w0.alloc (.cells #[.int .i64 1, .int .i64 1, .int .i64 4, .int .i64 0, .int .i64 4, .int .i64 0, .int .i64 9, .int .i64 0] 70)) (.slice (some ⟨w0.heap.size, 0, none⟩) 4 4) M) := ⟨[⟨1, 1⟩, ⟨4, 0⟩, ⟨4, 0⟩, ⟨9, 0⟩], rfl, Lib.hid (fun w0 => rdN_lit _ rfl rfl (by decide))⟩
    have htm : (c.steps.take k ++ M4).length = k + 4 := by rw [List.length_append, htlk, hMl]
    have own0 : (w5.alloc (.cells #[] 70)).ownsRow w5.heap.size 70 2 (.slice (some ⟨w5.heap.size, 0, none⟩) 0 0) 0 [] := own_empty (Nat.le_refl _)
    go_wp2_with (first | (at_builtin; refine wpList_append_rd rfl _ _ 25 rfl (w5.heap.size) 70 i0 (Value.agg #[.int .i64 0, .int .i64 0]) 2 16 Tryz.underlying25 hi hz0 hz1 hz2 rfl (by decide) _ _ _ rfl (own0) _ _ ((c.steps.take k).flatMap encInstruction) rfl (Rd.takeE encInstruction_len (by omega) (Rd.new OR5.out (by repeat (first | with_reducible exact New.refl _ | with_reducible assumption | with_reducible refine New.drew ?_ | with_reducible refine New.drewN ?_ _ | with_reducible refine New.alloc ?_ _ | with_reducible refine New.setCell ?_ (by first | (simp; done) | (simp; omega) | omega) _ | with_reducible refine New.trans ?_ (by with_reducible assumption))))) (flat_length encInstruction 2 encInstruction_len _) (encI_one _) (by unfold maxLen; omega) (by omega) (by first | (simp; done) | (simp; omega) | omega) ?_; intro va wa howna hgra; have n6 : New w5 wa := New.grown ((New.refl w5).alloc _) hgra (fun q hq => (own_block_lt own0 q hq).1); have o6 : wa.ownsRow w5.heap.size 70 2 va (c.steps.take k).length ((c.steps.take k).flatMap encInstruction) := (by simpa using howna); clear howna hgra own0; have z6 := n6.size; rename World => w6; rename Value => v6) | (at_builtin; refine wpList_append_rd rfl _ _ 25 rfl (w5.heap.size) 70 i0 (Value.agg #[.int .i64 0, .int .i64 0]) 2 16 Tryz.underlying25 hi hz0 hz1 hz2 rfl (by decide) _ _ _ rfl (o6.alloc _) _ _ ((M4).flatMap encInstruction) rfl (HM4.out _) (flat_length encInstruction 2 encInstruction_len _) (encI_one _) (by unfold maxLen; omega) (by omega) (by first | (simp; done) | (simp; omega) | omega) ?_; intro va wa howna hgra; have n7 : New w5 wa := New.grown (n6.alloc _) hgra (fun q hq => (own_block_lt o6 q hq).1); have o7 := own_appI (xs := c.steps.take k) (ys := M4) howna; clear howna hgra o6; have z7 := n7.size; rename World => w7; rename Value => v7) | (at_builtin; refine wpList_append_rd rfl _ _ 25 rfl (w5.heap.size) 70 i0 (Value.agg #[.int .i64 0, .int .i64 0]) 2 16 Tryz.underlying25 hi hz0 hz1 hz2 rfl (by decide) _ _ _ rfl (o7) _ _ ((c.steps.drop k).flatMap encInstruction) rfl (rdN_dropJ (Rd.new OR5.out n7) rfl (by omega) hkc) (flat_length encInstruction 2 encInstruction_len _) (encI_one _) (by unfold maxLen; omega) (by omega) (by first | (simp; done) | (simp; omega) | omega) ?_; intro va wa howna hgra; have n8 : New w5 wa := New.grown n7 hgra (fun q hq => (own_block_lt o7 q hq).1); have oq := own_appI (xs := c.steps.take k ++ M4) (ys := c.steps.drop k) howna; clear howna hgra o7; obtain ⟨da, dc, rfl⟩ := own_slice oq; have D7 := D5.trans (Dr.of_new n8); have KR7 := KRc.dr D7 (by omega); have KC7 := KCc.dr D7 hcbS; have hR7 := KR7.lt; have hC7 := KC7.lt; obtain ⟨cR7, fR7⟩ := KR7.rules; obtain ⟨cC7, fC7⟩ := KC7.rules))
    have hqv : (c.steps.take k ++ M4 ++ c.steps.drop k).length = k + (4 + (c.steps.length - k)) := by rw [List.length_append, htm, hdl]; omega
    exact cd_fin rfl hS (by omega) DC D7 OBc.out (own_base (own_val oq (by rw [hqv])) (by omega)) (by rw [hqv]; omega) hSM (by simp [results, Tryz.results22, go_sem, cR7, fR7, hR7])
  · clear KR5 KC5 cR fR cC fC hR5 hC5
    go_wp2_with fail
    go_loopw [4] (fun v wr => ∃ L : List EInstruction, wr.ownsRow wc.heap.size 70 2 v L.length (L.flatMap encInstruction) ∧ L.length ≤ 2001 ∧ Dr S wc wr) (fun v _ => 2001 - slen v)
    case atStart => exact ⟨c.steps, own5.out, by omega, D5⟩
    case round =>
      obtain ⟨L, hown, hL, hb⟩ := hrel
      have hbz := hb.size
      obtain ⟨xa, xc, rfl⟩ := own_slice hown
      replace hown := Lib.hid hown
      have DWb := DC.trans hb
      go_wp2_with fail
      refine (l01Next_any S 2 _ (DWb.src HS.out)).mono ?_
      rintro e w6 ⟨r6, rfl, p6, q6, b6⟩
      replace q6 : r6 ≤ 1 := (by omega)
      have z6 := b6.size
      try simp only [World.size_alloc, World.size_drew, World.heap_drewN, World.size_setCell] at z6
      try clear c5_0 f5_0 K5_0
      try clear c5_1 f5_1 K5_1
      try clear c5_2 f5_2 K5_2
      try clear c5_3 f5_3 K5_3
      try clear c5_4 f5_4 K5_4
      try clear c5_5 f5_5 K5_5
      try clear c4_0 f4_0 K4_0
      try clear c4_1 f4_1 K4_1
      try clear c4_2 f4_2 K4_2
      try clear c4_3 f4_3 K4_3
      try clear c4_4 f4_4 K4_4
      try clear c4_5 f4_5 K4_5
      try clear c3_0 f3_0 K3_0
      try clear c3_1 f3_1 K3_1
      try clear c3_2 f3_2 K3_2
      try clear c3_3 f3_3 K3_3
      try clear c3_4 f3_4 K3_4
      try clear c3_5 f3_5 K3_5
      have y6 : S < w6.heap.size := by omega
      have D6 := hb.trans b6
      have own6 := own_dr hown.out b6 (by omega)
      have z6' := D6.size
      clear b6 hown
      have KR6 := KRc.dr D6 (by omega)
      have KC6 := KCc.dr D6 hcbS
      have hR6 := KR6.lt
      have hC6 := KC6.lt
      obtain ⟨cR, fR⟩ := KR6.rules
      obtain ⟨cC, fC⟩ := KC6.rules
      by_cases hlt : (L.length : Int) < 2000 + r6
      · clear KR6 KC6 cR fR cC fC hR6 hC6
        go_wp2_with (first | (at_builtin; refine wpList_append_own _ rfl _ _ 25 rfl (wc.heap.size) 70 i0 (Value.agg #[.int .i64 0, .int .i64 0]) 2 16 Tryz.underlying25 hi hz0 hz1 hz2 rfl (by decide) _ _ _ rfl (own6.alloc _) ⟨w6.heap.size, 0, none⟩ 1 1 [.int .i64 10, .int .i64 0] rfl rfl (fun j u hj => alloc_row (by first | rfl | simp) j u hj) (by intro u hu; simp at hu; rcases hu with rfl | rfl <;> rfl) (by unfold maxLen; omega) (by omega) (by first | (simp; done) | (simp; omega) | omega) ?_; intro va wa howna hgra _))
        have DA := Dr.grown (D6.alloc _) hgra (fun q hq => (own_block_lt own6 q hq).1)
        have oA := own_snocI howna
        obtain ⟨ya, yc, rfl⟩ := own_slice oA
        have hln : (L ++ [(⟨10, 0⟩ : EInstruction)]).length = L.length + 1 := by simp
        go_roundw
        case rel => exact ⟨L ++ [⟨10, 0⟩], oA, by omega, DA⟩
        case measure => simp only [slen, hln]; omega
      · replace own6 := Lib.hid own6
        go_wp2_with fail
        exact cd_fin rfl hS (by omega) DC D6 OBc.out own6.out (by omega) hSM (by simp [results, Tryz.results22, go_sem, cR, fR, hR6])
  · have HSR := Lib.hid (DW5.src HS.out)
    have hSb : S < cb := by omega
    go_wp2_with fail
    refine RD.wp_facts (S := S) [fun X _ => X = .pointer (some ⟨S, 0, none⟩), fun X W' => RdA S W' X [-1, 20, 21], fun X W' => ∃ r : Int, X = .int .i64 r, fun X _ => X = .pointer (some ⟨cb, 1, none⟩), fun X _ => X = .int .i64 c.vars, fun X _ => X = .pointer (some ⟨cb, 2, none⟩), fun X _ => X = .int .i64 c.outs, fun X _ => X = .pointer (some ⟨cb, 3, none⟩), fun X _ => X = .slice ba c.blocks.length bc, fun X _ => X = .slice (some ⟨g, 0, none⟩) c.steps.length cap, fun X W' => ∃ r : Int, X = .agg #[.int .i64 r, .int .i64 c.vars, .int .i64 c.outs, .slice ba c.blocks.length bc, .slice (some ⟨g, 0, none⟩) c.steps.length cap]] (by kernel_rfl) (by kernel_rfl) ⟨RD.stable_eq _, fun X w0 w1 hn k87 => RdA.dr k87 hn, fun X w0 w1 hn ⟨r88, t88⟩ => ⟨r88, t88⟩, RD.stable_eq _, RD.stable_eq _, RD.stable_eq _, RD.stable_eq _, RD.stable_eq _, RD.stable_eq _, RD.stable_eq _, fun X w0 w1 hn ⟨r96, t96⟩ => ⟨r96, t96⟩, trivial⟩ ?_ ?_
    · refine ⟨?_, ?_, ?_, ?_, ?_, ?_, ?_, ?_, ?_, ?_, ?_, trivial⟩
      · intro a w9 hw ho hk
        refine .inl ⟨by rfl, ?_⟩
        have t2 := ho 0 rfl
        dsimp at t2
        try with_reducible replace hw := Dr.undrawN hw
        try with_reducible replace hw := Dr.undraw hw
        obtain ⟨c, d, f', g'⟩ := hw.rules
        go_simp
        exact Dr.refl _ _
      · intro a w9 hw ho hk
        refine .inl ⟨by rfl, ?_⟩
        go_simp
        have hl9 : S < w9.heap.size := (by have := hw.size; first | omega | (simp at this; omega)); first | exact ⟨(Dr.refl _ _).alloc _, _, rfl, rdA_lit [-1, 20, 21] hl9⟩ | exact ⟨(Dr.refl _ _).alloc _, rdA_lit [-1, 20, 21] hl9⟩
      · intro a w9 hw ho hk
        refine .inl ⟨by rfl, ?_⟩
        have t86 : a.tmps[86]?.getD undef = .pointer (some ⟨S, 0, none⟩) := hk 0 86 (by kernel_rfl) rfl
        obtain k87 : RdA S w9 (a.tmps[87]?.getD undef) [-1, 20, 21] := hk 1 87 (by kernel_rfl) rfl
        go_simp
        refine (l01Pick_n S _ [-1, 20, 21] _ k87 (hw.src HSR.out)).mono ?_; rintro e w2 ⟨r, rfl, hb⟩
        first | exact ⟨hb, _, rfl, _, rfl⟩ | exact ⟨hb, _, by simp⟩
      · intro a w9 hw ho hk
        refine .inl ⟨by rfl, ?_⟩
        have t2 := ho 3 rfl
        dsimp at t2
        try with_reducible replace hw := Dr.undrawN hw
        try with_reducible replace hw := Dr.undraw hw
        obtain ⟨c, d, f', g'⟩ := hw.rules
        go_simp
        exact Dr.refl _ _
      · intro a w9 hw ho hk
        refine .inl ⟨by rfl, ?_⟩
        have t89 : a.tmps[89]?.getD undef = .pointer (some ⟨cb, 1, none⟩) := hk 3 89 (by kernel_rfl) rfl
        try with_reducible replace hw := Dr.undrawN hw
        try with_reducible replace hw := Dr.undraw hw
        obtain ⟨c, d, f', g'⟩ := hw.rules
        go_simp
        exact Dr.refl _ _
      · intro a w9 hw ho hk
        refine .inl ⟨by rfl, ?_⟩
        have t2 := ho 3 rfl
        dsimp at t2
        try with_reducible replace hw := Dr.undrawN hw
        try with_reducible replace hw := Dr.undraw hw
        obtain ⟨c, d, f', g'⟩ := hw.rules
        go_simp
        exact Dr.refl _ _
      · intro a w9 hw ho hk
        refine .inl ⟨by rfl, ?_⟩
        have t91 : a.tmps[91]?.getD undef = .pointer (some ⟨cb, 2, none⟩) := hk 5 91 (by kernel_rfl) rfl
        try with_reducible replace hw := Dr.undrawN hw
        try with_reducible replace hw := Dr.undraw hw
        obtain ⟨c, d, f', g'⟩ := hw.rules
        go_simp
        exact Dr.refl _ _
      · intro a w9 hw ho hk
        refine .inl ⟨by rfl, ?_⟩
        have t2 := ho 3 rfl
        dsimp at t2
        try with_reducible replace hw := Dr.undrawN hw
        try with_reducible replace hw := Dr.undraw hw
        obtain ⟨c, d, f', g'⟩ := hw.rules
        go_simp
        exact Dr.refl _ _
      · intro a w9 hw ho hk
        refine .inl ⟨by rfl, ?_⟩
        have t93 : a.tmps[93]?.getD undef = .pointer (some ⟨cb, 3, none⟩) := hk 7 93 (by kernel_rfl) rfl
        try with_reducible replace hw := Dr.undrawN hw
        try with_reducible replace hw := Dr.undraw hw
        obtain ⟨c, d, f', g'⟩ := hw.rules
        go_simp
        exact Dr.refl _ _
      · intro a w9 hw ho hk
        refine .inl ⟨by rfl, ?_⟩
        have t2 := ho 4 rfl
        dsimp at t2
        try with_reducible replace hw := Dr.undrawN hw
        try with_reducible replace hw := Dr.undraw hw
        obtain ⟨c, d, f', g'⟩ := hw.rules
        go_simp
        exact Dr.refl _ _
      · intro a w9 hw ho hk
        refine .inl ⟨by rfl, ?_⟩
        obtain ⟨r88, t88⟩ : ∃ r : Int, (a.tmps[88]?.getD undef) = .int .i64 r := hk 2 88 (by kernel_rfl) rfl
        have t90 : a.tmps[90]?.getD undef = .int .i64 c.vars := hk 4 90 (by kernel_rfl) rfl
        have t92 : a.tmps[92]?.getD undef = .int .i64 c.outs := hk 6 92 (by kernel_rfl) rfl
        have t94 : a.tmps[94]?.getD undef = .slice ba c.blocks.length bc := hk 8 94 (by kernel_rfl) rfl
        have t95 : a.tmps[95]?.getD undef = .slice (some ⟨g, 0, none⟩) c.steps.length cap := hk 9 95 (by kernel_rfl) rfl
        go_simp
        first | exact ⟨Dr.refl _ _, _, rfl, r88, rfl⟩ | exact ⟨Dr.refl _ _, r88, by simp⟩
    intro w6 b6
    rintro _ rfl
    rintro _ k87
    rintro _ ⟨r88, rfl⟩
    rintro _ rfl
    rintro _ rfl
    rintro _ rfl
    rintro _ rfl
    rintro _ rfl
    rintro _ rfl
    rintro _ rfl
    rintro _ ⟨r96, rfl⟩
    have z6 := b6.size
    try simp only [World.size_alloc, World.size_drew, World.heap_drewN, World.size_setCell] at z6
    try clear c5_0 f5_0 K5_0
    try clear c5_1 f5_1 K5_1
    try clear c5_2 f5_2 K5_2
    try clear c5_3 f5_3 K5_3
    try clear c5_4 f5_4 K5_4
    try clear c5_5 f5_5 K5_5
    try clear c4_0 f4_0 K4_0
    try clear c4_1 f4_1 K4_1
    try clear c4_2 f4_2 K4_2
    try clear c4_3 f4_3 K4_3
    try clear c4_4 f4_4 K4_4
    try clear c4_5 f4_5 K4_5
    try clear c3_0 f3_0 K3_0
    try clear c3_1 f3_1 K3_1
    try clear c3_2 f3_2 K3_2
    try clear c3_3 f3_3 K3_3
    try clear c3_4 f3_4 K3_4
    try clear c3_5 f3_5 K3_5
    have y6 : S < w6.heap.size := by omega
    simp only [RD.EndAll, List.nil_append, List.cons_append, List.length_cons, List.length_nil, Nat.zero_add, Nat.reduceAdd, List.take_succ_cons, List.take_zero, List.drop_succ_cons, List.drop_zero, RD.putAll, Act.put, List.setIfInBounds_toArray, List.set_cons_succ, List.set_cons_zero]
    have D6 := D5.trans b6
    have own6 := Lib.hid (own_dr own5.out b6 (by omega))
    clear KR5 KC5 cR fR cC fC hR5 hC5
    have KR6 := KRc.dr D6 (by omega)
    have KC6 := KCc.dr D6 hcbS
    have hR6 := KR6.lt
    have hC6 := KC6.lt
    obtain ⟨cR, fR⟩ := KR6.rules
    obtain ⟨cC, fC⟩ := KC6.rules
    go_wp2_with fail
    exact cd_fin rfl hS (by omega) DC D6 OBc.out own6.out (by omega) hSM (by simp [results, Tryz.results22, go_sem, cR, fR, hR6])
  · clear KR5 KC5 cR fR cC fC hR5 hC5
    have DW5' := DW5.alloc (.cells #[] 70)
    go_wp2_with fail
    refine (l01Next_any S 2 _ (DW5'.src HS.out)).mono ?_
    rintro e w6 ⟨r6, rfl, p6, q6, b6⟩
    replace q6 : r6 ≤ 1 := (by omega); obtain ⟨n6, rfl⟩ := Int.eq_ofNat_of_zero_le p6
    have z6 := b6.size
    try simp only [World.size_alloc, World.size_drew, World.heap_drewN, World.size_setCell] at z6
    try clear c5_0 f5_0 K5_0
    try clear c5_1 f5_1 K5_1
    try clear c5_2 f5_2 K5_2
    try clear c5_3 f5_3 K5_3
    try clear c5_4 f5_4 K5_4
    try clear c5_5 f5_5 K5_5
    try clear c4_0 f4_0 K4_0
    try clear c4_1 f4_1 K4_1
    try clear c4_2 f4_2 K4_2
    try clear c4_3 f4_3 K4_3
    try clear c4_4 f4_4 K4_4
    try clear c4_5 f4_5 K4_5
    try clear c3_0 f3_0 K3_0
    try clear c3_1 f3_1 K3_1
    try clear c3_2 f3_2 K3_2
    try clear c3_3 f3_3 K3_3
    try clear c3_4 f3_4 K3_4
    try clear c3_5 f3_5 K3_5
    have y6 : S < w6.heap.size := by omega
    have D6 := (D5.alloc (.cells #[] 70)).trans b6
    have own6 : w6.ownsRow wc.heap.size 70 2 (.slice (some ⟨w5.heap.size, 0, none⟩) 0 0) 0 [] := own_dr (own_empty (w := w5) (base := wc.heap.size) zC5) b6 (by omega)
    clear b6 DW5'
    have hn1 : n6 ≤ 1 := by omega
    clear q6
    go_wp2_with fail
    go_loopw [7, 8] (fun v n wr => ∃ (L : List EInstruction) (m : Nat), wr.ownsRow wc.heap.size 70 2 v L.length (L.flatMap encInstruction) ∧ n = .int .i64 (m : Int) ∧ L.length + m ≤ 41 ∧ Dr S wc wr) (fun _ n _ => (intOf n).toNat)
    case atStart => exact ⟨[], 40 + n6, own6, by simp, by simp; omega, D6⟩
    case round =>
      obtain ⟨L, m, hown, rfl, hL, hb⟩ := hrel
      clear own6
      have hbz := hb.size
      by_cases hm : 0 < m
      · go_wp2_with (first | (at_builtin; refine wpList_append_own _ rfl _ _ 25 rfl (wc.heap.size) 70 i0 (Value.agg #[.int .i64 0, .int .i64 0]) 2 16 Tryz.underlying25 hi hz0 hz1 hz2 rfl (by decide) _ _ _ rfl (hown.alloc _) ⟨wr.heap.size, 0, none⟩ 1 1 [.int .i64 1, .int .i64 0] rfl rfl (fun j u hj => alloc_row (by first | rfl | simp) j u hj) (by intro u hu; simp at hu; rcases hu with rfl | rfl <;> rfl) (by unfold maxLen; omega) (by omega) (by first | (simp; done) | (simp; omega) | omega) ?_; intro va wa howna hgra _))
        have DA := Dr.grown (hb.alloc _) hgra (fun q hq => (own_block_lt hown q hq).1)
        have oA := own_snocI howna
        have hln : (L ++ [(⟨1, 0⟩ : EInstruction)]).length = L.length + 1 := by simp
        go_roundw
        case rel => exact ⟨L ++ [⟨1, 0⟩], m - 1, oA, by go_num, by omega, DA⟩
        case measure => simp [intOf]; omega
      · obtain ⟨xa, xc, rfl⟩ := own_slice hown
        replace hown := Lib.hid hown
        go_wp2_with fail
        obtain ⟨wo, hwo⟩ : ∃ wo : World, wo = wr := ⟨_, rfl⟩
        go_loopw [7, 9] (fun v n ws => ∃ (L : List EInstruction) (m : Nat), ws.ownsRow wc.heap.size 70 2 v L.length (L.flatMap encInstruction) ∧ n = .int .i64 (m : Int) ∧ L.length + m ≤ 82 ∧ Dr S wc ws) (fun _ n _ => (intOf n).toNat)
        case atStart => exact ⟨L, L.length, hown.out, rfl, by omega, hb⟩
        case round =>
          rename World => ws
          obtain ⟨Q, m, hown2, rfl, hQ, hb2⟩ := hrel
          have hbz2 := hb2.size
          by_cases hm : 1 < m
          · go_wp2_with (first | (at_builtin; refine wpList_append_own _ rfl _ _ 25 rfl (wc.heap.size) 70 i0 (Value.agg #[.int .i64 0, .int .i64 0]) 2 16 Tryz.underlying25 hi hz0 hz1 hz2 rfl (by decide) _ _ _ rfl (hown2.alloc _) ⟨ws.heap.size, 0, none⟩ 1 1 [.int .i64 6, .int .i64 0] rfl rfl (fun j u hj => alloc_row (by first | rfl | simp) j u hj) (by intro u hu; simp at hu; rcases hu with rfl | rfl <;> rfl) (by unfold maxLen; omega) (by omega) (by first | (simp; done) | (simp; omega) | omega) ?_; intro va wa howna hgra _))
            have DA := Dr.grown (hb2.alloc _) hgra (fun q hq => (own_block_lt hown2 q hq).1)
            have oA := own_snocI howna
            have hln : (Q ++ [(⟨6, 0⟩ : EInstruction)]).length = Q.length + 1 := by simp
            go_roundw
            case rel => exact ⟨Q ++ [⟨6, 0⟩], m - 1, oA, by go_num, by omega, DA⟩
            case measure => simp [intOf]; omega
          · go_wp2_with (first | (at_builtin; refine wpList_append_own _ rfl _ _ 25 rfl (wc.heap.size) 70 i0 (Value.agg #[.int .i64 0, .int .i64 0]) 2 16 Tryz.underlying25 hi hz0 hz1 hz2 rfl (by decide) _ _ _ rfl (hown2.alloc _) ⟨ws.heap.size, 0, none⟩ 1 1 [.int .i64 9, .int .i64 0] rfl rfl (fun j u hj => alloc_row (by first | rfl | simp) j u hj) (by intro u hu; simp at hu; rcases hu with rfl | rfl <;> rfl) (by unfold maxLen; omega) (by omega) (by first | (simp; done) | (simp; omega) | omega) ?_; intro va wa howna hgra _; have D7 := Dr.grown (hb2.alloc _) hgra (fun q hq => (own_block_lt hown2 q hq).1); have oA := own_snocI howna; obtain ⟨ya, yc, rfl⟩ := own_slice oA; have KR7 := KRc.dr D7 (by omega); have KC7 := KCc.dr D7 hcbS; have hR7 := KR7.lt; have hC7 := KC7.lt; obtain ⟨cR7, fR7⟩ := KR7.rules; obtain ⟨cC7, fC7⟩ := KC7.rules))
            have hln : (Q ++ [(⟨9, 0⟩ : EInstruction)]).length = Q.length + 1 := by simp
            exact cd_fin rfl hS (by omega) DC D7 OBc.out (own_val oA (by rw [hln])) (by rw [hln]; omega) hSM (by simp [results, Tryz.results22, go_sem, cR7, fR7, hR7])
end Go.Proofs.YteielmihlfakgaaGreatDoor
