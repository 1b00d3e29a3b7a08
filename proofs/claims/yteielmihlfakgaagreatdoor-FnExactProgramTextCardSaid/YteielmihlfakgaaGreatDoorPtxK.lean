/- Contracts: texts of programs: the program's function. -/
import Derived.Test.YteielmihlfakgaaGreatDoorProg
import Derived.Test.YteielmihlfakgaaGreatDoorPtxJ
namespace Go.Proofs.YteielmihlfakgaaGreatDoor
open Go Go.Proofs Go.RowKit
set_option linter.unusedVariables false
set_option linter.unusedSimpArgs false
set_option maxRecDepth 100000
theorem iProgTokens_any (p : ProgD) (iv vv ov lv : Value) (w : World) (hp : RdP w p iv vv ov lv) (hw : wB p = true) (hk : KW w) (hpw : PW w) :
    Calls Tryz.prog 59 #[valP p iv vv ov lv] w (RetX w (progT p)) := by
  by_cases hv : p.vars = []
  · rcases Bool.eq_false_or_eq_true p.guard.toList.isEmpty with hg | hg
    · exact iProgTokensN_any p iv vv ov lv w hp hw hk hpw hv hg
    · exact iProgTokensG_any p iv vv ov lv w hp hw hk hpw hv hg
  · rcases Bool.eq_false_or_eq_true p.guard.toList.isEmpty with hg | hg
    · exact iProgTokensV_any p iv vv ov lv w hp hw hk hpw hv hg
    · exact iProgTokensVG_any p iv vv ov lv w hp hw hk hpw hv hg
set_option maxHeartbeats 1000000 in
theorem iProgramText_any (p : ProgD) (iv vv ov lv : Value) (w : World) (hp : RdP w p iv vv ov lv) (hf : FitP p) (hk : KW w) (hpw : PW w) :
    Calls Tryz.prog 20 #[valP p iv vv ov lv] w fun e w' => e = .returned (.tuple #[.string (ptR p).1, .int .i64 (ptR p).2]) ∧ New w w' := by
  have HI := Lib.hid (fun (w0 : World) (h : New w w0) => iIsWritten_any p iv vv ov lv w0 (hp.new h) hf (hk.new h))
  have HP := Lib.hid hp
  obtain ⟨ia, ic, rfl, _⟩ := id hp.ins
  obtain ⟨va, vc, rfl, _⟩ := id hp.vars
  obtain ⟨oa, oc, rfl, _⟩ := id hp.outs
  obtain ⟨la, lc, rfl⟩ := id hp.lines.slice
  clear hp
  have zz : w.heap.size < w.heap.size + 1 := by omega
  rcases Bool.eq_false_or_eq_true (wB p) with ho | ho
  · obtain ⟨e1, e2⟩ := progT_facts ho
    have HT := Lib.hid (fun (w0 : World) (h : New w w0) => iProgTokens_any p _ _ _ _ w0 (HP.out.new h) ho (hk.new h) (hpw.new h))
    have HX := Lib.hid (fun (u : Value) (w0 : World) (h : New w w0) (hu : RdX w0 u (progT p)) => iTextX_any u (progT p) w0 hu e1 (by omega) (hk.new h))
    have hR : ptR p = (strL (stdT (progT p)), 0) := by rw [ptR, if_pos ho]
    rw [ho] at HI
    rw [hR]
    clear hk hpw e1 e2 hR ho
    generalize progT p = TT at *
    dsimp only
    go_enter Tryz.func20, Tryz.ntmps20
    go_wp2_with fail
    refine (HI.out _ (by repeat (first | with_reducible exact New.refl _ | with_reducible assumption | with_reducible refine New.drew ?_ | with_reducible refine New.drewN ?_ _ | with_reducible refine New.alloc ?_ _ | with_reducible refine New.setCell ?_ (by first | (simp; done) | (simp; omega) | omega) _ | with_reducible refine New.trans ?_ (by with_reducible assumption)))).mono ?_; rintro e w1 ⟨rfl, b1⟩
    try with_reducible replace b1 := New.undrawN b1
    try with_reducible replace b1 := New.undraw b1
    obtain ⟨c1, f1⟩ := b1.rules
    have z1 := b1.size
    try simp only [World.size_alloc, World.size_drew, World.heap_drewN, World.size_setCell] at z1
    have z1_0 : w.heap.size < w1.heap.size := by omega
    go_wp2_with fail
    refine (HT.out _ (by repeat (first | with_reducible exact New.refl _ | with_reducible assumption | with_reducible refine New.drew ?_ | with_reducible refine New.drewN ?_ _ | with_reducible refine New.alloc ?_ _ | with_reducible refine New.setCell ?_ (by first | (simp; done) | (simp; omega) | omega) _ | with_reducible refine New.trans ?_ (by with_reducible assumption)))).mono ?_; rintro e w2 ⟨r2, rfl, b2, o2⟩
    obtain ⟨c2, f2⟩ := b2.rules
    have z2 := b2.size
    try simp only [World.size_alloc, World.size_drew, World.heap_drewN, World.size_setCell] at z2
    have z2_0 : w.heap.size < w2.heap.size := by omega
    go_wp2_with fail
    refine (HX.out _ _ (by repeat (first | with_reducible exact New.refl _ | with_reducible assumption | with_reducible refine New.drew ?_ | with_reducible refine New.drewN ?_ _ | with_reducible refine New.alloc ?_ _ | with_reducible refine New.setCell ?_ (by first | (simp; done) | (simp; omega) | omega) _ | with_reducible refine New.trans ?_ (by with_reducible assumption))) o2.rd).mono ?_; rintro e w3 ⟨rfl, b3⟩
    try with_reducible replace b3 := New.undrawN b3
    try with_reducible replace b3 := New.undraw b3
    obtain ⟨c3, f3⟩ := b3.rules
    have z3 := b3.size
    try simp only [World.size_alloc, World.size_drew, World.heap_drewN, World.size_setCell] at z3
    go_wp2_with fail
    go_ret2
    exact ⟨rfl, (by repeat (first | with_reducible exact New.refl _ | with_reducible assumption | with_reducible refine New.drew ?_ | with_reducible refine New.drewN ?_ _ | with_reducible refine New.alloc ?_ _ | with_reducible refine New.setCell ?_ (by first | (simp; done) | (simp; omega) | omega) _ | with_reducible refine New.trans ?_ (by with_reducible assumption)))⟩
  · have hR : ptR p = (⟨#[]⟩, 1) := by rw [ptR, if_neg (by rw [ho]; simp)]
    rw [ho] at HI
    rw [hR]
    clear hk hpw hR ho
    dsimp only
    go_enter Tryz.func20, Tryz.ntmps20
    go_wp2_with fail
    refine (HI.out _ (by repeat (first | with_reducible exact New.refl _ | with_reducible assumption | with_reducible refine New.drew ?_ | with_reducible refine New.drewN ?_ _ | with_reducible refine New.alloc ?_ _ | with_reducible refine New.setCell ?_ (by first | (simp; done) | (simp; omega) | omega) _ | with_reducible refine New.trans ?_ (by with_reducible assumption)))).mono ?_; rintro e w1 ⟨rfl, b1⟩
    try with_reducible replace b1 := New.undrawN b1
    try with_reducible replace b1 := New.undraw b1
    obtain ⟨c1, f1⟩ := b1.rules
    have z1 := b1.size
    try simp only [World.size_alloc, World.size_drew, World.heap_drewN, World.size_setCell] at z1
    have z1_0 : w.heap.size < w1.heap.size := by omega
    go_wp2_with fail
    go_ret2
    exact ⟨rfl, (by repeat (first | with_reducible exact New.refl _ | with_reducible assumption | with_reducible refine New.drew ?_ | with_reducible refine New.drewN ?_ _ | with_reducible refine New.alloc ?_ _ | with_reducible refine New.setCell ?_ (by first | (simp; done) | (simp; omega) | omega) _ | with_reducible refine New.trans ?_ (by with_reducible assumption)))⟩
end Go.Proofs.YteielmihlfakgaaGreatDoor
