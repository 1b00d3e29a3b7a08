/- Contracts: texts of expressions and programs: the reference. -/
import Derived.Test.YteielmihlfakgaaDoorProg
import Derived.Test.YteielmihlfakgaaDoorExpV
import Derived.Test.YteielmihlfakgaaDoorPtxI
namespace Go.Proofs.YteielmihlfakgaaDoor
open Go Go.Proofs Go.RowKit
set_option linter.unusedVariables false
set_option linter.unusedSimpArgs false
set_option maxRecDepth 100000
theorem sExpressionText_any (v : Value) (ts : List ETerm) (w : World) (hv : RdT w v ts) (hf : ∀ x ∈ ts, fitTerm x) (hn : ts.length ≤ 1048576) :
    Calls Tryd.prog 30 #[v] w fun e w' => e = .returned (.tuple #[.string (etR ts).1, .int .i64 (etR ts).2]) ∧ New w w' := by
  have HI := Lib.hid (fun (w0 : World) (h : New w w0) => sIsExpression_any v ts w0 (Rd.new hv h) hf hn)
  rcases Bool.eq_false_or_eq_true (okH ts) with ho | ho
  · obtain ⟨e1, e2, _⟩ := exprT_facts ho
    have HT := Lib.hid (fun (w0 : World) (h : New w w0) => sExprTokens_any v ts w0 (Rd.new hv h) ho)
    have HX := Lib.hid (fun (u : Value) (w0 : World) (hu : RdX w0 u (exprT ts)) => sTextX_any u (exprT ts) w0 hu e2 (by omega))
    have hR : etR ts = (strL (stdT (exprT ts)), 0) := by rw [etR, if_pos ho]
    rw [ho] at HI
    rw [hR]
    clear hv e1 e2 hR ho
    generalize exprT ts = TT at *
    dsimp only
    go_enter Tryd.func30, Tryd.ntmps30
    go_wp2_with fail
    refine (HI.out _ (by repeat (first | with_reducible exact New.refl _ | with_reducible assumption | with_reducible refine New.drew ?_ | with_reducible refine New.drewN ?_ _ | with_reducible refine New.alloc ?_ _ | with_reducible refine New.setCell ?_ (by first | (simp; done) | (simp; omega) | omega) _ | with_reducible refine New.trans ?_ (by with_reducible assumption)))).mono ?_; rintro e w1 ⟨rfl, b1⟩
    try with_reducible replace b1 := New.undrawN b1
    try with_reducible replace b1 := New.undraw b1
    obtain ⟨c1, f1⟩ := b1.rules
    have z1 := b1.size
    try simp only [World.size_alloc, World.size_drew, World.heap_drewN, World.size_setCell] at z1
    go_wp2_with fail
    refine (HT.out _ (by repeat (first | with_reducible exact New.refl _ | with_reducible assumption | with_reducible refine New.drew ?_ | with_reducible refine New.drewN ?_ _ | with_reducible refine New.alloc ?_ _ | with_reducible refine New.setCell ?_ (by first | (simp; done) | (simp; omega) | omega) _ | with_reducible refine New.trans ?_ (by with_reducible assumption)))).mono ?_; rintro e w2 ⟨a2, k2, rfl, b2, o2⟩
    obtain ⟨c2, f2⟩ := b2.rules
    have z2 := b2.size
    try simp only [World.size_alloc, World.size_drew, World.heap_drewN, World.size_setCell] at z2
    go_wp2_with fail
    refine (HX.out _ _ o2).mono ?_; rintro e w3 ⟨rfl, b3⟩
    try with_reducible replace b3 := New.undrawN b3
    try with_reducible replace b3 := New.undraw b3
    obtain ⟨c3, f3⟩ := b3.rules
    have z3 := b3.size
    try simp only [World.size_alloc, World.size_drew, World.heap_drewN, World.size_setCell] at z3
    go_wp2_with fail
    go_ret2
    exact ⟨rfl, (by repeat (first | with_reducible exact New.refl _ | with_reducible assumption | with_reducible refine New.drew ?_ | with_reducible refine New.drewN ?_ _ | with_reducible refine New.alloc ?_ _ | with_reducible refine New.setCell ?_ (by first | (simp; done) | (simp; omega) | omega) _ | with_reducible refine New.trans ?_ (by with_reducible assumption)))⟩
  · have hR : etR ts = (⟨#[]⟩, 1) := by rw [etR, if_neg (by rw [ho]; simp)]
    rw [ho] at HI
    rw [hR]
    clear hv hR ho
    dsimp only
    go_enter Tryd.func30, Tryd.ntmps30
    go_wp2_with fail
    refine (HI.out _ (by repeat (first | with_reducible exact New.refl _ | with_reducible assumption | with_reducible refine New.drew ?_ | with_reducible refine New.drewN ?_ _ | with_reducible refine New.alloc ?_ _ | with_reducible refine New.setCell ?_ (by first | (simp; done) | (simp; omega) | omega) _ | with_reducible refine New.trans ?_ (by with_reducible assumption)))).mono ?_; rintro e w1 ⟨rfl, b1⟩
    try with_reducible replace b1 := New.undrawN b1
    try with_reducible replace b1 := New.undraw b1
    obtain ⟨c1, f1⟩ := b1.rules
    have z1 := b1.size
    try simp only [World.size_alloc, World.size_drew, World.heap_drewN, World.size_setCell] at z1
    go_wp2_with fail
    go_ret2
    exact ⟨rfl, (by repeat (first | with_reducible exact New.refl _ | with_reducible assumption | with_reducible refine New.drew ?_ | with_reducible refine New.drewN ?_ _ | with_reducible refine New.alloc ?_ _ | with_reducible refine New.setCell ?_ (by first | (simp; done) | (simp; omega) | omega) _ | with_reducible refine New.trans ?_ (by with_reducible assumption)))⟩
end Go.Proofs.YteielmihlfakgaaDoor
