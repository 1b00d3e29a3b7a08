/- Contracts: the rules of programs: names. -/
import Derived.Test.YteielmihlfakgaaDoorProg
import Derived.Test.YteielmihlfakgaaDoorSound
namespace Go.Proofs.YteielmihlfakgaaDoor
open Go Go.Proofs Go.RowKit
set_option linter.unusedVariables false
set_option linter.unusedSimpArgs false
set_option maxRecDepth 100000
set_option maxHeartbeats 1000000 in
theorem sAll_any (p : ProgD) (iv vv ov lv : Value) (w : World) (hp : RdP w p iv vv ov lv) (hf : FitP p) :
    Calls Tryd.prog 80 #[valP p iv vv ov lv] w fun e w' => ∃ r, e = .returned r ∧ New w w' ∧ w'.ownsRow (w.heap.size + 1) 9 1 r (allP p).length ((allP p).map Value.string) := by
  obtain ⟨i0, hi, hz0, hz1, hz2⟩ := info_parts infoStrC
  have HP := Lib.hid hp
  obtain ⟨h1, h2, h3, _⟩ := hp
  obtain ⟨ia, ic, rfl, _⟩ := id h1
  obtain ⟨ja, jc, rfl, _⟩ := id h2
  obtain ⟨oa, oc, rfl, _⟩ := id h3
  clear h1 h2 h3
  obtain ⟨_, _, hl1, _, hl2, _, hl3, _, _, _⟩ := hf
  have zz : w.heap.size < w.heap.size + 1 := by omega
  have own0 : ((w.alloc (.cells #[.string p.name, .slice ia p.inputs.length ic, .slice ja p.vars.length jc, .slice oa p.outputs.length oc, .string p.guard, lv] 27)).alloc (.cells #[] 9)).ownsRow (w.heap.size + 1) 9 1 (.slice (some ⟨w.heap.size + 1, 0, none⟩) 0 0) 0 [] := by
    have := own_empty (w := (w.alloc (.cells #[.string p.name, .slice ia p.inputs.length ic, .slice ja p.vars.length jc, .slice oa p.outputs.length oc, .string p.guard, lv] 27))) (base := w.heap.size + 1) (e := 9) (sz := 1) (by rw [World.size_alloc]; exact Nat.le_refl _)
    simp only [World.size_alloc] at this; exact this
  have hla : (p.inputs ++ p.vars).length ≤ 2097152 := by rw [List.length_append]; omega
  go_enter Tryd.func80, Tryd.ntmps80
  go_wp2_with (first | ((at_builtin; refine wpList_append_rd rfl _ _ 24 rfl (w.heap.size + 1) 9 i0 (.string ⟨#[]⟩) 1 16 Tryd.underlying24 hi hz0 hz1 hz2 rfl (by decide) _ _ _ rfl (own0) _ (p.inputs.length) (p.inputs.map Value.string) rfl ((Rd.new HP.out.ins (by repeat (first | with_reducible exact New.refl _ | with_reducible assumption | with_reducible refine New.drew ?_ | with_reducible refine New.drewN ?_ _ | with_reducible refine New.alloc ?_ _ | with_reducible refine New.setCell ?_ (by first | (simp; done) | (simp; omega) | omega) _ | with_reducible refine New.trans ?_ (by with_reducible assumption))))) (by simp) (by intro u hu; obtain ⟨y, _, rfl⟩ := List.mem_map.1 hu; rfl) (by unfold maxLen; omega) (by omega) (by first | (simp; done) | (simp; omega) | omega) ?_; intro va wa howna hgra); have b1 : New (w.alloc (.cells #[.string p.name, .slice ia p.inputs.length ic, .slice ja p.vars.length jc, .slice oa p.outputs.length oc, .string p.guard, lv] 27)) wa := New.grown (New.alloc (New.refl _) _) hgra (fun q hq => by have := (own_block_lt own0 q hq).1; simpa using this); have own1 : wa.ownsRow (w.heap.size + 1) 9 1 va p.inputs.length (p.inputs.map Value.string) := (by rw [Nat.zero_add, List.nil_append] at howna; exact howna); clear howna hgra own0; have d1 : New w wa := ((New.refl w).alloc _).trans b1; obtain ⟨c1, f1⟩ := b1.rules; have z1 := b1.size; simp only [World.size_alloc] at z1 c1 f1) | ((at_builtin; refine wpList_append_rd rfl _ _ 24 rfl (w.heap.size + 1) 9 i0 (.string ⟨#[]⟩) 1 16 Tryd.underlying24 hi hz0 hz1 hz2 rfl (by decide) _ _ _ rfl (own1) _ (p.vars.length) (p.vars.map Value.string) rfl ((Rd.new HP.out.vars d1)) (by simp) (by intro u hu; obtain ⟨y, _, rfl⟩ := List.mem_map.1 hu; rfl) (by unfold maxLen; omega) (by omega) (by first | (simp; done) | (simp; omega) | omega) ?_; intro va wa howna hgra); have b2 : New (w.alloc (.cells #[.string p.name, .slice ia p.inputs.length ic, .slice ja p.vars.length jc, .slice oa p.outputs.length oc, .string p.guard, lv] 27)) wa := New.grown (b1) hgra (fun q hq => by have := (own_block_lt own1 q hq).1; simpa using this); have own2 : wa.ownsRow (w.heap.size + 1) 9 1 va (p.inputs ++ p.vars).length ((p.inputs ++ p.vars).map Value.string) := (by rw [← List.length_append, ← List.map_append] at howna; exact howna); clear howna hgra own1; have d2 : New w wa := ((New.refl w).alloc _).trans b2; obtain ⟨c2, f2⟩ := b2.rules; have z2 := b2.size; simp only [World.size_alloc] at z2 c2 f2) | ((at_builtin; refine wpList_append_rd rfl _ _ 24 rfl (w.heap.size + 1) 9 i0 (.string ⟨#[]⟩) 1 16 Tryd.underlying24 hi hz0 hz1 hz2 rfl (by decide) _ _ _ rfl (own2) _ (p.outputs.length) (p.outputs.map Value.string) rfl ((Rd.new HP.out.outs d2)) (by simp) (by intro u hu; obtain ⟨y, _, rfl⟩ := List.mem_map.1 hu; rfl) (by unfold maxLen; omega) (by omega) (by first | (simp; done) | (simp; omega) | omega) ?_; intro va wa howna hgra); have b3 : New (w.alloc (.cells #[.string p.name, .slice ia p.inputs.length ic, .slice ja p.vars.length jc, .slice oa p.outputs.length oc, .string p.guard, lv] 27)) wa := New.grown (b2) hgra (fun q hq => by have := (own_block_lt own2 q hq).1; simpa using this); have own3 : wa.ownsRow (w.heap.size + 1) 9 1 va (allP p).length ((allP p).map Value.string) := (by rw [← List.length_append, ← List.map_append] at howna; exact howna); clear howna hgra own2; have d3 : New w wa := ((New.refl w).alloc _).trans b3; obtain ⟨c3, f3⟩ := b3.rules; have z3 := b3.size; simp only [World.size_alloc] at z3 c3 f3))
  go_ret
  exact ⟨_, rfl, d3, own3⟩
end Go.Proofs.YteielmihlfakgaaDoor
