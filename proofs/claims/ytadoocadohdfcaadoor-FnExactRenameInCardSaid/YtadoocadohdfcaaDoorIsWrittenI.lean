/- Contracts: is a program written: the program's own function. -/
import Derived.Test.YtadoocadohdfcaaDoorProg
import Derived.Test.YtadoocadohdfcaaDoorIsWritten
namespace Go.Proofs.YtadoocadohdfcaaDoor
open Go Go.Proofs Go.RowKit
set_option linter.unusedVariables false
set_option linter.unusedSimpArgs false
set_option maxRecDepth 100000
theorem buildRd3 {w : World} {b n : Nat} (vs : List Value) (t : TypeId) (hb : b = w.heap.size) (hn : vs.length = n) (hm : n ≤ 1000) : Rd (w.alloc (.cells vs.toArray t)) (.slice (some ⟨b, 0, none⟩) n n) vs.length vs := by
  subst hb
  exact buildRd (w := w) (by simp) hn hm (fun j hj => (cell_alloc_new _ _ _ _ _ rfl).trans (by simp [hj]))
def allN (p : ProgD) : Bool := [p.inputs, p.vars, p.outputs].flatten.all isNameB
theorem allN_eq (p : ProgD) : allN p = (p.inputs ++ p.vars ++ p.outputs).all isNameB := by simp [allN]
theorem iAreNamesP_any (p : ProgD) (v : Value) (w : World) (hv : RdS w v [p.inputs, p.vars, p.outputs].flatten) (hs : ∀ x ∈ [p.inputs, p.vars, p.outputs].flatten, fitS x) (hk : KW w) : Calls Tryd.prog 87 #[v] w fun e w' => e = .returned (.bool (allN p)) ∧ New w w' := iAreNames_any v _ w hv hs hk
set_option maxHeartbeats 4000000 in
theorem iIsWritten_any (p : ProgD) (iv vv ov lv : Value) (w : World) (hp : RdP w p iv vv ov lv) (hf : FitP p) (hk : KW w) : Calls Tryd.prog 58 #[valP p iv vv ov lv] w fun e w' => e = .returned (.bool (wB p)) ∧ New w w' := by
  rw [← wI_wB]
  have HK := Lib.hid hk; clear hk
  have HP := Lib.hid hp
  obtain ⟨hi, hv, ho, hl⟩ := hp
  obtain ⟨ia, ic, rfl, _⟩ := id hi
  obtain ⟨va, vc, rfl, _⟩ := id hv
  obtain ⟨oa, oc, rfl, _⟩ := id ho
  obtain ⟨la, lc, rfl⟩ := hl.slice
  have HI := Lib.hid hi; have HV := Lib.hid hv; have HO := Lib.hid ho; have HL := Lib.hid hl
  clear hi hv ho hl
  have zz : w.heap.size < w.heap.size + 1 := by omega
  have hsz : ∀ xs ∈ [p.inputs, p.vars, p.outputs], xs.length ≤ 1048576 := by
    intro xs hxs
    simp only [List.mem_cons, List.not_mem_nil, or_false] at hxs
    rcases hxs with rfl | rfl | rfl
    · exact hf.insl
    · exact hf.varsl
    · exact hf.outsl
  have hall : ∀ x ∈ [p.inputs, p.vars, p.outputs].flatten, fitS x := by
    intro x hx
    simp only [List.flatten_cons, List.flatten_nil, List.append_nil, List.mem_append] at hx
    rcases hx with hx | hx | hx
    · exact hf.ins x hx
    · exact hf.vars x hx
    · exact hf.outs x hx
  have HR := Lib.hid (fun (w' : World) (n : New w w') => show ∀ k (h : k < [Value.slice ia p.inputs.length ic, .slice va p.vars.length vc, .slice oa p.outputs.length oc].length) (h' : k < [p.inputs, p.vars, p.outputs].length), RdS w' [Value.slice ia p.inputs.length ic, .slice va p.vars.length vc, .slice oa p.outputs.length oc][k] [p.inputs, p.vars, p.outputs][k] by
    intro k h h'
    rcases k with _ | _ | _ | k
    · exact Rd.new HI.out n
    · exact Rd.new HV.out n
    · exact Rd.new HO.out n
    · simp at h; omega)
  have HE := Lib.hid (show [p.inputs, p.vars, p.outputs].flatten = p.inputs ++ p.vars ++ p.outputs by simp)
  go_enter Tryd.func58, Tryd.ntmps58
  go_wp2_with fail
  refine (iIsName_any p.name _ hf.name (HK.out.new (by repeat (first | with_reducible exact New.refl _ | with_reducible assumption | with_reducible refine New.drew ?_ | with_reducible refine New.drewN ?_ _ | with_reducible refine New.alloc ?_ _ | with_reducible refine New.setCell ?_ (by first | (simp; done) | (simp; omega) | omega) _ | with_reducible refine New.trans ?_ (by with_reducible assumption))))).mono ?_; rintro e w1 ⟨rfl, rfl⟩
  rcases (Bool.eq_false_or_eq_true (isNameB p.name)).symm with h1 | h1
  · skip
    go_wp2_with fail
    go_ret
    refine ⟨ret_bool ?_, (by repeat (first | with_reducible exact New.refl _ | with_reducible assumption | with_reducible refine New.drew ?_ | with_reducible refine New.drewN ?_ _ | with_reducible refine New.alloc ?_ _ | with_reducible refine New.setCell ?_ (by first | (simp; done) | (simp; omega) | omega) _ | with_reducible refine New.trans ?_ (by with_reducible assumption)))⟩
    rw [wI, h1]; simp
  go_wp2_with fail
  refine (concatS_any _ [.slice ia p.inputs.length ic, .slice va p.vars.length vc, .slice oa p.outputs.length oc] [p.inputs, p.vars, p.outputs] _ (buildRd3 _ _ (by simp) rfl (by simp)) rfl (HR.out _ (by repeat (first | with_reducible exact New.refl _ | with_reducible assumption | with_reducible refine New.drew ?_ | with_reducible refine New.drewN ?_ _ | with_reducible refine New.alloc ?_ _ | with_reducible refine New.setCell ?_ (by first | (simp; done) | (simp; omega) | omega) _ | with_reducible refine New.trans ?_ (by with_reducible assumption)))) hsz (by simp)).mono ?_; rintro e w2 ⟨r2, rfl, b2, own2⟩
  obtain ⟨c2, f2⟩ := b2.rules
  have z2 := b2.size
  try simp only [World.size_alloc, World.size_drew, World.heap_drewN, World.size_setCell] at z2
  have z2_0 : w.heap.size < w2.heap.size := by omega
  go_wp2_with fail
  refine (iAreNamesP_any p _ _ (own_rd own2) hall (HK.out.new (by repeat (first | with_reducible exact New.refl _ | with_reducible assumption | with_reducible refine New.drew ?_ | with_reducible refine New.drewN ?_ _ | with_reducible refine New.alloc ?_ _ | with_reducible refine New.setCell ?_ (by first | (simp; done) | (simp; omega) | omega) _ | with_reducible refine New.trans ?_ (by with_reducible assumption))))).mono ?_; rintro e w3 ⟨rfl, b3⟩
  obtain ⟨c3, f3⟩ := b3.rules
  have z3 := b3.size
  have z3_0 : w.heap.size < w3.heap.size := by have := z3; first | omega | (simp only [World.size_alloc] at this; omega)
  rcases (Bool.eq_false_or_eq_true (allN p)).symm with h2 | h2
  · skip
    go_wp2_with fail
    go_ret
    refine ⟨ret_bool ?_, (by repeat (first | with_reducible exact New.refl _ | with_reducible assumption | with_reducible refine New.drew ?_ | with_reducible refine New.drewN ?_ _ | with_reducible refine New.alloc ?_ _ | with_reducible refine New.setCell ?_ (by first | (simp; done) | (simp; omega) | omega) _ | with_reducible refine New.trans ?_ (by with_reducible assumption)))⟩
    rw [wI, ← allN_eq, h2]; simp
  have g1 : ∀ {Q : Prop}, Q → Q := fun h => h
  rcases (Bool.eq_false_or_eq_true (p.guard.toList.isEmpty)).symm with h3 | h3
  · skip
    go_wp2_with fail
    refine (iIsName_any p.guard _ hf.guard (HK.out.new (by repeat (first | with_reducible exact New.refl _ | with_reducible assumption | with_reducible refine New.drew ?_ | with_reducible refine New.drewN ?_ _ | with_reducible refine New.alloc ?_ _ | with_reducible refine New.setCell ?_ (by first | (simp; done) | (simp; omega) | omega) _ | with_reducible refine New.trans ?_ (by with_reducible assumption))))).mono ?_; rintro e w4 ⟨rfl, rfl⟩
    rcases (Bool.eq_false_or_eq_true (isNameB p.guard)).symm with h4 | h4
    · skip
      go_wp2_with fail
      go_ret
      refine ⟨ret_bool ?_, (by repeat (first | with_reducible exact New.refl _ | with_reducible assumption | with_reducible refine New.drew ?_ | with_reducible refine New.drewN ?_ _ | with_reducible refine New.alloc ?_ _ | with_reducible refine New.setCell ?_ (by first | (simp; done) | (simp; omega) | omega) _ | with_reducible refine New.trans ?_ (by with_reducible assumption)))⟩
      rw [wI, guardB, h3, h4]; simp
    have HG := Lib.hid (show guardB p.guard = true by rw [guardB]; simp [h3, h4])
    go_wp2_with fail
    rotate_left 1
    iterate 3
      · have hz : p.inputs.length = 0 ∨ p.outputs.length = 0 ∨ p.lines.length = 0 := by omega
        go_ret
        refine ⟨ret_bool ?_, (by repeat (first | with_reducible exact New.refl _ | with_reducible assumption | with_reducible refine New.drew ?_ | with_reducible refine New.drewN ?_ _ | with_reducible refine New.alloc ?_ _ | with_reducible refine New.setCell ?_ (by first | (simp; done) | (simp; omega) | omega) _ | with_reducible refine New.trans ?_ (by with_reducible assumption)))⟩
        rcases hz with hz | hz | hz <;> simp [wI, hz]
    have d1 : decide (0 < p.inputs.length) = true := by rw [decide_eq_true_eq]; omega
    have d2 : decide (0 < p.outputs.length) = true := by rw [decide_eq_true_eq]; omega
    have d3 : decide (0 < p.lines.length) = true := by rw [decide_eq_true_eq]; omega
    refine (iIsSized_any p _ _ _ _ _ (HP.out.new (by repeat (first | with_reducible exact New.refl _ | with_reducible assumption | with_reducible refine New.drew ?_ | with_reducible refine New.drewN ?_ _ | with_reducible refine New.alloc ?_ _ | with_reducible refine New.setCell ?_ (by first | (simp; done) | (simp; omega) | omega) _ | with_reducible refine New.trans ?_ (by with_reducible assumption))))).mono ?_; rintro e w5 ⟨rfl, b5⟩
    obtain ⟨c5, f5⟩ := b5.rules
    have z5 := b5.size
    have z5_0 : w.heap.size < w5.heap.size := by have := z5; first | omega | (simp only [World.size_alloc] at this; omega)
    rcases (Bool.eq_false_or_eq_true (sizedB p)).symm with d4 | d4
    · skip
      go_wp2_with fail
      go_ret
      refine ⟨ret_bool ?_, (by repeat (first | with_reducible exact New.refl _ | with_reducible assumption | with_reducible refine New.drew ?_ | with_reducible refine New.drewN ?_ _ | with_reducible refine New.alloc ?_ _ | with_reducible refine New.setCell ?_ (by first | (simp; done) | (simp; omega) | omega) _ | with_reducible refine New.trans ?_ (by with_reducible assumption)))⟩
      rw [wI, d4]; simp
    go_wp2_with fail
    refine (containsFuncLn_any 90 #[] (fun l => !lineB l) _ p.lines _ (HL.out.new (by repeat (first | with_reducible exact New.refl _ | with_reducible assumption | with_reducible refine New.drew ?_ | with_reducible refine New.drewN ?_ _ | with_reducible refine New.alloc ?_ _ | with_reducible refine New.setCell ?_ (by first | (simp; done) | (simp; omega) | omega) _ | with_reducible refine New.trans ?_ (by with_reducible assumption)))) (fun _ _ => rfl) (fun x tv w1 hx n hr => iIsWritten1_any x tv w1 hr (hf.lines x hx) (HK.out.new (New.trans (show New w _ by exact (by repeat (first | with_reducible exact New.refl _ | with_reducible assumption | with_reducible refine New.drew ?_ | with_reducible refine New.drewN ?_ _ | with_reducible refine New.alloc ?_ _ | with_reducible refine New.setCell ?_ (by first | (simp; done) | (simp; omega) | omega) _ | with_reducible refine New.trans ?_ (by with_reducible assumption)))) n)))).mono ?_; rintro e w6 ⟨rfl, b6⟩
    go_wp2_with fail
    go_ret
    refine ⟨ret_bool ?_, (by repeat (first | with_reducible exact New.refl _ | with_reducible assumption | with_reducible refine New.drew ?_ | with_reducible refine New.drewN ?_ _ | with_reducible refine New.alloc ?_ _ | with_reducible refine New.setCell ?_ (by first | (simp; done) | (simp; omega) | omega) _ | with_reducible refine New.trans ?_ (by with_reducible assumption)))⟩
    rw [wI, d1, d2, d3, h1, d4, HG.out, ← allN_eq, h2]; simp
  · skip
    have HG := Lib.hid (show guardB p.guard = true by rw [guardB]; simp [h3])
    go_wp2_with fail
    rotate_left 1
    iterate 3
      · have hz : p.inputs.length = 0 ∨ p.outputs.length = 0 ∨ p.lines.length = 0 := by omega
        go_ret
        refine ⟨ret_bool ?_, (by repeat (first | with_reducible exact New.refl _ | with_reducible assumption | with_reducible refine New.drew ?_ | with_reducible refine New.drewN ?_ _ | with_reducible refine New.alloc ?_ _ | with_reducible refine New.setCell ?_ (by first | (simp; done) | (simp; omega) | omega) _ | with_reducible refine New.trans ?_ (by with_reducible assumption)))⟩
        rcases hz with hz | hz | hz <;> simp [wI, hz]
    have d1 : decide (0 < p.inputs.length) = true := by rw [decide_eq_true_eq]; omega
    have d2 : decide (0 < p.outputs.length) = true := by rw [decide_eq_true_eq]; omega
    have d3 : decide (0 < p.lines.length) = true := by rw [decide_eq_true_eq]; omega
    refine (iIsSized_any p _ _ _ _ _ (HP.out.new (by repeat (first | with_reducible exact New.refl _ | with_reducible assumption | with_reducible refine New.drew ?_ | with_reducible refine New.drewN ?_ _ | with_reducible refine New.alloc ?_ _ | with_reducible refine New.setCell ?_ (by first | (simp; done) | (simp; omega) | omega) _ | with_reducible refine New.trans ?_ (by with_reducible assumption))))).mono ?_; rintro e w5 ⟨rfl, b5⟩
    obtain ⟨c5, f5⟩ := b5.rules
    have z5 := b5.size
    have z5_0 : w.heap.size < w5.heap.size := by have := z5; first | omega | (simp only [World.size_alloc] at this; omega)
    rcases (Bool.eq_false_or_eq_true (sizedB p)).symm with d4 | d4
    · skip
      go_wp2_with fail
      go_ret
      refine ⟨ret_bool ?_, (by repeat (first | with_reducible exact New.refl _ | with_reducible assumption | with_reducible refine New.drew ?_ | with_reducible refine New.drewN ?_ _ | with_reducible refine New.alloc ?_ _ | with_reducible refine New.setCell ?_ (by first | (simp; done) | (simp; omega) | omega) _ | with_reducible refine New.trans ?_ (by with_reducible assumption)))⟩
      rw [wI, d4]; simp
    go_wp2_with fail
    refine (containsFuncLn_any 90 #[] (fun l => !lineB l) _ p.lines _ (HL.out.new (by repeat (first | with_reducible exact New.refl _ | with_reducible assumption | with_reducible refine New.drew ?_ | with_reducible refine New.drewN ?_ _ | with_reducible refine New.alloc ?_ _ | with_reducible refine New.setCell ?_ (by first | (simp; done) | (simp; omega) | omega) _ | with_reducible refine New.trans ?_ (by with_reducible assumption)))) (fun _ _ => rfl) (fun x tv w1 hx n hr => iIsWritten1_any x tv w1 hr (hf.lines x hx) (HK.out.new (New.trans (show New w _ by exact (by repeat (first | with_reducible exact New.refl _ | with_reducible assumption | with_reducible refine New.drew ?_ | with_reducible refine New.drewN ?_ _ | with_reducible refine New.alloc ?_ _ | with_reducible refine New.setCell ?_ (by first | (simp; done) | (simp; omega) | omega) _ | with_reducible refine New.trans ?_ (by with_reducible assumption)))) n)))).mono ?_; rintro e w6 ⟨rfl, b6⟩
    go_wp2_with fail
    go_ret
    refine ⟨ret_bool ?_, (by repeat (first | with_reducible exact New.refl _ | with_reducible assumption | with_reducible refine New.drew ?_ | with_reducible refine New.drewN ?_ _ | with_reducible refine New.alloc ?_ _ | with_reducible refine New.setCell ?_ (by first | (simp; done) | (simp; omega) | omega) _ | with_reducible refine New.trans ?_ (by with_reducible assumption)))⟩
    rw [wI, d1, d2, d3, h1, d4, HG.out, ← allN_eq, h2]; simp
end Go.Proofs.YtadoocadohdfcaaDoor
