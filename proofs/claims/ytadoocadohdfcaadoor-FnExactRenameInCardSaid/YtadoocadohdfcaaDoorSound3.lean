/- Contracts: the rules of programs: searches. -/
import Derived.Test.YtadoocadohdfcaaDoorProg
import Derived.Test.YtadoocadohdfcaaDoorSound2
import Derived.Test.YtadoocadohdfcaaDoorFuncLnB
import Derived.Test.YtadoocadohdfcaaDoorTermFn
namespace Go.Proofs.YtadoocadohdfcaaDoor
open Go Go.Proofs Go.RowKit
set_option linter.unusedVariables false
set_option linter.unusedSimpArgs false
set_option maxRecDepth 100000
theorem iFault1_any (x : ByteArray) (mv : Value) (made : List ByteArray) (b : Nat) (w : World) (hb : b < w.heap.size) (hc : w.cell? ⟨b, 0, none⟩ = some mv) (hv : RdS w mv made) :
    Calls Tryd.prog 104 #[.string x, .pointer (some ⟨b, 0, none⟩)] w fun e w' => e = .returned (.bool (!memS made x)) ∧ New w w' := by
  have HV := Lib.hid hv
  obtain ⟨a, c, rfl, _⟩ := hv
  go_enter Tryd.func104, Tryd.ntmps104
  go_wp2_with fail
  refine (containsS_any x _ made _ (Rd.new HV.out (by repeat (first | with_reducible exact New.refl _ | with_reducible assumption | with_reducible refine New.drew ?_ | with_reducible refine New.drewN ?_ _ | with_reducible refine New.alloc ?_ _ | with_reducible refine New.setCell ?_ (by first | (simp; done) | (simp; omega) | omega) _ | with_reducible refine New.trans ?_ (by with_reducible assumption))))).mono ?_; rintro e w1 ⟨rfl, rfl⟩
  go_wp2_with fail
  go_ret
  exact ⟨rfl, (by repeat (first | with_reducible exact New.refl _ | with_reducible assumption | with_reducible refine New.drew ?_ | with_reducible refine New.drewN ?_ _ | with_reducible refine New.alloc ?_ _ | with_reducible refine New.setCell ?_ (by first | (simp; done) | (simp; omega) | omega) _ | with_reducible refine New.trans ?_ (by with_reducible assumption)))⟩
theorem iFault2_any (x : ByteArray) (mv : Value) (made : List ByteArray) (b : Nat) (w : World) (hb : b < w.heap.size) (hc : w.cell? ⟨b, 0, none⟩ = some mv) (hv : RdS w mv made) :
    Calls Tryd.prog 105 #[.string x, .pointer (some ⟨b, 0, none⟩)] w fun e w' => e = .returned (.bool (!memS made x)) ∧ New w w' := by
  have HV := Lib.hid hv
  obtain ⟨a, c, rfl, _⟩ := hv
  go_enter Tryd.func105, Tryd.ntmps105
  go_wp2_with fail
  refine (containsS_any x _ made _ (Rd.new HV.out (by repeat (first | with_reducible exact New.refl _ | with_reducible assumption | with_reducible refine New.drew ?_ | with_reducible refine New.drewN ?_ _ | with_reducible refine New.alloc ?_ _ | with_reducible refine New.setCell ?_ (by first | (simp; done) | (simp; omega) | omega) _ | with_reducible refine New.trans ?_ (by with_reducible assumption))))).mono ?_; rintro e w1 ⟨rfl, rfl⟩
  go_wp2_with fail
  go_ret
  exact ⟨rfl, (by repeat (first | with_reducible exact New.refl _ | with_reducible assumption | with_reducible refine New.drew ?_ | with_reducible refine New.drewN ?_ _ | with_reducible refine New.alloc ?_ _ | with_reducible refine New.setCell ?_ (by first | (simp; done) | (simp; omega) | omega) _ | with_reducible refine New.trans ?_ (by with_reducible assumption)))⟩
theorem iUnknown1_any (x : ETerm) (p : ProgD) (iv vv : Value) (b : Nat) (w : World) (hb : b < w.heap.size) (hc1 : w.cell? ⟨b, 1, none⟩ = some iv) (hc2 : w.cell? ⟨b, 2, none⟩ = some vv) (h1 : RdS w iv p.inputs) (h2 : RdS w vv p.vars) :
    Calls Tryd.prog 128 #[.agg #[.int .i64 x.kind, .string x.name, .int .i64 x.num], .pointer (some ⟨b, 0, none⟩)] w fun e w' => e = .returned (.bool (unkT p x)) ∧ New w w' := by
  have H1 := Lib.hid h1
  have H2 := Lib.hid h2
  obtain ⟨a1, c1, rfl, _⟩ := h1
  obtain ⟨a2, c2, rfl, _⟩ := h2
  by_cases hk : x.kind = 1
  · have hk' : (x.kind == 1) = true := by simp [hk]
    have HK := Lib.hid (show unkT p x = !(memS p.inputs x.name || memS p.vars x.name) by rw [unkT, readB, hk]; simp)
    clear hk
    rcases Bool.eq_false_or_eq_true (p.inputs.any fun y => x.name.toList == y.toList) with g1 | g1
    · go_enter Tryd.func128, Tryd.ntmps128
      go_wp2_with fail
      refine (containsS_any x.name _ p.inputs _ (Rd.new H1.out (by repeat (first | with_reducible exact New.refl _ | with_reducible assumption | with_reducible refine New.drew ?_ | with_reducible refine New.drewN ?_ _ | with_reducible refine New.alloc ?_ _ | with_reducible refine New.setCell ?_ (by first | (simp; done) | (simp; omega) | omega) _ | with_reducible refine New.trans ?_ (by with_reducible assumption))))).mono ?_; rintro e w1 ⟨rfl, rfl⟩
      go_wp2_with fail
      go_ret
      exact ⟨ret_bool (by rw [HK.out, memS, g1]; rfl), (by repeat (first | with_reducible exact New.refl _ | with_reducible assumption | with_reducible refine New.drew ?_ | with_reducible refine New.drewN ?_ _ | with_reducible refine New.alloc ?_ _ | with_reducible refine New.setCell ?_ (by first | (simp; done) | (simp; omega) | omega) _ | with_reducible refine New.trans ?_ (by with_reducible assumption)))⟩
    · go_enter Tryd.func128, Tryd.ntmps128
      go_wp2_with fail
      refine (containsS_any x.name _ p.inputs _ (Rd.new H1.out (by repeat (first | with_reducible exact New.refl _ | with_reducible assumption | with_reducible refine New.drew ?_ | with_reducible refine New.drewN ?_ _ | with_reducible refine New.alloc ?_ _ | with_reducible refine New.setCell ?_ (by first | (simp; done) | (simp; omega) | omega) _ | with_reducible refine New.trans ?_ (by with_reducible assumption))))).mono ?_; rintro e w1 ⟨rfl, rfl⟩
      go_wp2_with fail
      refine (containsS_any x.name _ p.vars _ (Rd.new H2.out (by repeat (first | with_reducible exact New.refl _ | with_reducible assumption | with_reducible refine New.drew ?_ | with_reducible refine New.drewN ?_ _ | with_reducible refine New.alloc ?_ _ | with_reducible refine New.setCell ?_ (by first | (simp; done) | (simp; omega) | omega) _ | with_reducible refine New.trans ?_ (by with_reducible assumption))))).mono ?_; rintro e w1 ⟨rfl, rfl⟩
      go_wp2_with fail
      go_ret
      exact ⟨ret_bool (by rw [HK.out, memS, g1]; rfl), (by repeat (first | with_reducible exact New.refl _ | with_reducible assumption | with_reducible refine New.drew ?_ | with_reducible refine New.drewN ?_ _ | with_reducible refine New.alloc ?_ _ | with_reducible refine New.setCell ?_ (by first | (simp; done) | (simp; omega) | omega) _ | with_reducible refine New.trans ?_ (by with_reducible assumption)))⟩
  · have hk' : (x.kind == 1) = false := by simp [hk]
    have HK := Lib.hid (show unkT p x = false by rw [unkT]; simp [hk])
    clear hk
    go_enter Tryd.func128, Tryd.ntmps128
    go_wp2_with fail
    go_ret
    exact ⟨ret_bool HK.out.symm, (by repeat (first | with_reducible exact New.refl _ | with_reducible assumption | with_reducible refine New.drew ?_ | with_reducible refine New.drewN ?_ _ | with_reducible refine New.alloc ?_ _ | with_reducible refine New.setCell ?_ (by first | (simp; done) | (simp; omega) | omega) _ | with_reducible refine New.trans ?_ (by with_reducible assumption)))⟩
theorem iUnknown_any (p : ProgD) (iv vv ov lv : Value) (l : LineD) (tv : Value) (w : World) (hp : RdP w p iv vv ov lv) (ht : Rd w tv l.terms.length (l.terms.flatMap encTerm)) :
    Calls Tryd.prog 106 #[valP p iv vv ov lv, .agg #[.string l.target, tv]] w fun e w' => e = .returned (.bool (unkL p l)) ∧ New w w' := by
  have HP := Lib.hid hp
  have HT := Lib.hid ht; clear ht
  obtain ⟨h1, h2, h3, _⟩ := hp
  obtain ⟨ia, ic, rfl, _⟩ := id h1
  obtain ⟨ja, jc, rfl, _⟩ := id h2
  clear h1 h2 h3
  have zz : w.heap.size < w.heap.size + 1 := by omega
  go_enter Tryd.func106, Tryd.ntmps106
  go_wp2_with fail
  refine (containsFuncTerm_any 128 #[.pointer (some ⟨w.heap.size, 0, none⟩)] (unkT p) _ l.terms _ (HT.out.new (by repeat (first | with_reducible exact New.refl _ | with_reducible assumption | with_reducible refine New.drew ?_ | with_reducible refine New.drewN ?_ _ | with_reducible refine New.alloc ?_ _ | with_reducible refine New.setCell ?_ (by first | (simp; done) | (simp; omega) | omega) _ | with_reducible refine New.trans ?_ (by with_reducible assumption)))) (fun _ _ => rfl) (fun x w1 hx n => by
    have c := n.rules.1
    have z := n.size
    simp only [World.size_alloc] at z
    refine iUnknown1_any x p (.slice ia p.inputs.length ic) (.slice ja p.vars.length jc) w.heap.size w1 (by omega) ?_ ?_ (Rd.new HP.out.ins (New.trans (show New w _ by exact (by repeat (first | with_reducible exact New.refl _ | with_reducible assumption | with_reducible refine New.drew ?_ | with_reducible refine New.drewN ?_ _ | with_reducible refine New.alloc ?_ _ | with_reducible refine New.setCell ?_ (by first | (simp; done) | (simp; omega) | omega) _ | with_reducible refine New.trans ?_ (by with_reducible assumption)))) n)) (Rd.new HP.out.vars (New.trans (show New w _ by exact (by repeat (first | with_reducible exact New.refl _ | with_reducible assumption | with_reducible refine New.drew ?_ | with_reducible refine New.drewN ?_ _ | with_reducible refine New.alloc ?_ _ | with_reducible refine New.setCell ?_ (by first | (simp; done) | (simp; omega) | omega) _ | with_reducible refine New.trans ?_ (by with_reducible assumption)))) n))
    · rw [c _ _ (by simp; omega), cell_alloc_old _ _ _ _ (by simp), cell_alloc_new _ _ _ _ _ rfl]; rfl
    · rw [c _ _ (by simp; omega), cell_alloc_old _ _ _ _ (by simp), cell_alloc_new _ _ _ _ _ rfl]; rfl)).mono ?_; rintro e w2 ⟨rfl, b2⟩
  go_wp2_with fail
  go_ret
  exact ⟨rfl, (by repeat (first | with_reducible exact New.refl _ | with_reducible assumption | with_reducible refine New.drew ?_ | with_reducible refine New.drewN ?_ _ | with_reducible refine New.alloc ?_ _ | with_reducible refine New.setCell ?_ (by first | (simp; done) | (simp; omega) | omega) _ | with_reducible refine New.trans ?_ (by with_reducible assumption)))⟩
theorem iNamesAll_any (p : ProgD) (iv vv ov lv : Value) (w : World) (hp : RdP w p iv vv ov lv) (hf : FitP p) :
    Calls Tryd.prog 46 #[valP p iv vv ov lv] w fun e w' => ∃ r, e = .returned r ∧ New w w' ∧ w'.ownsRow (w.heap.size + 1) 9 1 r (allP p).length ((allP p).map Value.string) := by
  have HP := Lib.hid hp
  obtain ⟨h1, h2, h3, _⟩ := hp
  obtain ⟨ia, ic, rfl, _⟩ := id h1
  obtain ⟨ja, jc, rfl, _⟩ := id h2
  obtain ⟨oa, oc, rfl, _⟩ := id h3
  clear h1 h2 h3
  have hsz : ∀ xs ∈ [p.inputs, p.vars, p.outputs], xs.length ≤ 1048576 := by
    intro xs hxs
    simp only [List.mem_cons, List.not_mem_nil, or_false] at hxs
    rcases hxs with rfl | rfl | rfl
    · exact hf.insl
    · exact hf.varsl
    · exact hf.outsl
  have HR := Lib.hid (fun (w' : World) (n : New w w') => show ∀ k (h : k < [Value.slice ia p.inputs.length ic, .slice ja p.vars.length jc, .slice oa p.outputs.length oc].length) (h' : k < [p.inputs, p.vars, p.outputs].length), RdS w' [Value.slice ia p.inputs.length ic, .slice ja p.vars.length jc, .slice oa p.outputs.length oc][k] [p.inputs, p.vars, p.outputs][k] by
    intro k h h'
    rcases k with _ | _ | _ | k
    · exact Rd.new HP.out.ins n
    · exact Rd.new HP.out.vars n
    · exact Rd.new HP.out.outs n
    · simp at h; omega)
  have HE := Lib.hid (show [p.inputs, p.vars, p.outputs].flatten = allP p by simp [allP])
  have HS := Lib.hid hsz; clear hsz
  go_enter Tryd.func46, Tryd.ntmps46
  go_wp2_with fail
  refine (concatS_any _ [.slice ia p.inputs.length ic, .slice ja p.vars.length jc, .slice oa p.outputs.length oc] [p.inputs, p.vars, p.outputs] _ (buildRd3 _ _ (by simp) rfl (by simp)) rfl (HR.out _ (by repeat (first | with_reducible exact New.refl _ | with_reducible assumption | with_reducible refine New.drew ?_ | with_reducible refine New.drewN ?_ _ | with_reducible refine New.alloc ?_ _ | with_reducible refine New.setCell ?_ (by first | (simp; done) | (simp; omega) | omega) _ | with_reducible refine New.trans ?_ (by with_reducible assumption)))) HS.out (by simp)).mono ?_; rintro e w2 ⟨r2, rfl, b2, own2⟩
  obtain ⟨c2, f2⟩ := b2.rules
  have z2 := b2.size
  try simp only [World.size_alloc, World.size_drew, World.heap_drewN, World.size_setCell] at z2
  go_wp2_with fail
  go_ret
  refine ⟨_, rfl, (by repeat (first | with_reducible exact New.refl _ | with_reducible assumption | with_reducible refine New.drew ?_ | with_reducible refine New.drewN ?_ _ | with_reducible refine New.alloc ?_ _ | with_reducible refine New.setCell ?_ (by first | (simp; done) | (simp; omega) | omega) _ | with_reducible refine New.trans ?_ (by with_reducible assumption))), ?_⟩
  rw [HE.out] at own2
  exact own_base own2 (by simp)
end Go.Proofs.YtadoocadohdfcaaDoor
