/- Contracts: the library's searches with a method's value, at lists of lines. -/
import Derived.Test.YteielmihlfakgaaDoorProg
import Derived.Test.YteielmihlfakgaaDoorVC
import Derived.Test.YteielmihlfakgaaDoorVB
import Derived.Test.YteielmihlfakgaaDoorSound2
namespace Go.Proofs.YteielmihlfakgaaDoor
open Go Go.Proofs Go.RowKit
set_option linter.unusedVariables false
set_option linter.unusedSimpArgs false
set_option maxRecDepth 100000
set_option maxHeartbeats 800000 in
theorem indexFuncLnB_any (F : FuncId) (recv : Value) (p : LineD → Bool) (v : Value) (ls : List LineD) (w : World) (hv : RdLn w v ls)
    (hF : ∀ args w, Sem.run Tryd.prog (callFunc F args) w = .ok (.enter F args) w)
    (hp : ∀ (x : LineD) (tv : Value) w1, x ∈ ls → New w w1 → Rd w1 tv x.terms.length (x.terms.flatMap encTerm) → Calls Tryd.prog F #[recv, .agg #[.string x.target, tv]] w1 fun e w' => e = .returned (.bool (p x)) ∧ New w1 w') :
    Calls Tryd.prog 88 #[v, .func (.func F) #[recv] #[]] w (RetVal w (.int .i64 (idx p ls))) := by
  obtain ⟨ps, rfl, h1, h2⟩ := hv
  obtain ⟨a, cap, rfl, hm, HC⟩ := Rd.flat encLV_len (by omega) h1
  clear h1
  have HP := Lib.hid (fun (x : LV) w1 (hx : x ∈ ps) (n : New w w1) => hp x.1 x.2 w1 (List.mem_map_of_mem hx) n ((h2 x hx).new n)); clear hp h2
  rw [← idx_map]
  generalize hpp : (fun x : LV => p x.1) = pp
  replace HP : Hid (∀ (x : LV) w1 (hx : x ∈ ps) (n : New w w1), Calls Tryd.prog F #[recv, .agg #[.string x.1.target, x.2]] w1 fun e w' => e = .returned (.bool (pp x)) ∧ New w1 w') := by subst hpp; exact HP
  clear hpp
  go_enter Tryd.func88, Tryd.ntmps88
  go_wp2_with fail
  go_loopw [8] (fun i wr => ∃ k : Nat, k ≤ ps.length ∧ i = .int .i64 k ∧ Hid ((ps.take k).findIdx? pp = none) ∧ New w wr) (fun i _ => ps.length - (intOf i).toNat)
  case atStart => exact ⟨0, Nat.zero_le _, rfl, rfl, New.refl _⟩
  case round =>
    obtain ⟨k, hk, rfl, hpre, hb⟩ := hrel
    obtain ⟨c, f⟩ := hb.rules
    by_cases hlt : k < ps.length
    · obtain ⟨b, off, rfl, hbl, hx⟩ := HC.out k hlt
      have x0 := hx 0 _ (by omega) rfl
      have x1 := hx 1 _ (by omega) rfl
      rw [Nat.add_zero] at x0
      replace hx := Lib.hid hx
      have HT := Lib.hid (take_find hlt hpre.out)
      go_wp2_with fail
      refine (HP.out ps[k] _ (by simp) hb).mono ?_
      rintro e w2 ⟨rfl, hb2⟩
      go_wp2_with fail
      · have hh : pp ps[k] = true := by assumption
        go_ret
        exact ⟨by rw [idx_some (HT.out.1 hh)]; rfl, hb.trans hb2⟩
      · have hh : pp ps[k] = false := by assumption
        go_roundw
        case rel => exact ⟨k + 1, by omega, by go_num, Lib.hid (HT.out.2 hh), hb.trans hb2⟩
        case measure => simp [intOf]; omega
    · obtain rfl : k = ps.length := by omega
      go_wp2_with fail
      go_ret
      exact ⟨by rw [idx_none (by simpa using hpre.out)]; rfl, hb⟩
theorem containsFuncLnB_any (F : FuncId) (recv : Value) (p : LineD → Bool) (v : Value) (ls : List LineD) (w : World) (hv : RdLn w v ls)
    (hF : ∀ args w, Sem.run Tryd.prog (callFunc F args) w = .ok (.enter F args) w)
    (hp : ∀ (x : LineD) (tv : Value) w1, x ∈ ls → New w w1 → Rd w1 tv x.terms.length (x.terms.flatMap encTerm) → Calls Tryd.prog F #[recv, .agg #[.string x.target, tv]] w1 fun e w' => e = .returned (.bool (p x)) ∧ New w1 w') :
    Calls Tryd.prog 85 #[v, .func (.func F) #[recv] #[]] w (RetVal w (.bool (ls.any p))) := by
  have HV := Lib.hid hv; clear hv
  have HP := Lib.hid hp; clear hp
  have HI := Lib.hid (idx_any p ls)
  go_enter Tryd.func85, Tryd.ntmps85
  go_wp2_with fail
  refine (indexFuncLnB_any F recv p v ls w HV.out hF HP.out).mono ?_
  rintro e w2 ⟨rfl, hb2⟩
  go_wp2_with fail
  go_ret
  exact ⟨ret_bool HI.out, hb2⟩
end Go.Proofs.YteielmihlfakgaaDoor
/- Contracts: the library's searches on lists of terms. -/
namespace Go.Proofs.YteielmihlfakgaaDoor
open Go Go.Proofs Go.RowKit
set_option linter.unusedVariables false
set_option linter.unusedSimpArgs false
set_option maxRecDepth 100000
set_option maxHeartbeats 800000 in
theorem indexFuncTerm_any (F : FuncId) (caps : Array Value) (p : ETerm → Bool) (v : Value) (xs : List ETerm) (w : World) (hv : Rd w v xs.length (xs.flatMap encTerm))
    (hF : ∀ args w, Sem.run Tryd.prog (callFunc F args) w = .ok (.enter F args) w)
    (hp : ∀ x w1, x ∈ xs → New w w1 → Calls Tryd.prog F (#[.agg #[.int .i64 x.kind, .string x.name, .int .i64 x.num]] ++ caps) w1 fun e w' => e = .returned (.bool (p x)) ∧ New w1 w') :
    Calls Tryd.prog 154 #[v, .func (.func F) #[] caps] w (RetVal w (.int .i64 (idx p xs))) := by
  obtain ⟨a, cap, rfl, hm, HC⟩ := Rd.flat encTerm_len (by omega) hv
  have HP := Lib.hid hp; clear hp
  go_enter Tryd.func154, Tryd.ntmps154
  go_wp2_with fail
  go_loopw [8] (fun i wr => ∃ k : Nat, k ≤ xs.length ∧ i = .int .i64 k ∧ Hid ((xs.take k).findIdx? p = none) ∧ New w wr) (fun i _ => xs.length - (intOf i).toNat)
  case atStart => exact ⟨0, Nat.zero_le _, rfl, rfl, New.refl _⟩
  case round =>
    obtain ⟨k, hk, rfl, hpre, hb⟩ := hrel
    obtain ⟨c, f⟩ := hb.rules
    by_cases hlt : k < xs.length
    · obtain ⟨b, off, rfl, hbl, hx⟩ := HC.out k hlt
      have x0 := hx 0 _ (by omega) rfl
      have x1 := hx 1 _ (by omega) rfl
      have x2 := hx 2 _ (by omega) rfl
      rw [Nat.add_zero] at x0
      replace hx := Lib.hid hx
      have HT := Lib.hid (take_find hlt hpre.out)
      clear hv
      go_wp2_with fail
      refine (HP.out xs[k] _ (by simp) hb).mono ?_
      rintro e w2 ⟨rfl, hb2⟩
      go_wp2_with fail
      · have hh : p xs[k] = true := by assumption
        go_ret
        exact ⟨by rw [idx_some (HT.out.1 hh)]; rfl, hb.trans hb2⟩
      · have hh : p xs[k] = false := by assumption
        go_roundw
        case rel => exact ⟨k + 1, by omega, by go_num, Lib.hid (HT.out.2 hh), hb.trans hb2⟩
        case measure => simp [intOf]; omega
    · obtain rfl : k = xs.length := by omega
      go_wp2_with fail
      go_ret
      exact ⟨by rw [idx_none (by simpa using hpre.out)]; rfl, hb⟩
theorem containsFuncTerm_any (F : FuncId) (caps : Array Value) (p : ETerm → Bool) (v : Value) (xs : List ETerm) (w : World) (hv : Rd w v xs.length (xs.flatMap encTerm))
    (hF : ∀ args w, Sem.run Tryd.prog (callFunc F args) w = .ok (.enter F args) w)
    (hp : ∀ x w1, x ∈ xs → New w w1 → Calls Tryd.prog F (#[.agg #[.int .i64 x.kind, .string x.name, .int .i64 x.num]] ++ caps) w1 fun e w' => e = .returned (.bool (p x)) ∧ New w1 w') :
    Calls Tryd.prog 121 #[v, .func (.func F) #[] caps] w (RetVal w (.bool (xs.any p))) := by
  have HV := Lib.hid hv; clear hv
  have HP := Lib.hid hp; clear hp
  have HI := Lib.hid (idx_any p xs)
  go_enter Tryd.func121, Tryd.ntmps121
  go_wp2_with fail
  refine (indexFuncTerm_any F caps p v xs w HV.out hF HP.out).mono ?_
  rintro e w2 ⟨rfl, hb2⟩
  go_wp2_with fail
  go_ret
  exact ⟨ret_bool HI.out, hb2⟩
end Go.Proofs.YteielmihlfakgaaDoor
/- Contracts: the rules of programs: searches. -/
namespace Go.Proofs.YteielmihlfakgaaDoor
open Go Go.Proofs Go.RowKit
set_option linter.unusedVariables false
set_option linter.unusedSimpArgs false
set_option maxRecDepth 100000
theorem iFault1_any (x : ByteArray) (mv : Value) (made : List ByteArray) (b : Nat) (w : World) (hb : b < w.heap.size) (hc : w.cell? ⟨b, 0, none⟩ = some mv) (hv : RdS w mv made) :
    Calls Tryd.prog 102 #[.string x, .pointer (some ⟨b, 0, none⟩)] w fun e w' => e = .returned (.bool (!memS made x)) ∧ New w w' := by
  have HV := Lib.hid hv
  obtain ⟨a, c, rfl, _⟩ := hv
  go_enter Tryd.func102, Tryd.ntmps102
  go_wp2_with fail
  refine (containsS_any x _ made _ (Rd.new HV.out (by repeat (first | with_reducible exact New.refl _ | with_reducible assumption | with_reducible refine New.drew ?_ | with_reducible refine New.drewN ?_ _ | with_reducible refine New.alloc ?_ _ | with_reducible refine New.setCell ?_ (by first | (simp; done) | (simp; omega) | omega) _ | with_reducible refine New.trans ?_ (by with_reducible assumption))))).mono ?_; rintro e w1 ⟨rfl, rfl⟩
  go_wp2_with fail
  go_ret
  exact ⟨rfl, (by repeat (first | with_reducible exact New.refl _ | with_reducible assumption | with_reducible refine New.drew ?_ | with_reducible refine New.drewN ?_ _ | with_reducible refine New.alloc ?_ _ | with_reducible refine New.setCell ?_ (by first | (simp; done) | (simp; omega) | omega) _ | with_reducible refine New.trans ?_ (by with_reducible assumption)))⟩
theorem iFault2_any (x : ByteArray) (mv : Value) (made : List ByteArray) (b : Nat) (w : World) (hb : b < w.heap.size) (hc : w.cell? ⟨b, 0, none⟩ = some mv) (hv : RdS w mv made) :
    Calls Tryd.prog 103 #[.string x, .pointer (some ⟨b, 0, none⟩)] w fun e w' => e = .returned (.bool (!memS made x)) ∧ New w w' := by
  have HV := Lib.hid hv
  obtain ⟨a, c, rfl, _⟩ := hv
  go_enter Tryd.func103, Tryd.ntmps103
  go_wp2_with fail
  refine (containsS_any x _ made _ (Rd.new HV.out (by repeat (first | with_reducible exact New.refl _ | with_reducible assumption | with_reducible refine New.drew ?_ | with_reducible refine New.drewN ?_ _ | with_reducible refine New.alloc ?_ _ | with_reducible refine New.setCell ?_ (by first | (simp; done) | (simp; omega) | omega) _ | with_reducible refine New.trans ?_ (by with_reducible assumption))))).mono ?_; rintro e w1 ⟨rfl, rfl⟩
  go_wp2_with fail
  go_ret
  exact ⟨rfl, (by repeat (first | with_reducible exact New.refl _ | with_reducible assumption | with_reducible refine New.drew ?_ | with_reducible refine New.drewN ?_ _ | with_reducible refine New.alloc ?_ _ | with_reducible refine New.setCell ?_ (by first | (simp; done) | (simp; omega) | omega) _ | with_reducible refine New.trans ?_ (by with_reducible assumption)))⟩
theorem iUnknown1_any (x : ETerm) (p : ProgD) (iv vv : Value) (b : Nat) (w : World) (hb : b < w.heap.size) (hc1 : w.cell? ⟨b, 1, none⟩ = some iv) (hc2 : w.cell? ⟨b, 2, none⟩ = some vv) (h1 : RdS w iv p.inputs) (h2 : RdS w vv p.vars) :
    Calls Tryd.prog 142 #[.agg #[.int .i64 x.kind, .string x.name, .int .i64 x.num], .pointer (some ⟨b, 0, none⟩)] w fun e w' => e = .returned (.bool (unkT p x)) ∧ New w w' := by
  have H1 := Lib.hid h1
  have H2 := Lib.hid h2
  obtain ⟨a1, c1, rfl, _⟩ := h1
  obtain ⟨a2, c2, rfl, _⟩ := h2
  by_cases hk : x.kind = 1
  · have hk' : (x.kind == 1) = true := by simp [hk]
    have HK := Lib.hid (show unkT p x = !(memS p.inputs x.name || memS p.vars x.name) by rw [unkT, readB, hk]; simp)
    clear hk
    rcases Bool.eq_false_or_eq_true (p.inputs.any fun y => x.name.toList == y.toList) with g1 | g1
    · go_enter Tryd.func142, Tryd.ntmps142
      go_wp2_with fail
      refine (containsS_any x.name _ p.inputs _ (Rd.new H1.out (by repeat (first | with_reducible exact New.refl _ | with_reducible assumption | with_reducible refine New.drew ?_ | with_reducible refine New.drewN ?_ _ | with_reducible refine New.alloc ?_ _ | with_reducible refine New.setCell ?_ (by first | (simp; done) | (simp; omega) | omega) _ | with_reducible refine New.trans ?_ (by with_reducible assumption))))).mono ?_; rintro e w1 ⟨rfl, rfl⟩
      go_wp2_with fail
      go_ret
      exact ⟨ret_bool (by rw [HK.out, memS, g1]; rfl), (by repeat (first | with_reducible exact New.refl _ | with_reducible assumption | with_reducible refine New.drew ?_ | with_reducible refine New.drewN ?_ _ | with_reducible refine New.alloc ?_ _ | with_reducible refine New.setCell ?_ (by first | (simp; done) | (simp; omega) | omega) _ | with_reducible refine New.trans ?_ (by with_reducible assumption)))⟩
    · go_enter Tryd.func142, Tryd.ntmps142
      go_wp2_with fail
      refine (containsS_any x.name _ p.inputs _ (Rd.new H1.out (by repeat (first | with_reducible exact New.refl _ | with_reducible assumption | with_reducible refine New.drew ?_ | with_reducible refine New.drewN ?_ _ | with_reducible refine New.alloc ?_ _ | with_reducible refine New.setCell ?_ (by first | (simp; done) | (simp; omega) | omega) _ | with_reducible refine New.trans ?_ (by with_reducible assumption))))).mono ?_; rintro e w1 ⟨rfl, rfl⟩
      go_wp2_with fail
      refine (containsS_any x.name _ p.vars _ (Rd.new H2.out (by repeat (first | with_reducible exact New.refl _ | with_reducible assumption | with_reducible refine New.drew ?_ | with_reducible refine New.drewN ?_ _ | with_reducible refine New.alloc ?_ _ | with_reducible refine New.setCell ?_ (by first | (simp; done) | (simp; omega) | omega) _ | with_reducible refine New.trans ?_ (by with_reducible assumption))))).mono ?_; rintro e w1 ⟨rfl, rfl⟩
      go_wp2_with fail
      go_ret
      exact ⟨ret_bool (by rw [HK.out, memS, g1]; rfl), (by repeat (first | with_reducible exact New.refl _ | with_reducible assumption | with_reducible refine New.drew ?_ | with_reducible refine New.drewN ?_ _ | with_reducible refine New.alloc ?_ _ | with_reducible refine New.setCell ?_ (by first | (simp; done) | (simp; omega) | omega) _ | with_reducible refine New.trans ?_ (by with_reducible assumption)))⟩
  · have hk' : (x.kind == 1) = false := by simp [hk]
    have HK := Lib.hid (show unkT p x = false by rw [unkT]; simp [hk])
    clear hk
    go_enter Tryd.func142, Tryd.ntmps142
    go_wp2_with fail
    go_ret
    exact ⟨ret_bool HK.out.symm, (by repeat (first | with_reducible exact New.refl _ | with_reducible assumption | with_reducible refine New.drew ?_ | with_reducible refine New.drewN ?_ _ | with_reducible refine New.alloc ?_ _ | with_reducible refine New.setCell ?_ (by first | (simp; done) | (simp; omega) | omega) _ | with_reducible refine New.trans ?_ (by with_reducible assumption)))⟩
theorem iUnknown_any (p : ProgD) (iv vv ov lv : Value) (l : LineD) (tv : Value) (w : World) (hp : RdP w p iv vv ov lv) (ht : Rd w tv l.terms.length (l.terms.flatMap encTerm)) :
    Calls Tryd.prog 104 #[valP p iv vv ov lv, .agg #[.string l.target, tv]] w fun e w' => e = .returned (.bool (unkL p l)) ∧ New w w' := by
  have HP := Lib.hid hp
  have HT := Lib.hid ht; clear ht
  obtain ⟨h1, h2, h3, _⟩ := hp
  obtain ⟨ia, ic, rfl, _⟩ := id h1
  obtain ⟨ja, jc, rfl, _⟩ := id h2
  clear h1 h2 h3
  have zz : w.heap.size < w.heap.size + 1 := by omega
  go_enter Tryd.func104, Tryd.ntmps104
  go_wp2_with fail
  refine (containsFuncTerm_any 142 #[.pointer (some ⟨w.heap.size, 0, none⟩)] (unkT p) _ l.terms _ (HT.out.new (by repeat (first | with_reducible exact New.refl _ | with_reducible assumption | with_reducible refine New.drew ?_ | with_reducible refine New.drewN ?_ _ | with_reducible refine New.alloc ?_ _ | with_reducible refine New.setCell ?_ (by first | (simp; done) | (simp; omega) | omega) _ | with_reducible refine New.trans ?_ (by with_reducible assumption)))) (fun _ _ => rfl) (fun x w1 hx n => by
    have c := n.rules.1
    have z := n.size
    simp only [World.size_alloc] at z
    refine iUnknown1_any x p (.slice ia p.inputs.length ic) (.slice ja p.vars.length jc) w.heap.size w1 (by omega) ?_ ?_ (Rd.new HP.out.ins (New.trans (show New w _ by exact (by repeat (first | with_reducible exact New.refl _ | with_reducible assumption | with_reducible refine New.drew ?_ | with_reducible refine New.drewN ?_ _ | with_reducible refine New.alloc ?_ _ | with_reducible refine New.setCell ?_ (by first | (simp; done) | (simp; omega) | omega) _ | with_reducible refine New.trans ?_ (by with_reducible assumption)))) n)) (Rd.new HP.out.vars (New.trans (show New w _ by exact (by repeat (first | with_reducible exact New.refl _ | with_reducible assumption | with_reducible refine New.drew ?_ | with_reducible refine New.drewN ?_ _ | with_reducible refine New.alloc ?_ _ | with_reducible refine New.setCell ?_ (by first | (simp; done) | (simp; omega) | omega) _ | with_reducible refine New.trans ?_ (by with_reducible assumption)))) n))
    · rw [c _ _ (by simp; omega), cell_alloc_old _ _ _ _ (by simp), cell_alloc_new _ _ _ _ _ rfl]; rfl
    · rw [c _ _ (by simp; omega), cell_alloc_old _ _ _ _ (by simp), cell_alloc_new _ _ _ _ _ rfl]; rfl)).mono ?_; rintro e w2 ⟨rfl, b2⟩
  go_wp2_with fail
  go_ret
  exact ⟨rfl, (by repeat (first | with_reducible exact New.refl _ | with_reducible assumption | with_reducible refine New.drew ?_ | with_reducible refine New.drewN ?_ _ | with_reducible refine New.alloc ?_ _ | with_reducible refine New.setCell ?_ (by first | (simp; done) | (simp; omega) | omega) _ | with_reducible refine New.trans ?_ (by with_reducible assumption)))⟩
theorem iNamesAll_any (p : ProgD) (iv vv ov lv : Value) (w : World) (hp : RdP w p iv vv ov lv) (hf : FitP p) :
    Calls Tryd.prog 99 #[valP p iv vv ov lv] w fun e w' => ∃ r, e = .returned r ∧ New w w' ∧ w'.ownsRow (w.heap.size + 1) 9 1 r (allP p).length ((allP p).map Value.string) := by
  have HP := Lib.hid hp
  obtain ⟨h1, h2, h3, _⟩ := hp
  obtain ⟨ia, ic, rfl, _⟩ := id h1
  obtain ⟨ja, jc, rfl, _⟩ := id h2
  obtain ⟨oa, oc, rfl, _⟩ := id h3
  clear h1 h2 h3
  have hsz : ∀ xs ∈ [p.inputs, p.vars, p.outputs], xs.length ≤ 1048576 := by
    intro xs hxs
    simp only [List.mem_cons, List.not_mem_nil, or_false] at hxs
    rcases hxs with rfl | rfl | rfl
    · exact hf.insl
    · exact hf.varsl
    · exact hf.outsl
  have HR := Lib.hid (fun (w' : World) (n : New w w') => show ∀ k (h : k < [Value.slice ia p.inputs.length ic, .slice ja p.vars.length jc, .slice oa p.outputs.length oc].length) (h' : k < [p.inputs, p.vars, p.outputs].length), RdS w' [Value.slice ia p.inputs.length ic, .slice ja p.vars.length jc, .slice oa p.outputs.length oc][k] [p.inputs, p.vars, p.outputs][k] by
    intro k h h'
    rcases k with _ | _ | _ | k
    · exact Rd.new HP.out.ins n
    · exact Rd.new HP.out.vars n
    · exact Rd.new HP.out.outs n
    · simp at h; omega)
  have HE := Lib.hid (show [p.inputs, p.vars, p.outputs].flatten = allP p by simp [allP])
  have HS := Lib.hid hsz; clear hsz
  go_enter Tryd.func99, Tryd.ntmps99
  go_wp2_with fail
  refine (concatS_any _ [.slice ia p.inputs.length ic, .slice ja p.vars.length jc, .slice oa p.outputs.length oc] [p.inputs, p.vars, p.outputs] _ (buildRd3 _ _ (by simp) rfl (by simp)) rfl (HR.out _ (by repeat (first | with_reducible exact New.refl _ | with_reducible assumption | with_reducible refine New.drew ?_ | with_reducible refine New.drewN ?_ _ | with_reducible refine New.alloc ?_ _ | with_reducible refine New.setCell ?_ (by first | (simp; done) | (simp; omega) | omega) _ | with_reducible refine New.trans ?_ (by with_reducible assumption)))) HS.out (by simp)).mono ?_; rintro e w2 ⟨r2, rfl, b2, own2⟩
  obtain ⟨c2, f2⟩ := b2.rules
  have z2 := b2.size
  try simp only [World.size_alloc, World.size_drew, World.heap_drewN, World.size_setCell] at z2
  go_wp2_with fail
  go_ret
  refine ⟨_, rfl, (by repeat (first | with_reducible exact New.refl _ | with_reducible assumption | with_reducible refine New.drew ?_ | with_reducible refine New.drewN ?_ _ | with_reducible refine New.alloc ?_ _ | with_reducible refine New.setCell ?_ (by first | (simp; done) | (simp; omega) | omega) _ | with_reducible refine New.trans ?_ (by with_reducible assumption))), ?_⟩
  rw [HE.out] at own2
  exact own_base own2 (by simp)
end Go.Proofs.YteielmihlfakgaaDoor
/- Contracts: the rules of programs: the reference's own function. -/
namespace Go.Proofs.YteielmihlfakgaaDoor
open Go Go.Proofs Go.RowKit
set_option linter.unusedVariables false
set_option linter.unusedSimpArgs false
set_option maxRecDepth 100000
theorem faultS_1 {p : ProgD} (h : twB (allP p) = true) : faultS p = 1 := by rw [faultS, if_pos h]
theorem faultS_2 {p : ProgD} (h : twB (allP p) = false) (h2 : bad2 p = true) : faultS p = 2 := by rw [faultS, if_neg (by simp [h]), if_pos h2]
theorem faultS_3 {p : ProgD} (h : twB (allP p) = false) (h2 : bad2 p = false) (h3 : (targetsP p).any (out3 p) = true) : faultS p = 3 := by
  rw [faultS, if_neg (by simp [h]), if_neg (by simp [h2]), if_pos h3]
theorem faultS_4 {p : ProgD} (h : twB (allP p) = false) (h2 : bad2 p = false) (h3 : (targetsP p).any (out3 p) = false) (h4 : twB (targetsP p) = true) : faultS p = 4 := by
  rw [faultS, if_neg (by simp [h]), if_neg (by simp [h2]), if_neg (by rw [h3]; simp), if_pos h4]
theorem faultS_5 {p : ProgD} (h : twB (allP p) = false) (h2 : bad2 p = false) (h3 : (targetsP p).any (out3 p) = false) (h4 : twB (targetsP p) = false) (h5 : (targetsP p).length < p.vars.length + p.outputs.length) : faultS p = 5 := by
  rw [faultS, if_neg (by simp [h]), if_neg (by simp [h2]), if_neg (by rw [h3]; simp), if_neg (by simp [h4]), if_pos h5]
theorem faultS_6 {p : ProgD} (h : twB (allP p) = false) (h2 : bad2 p = false) (h3 : (targetsP p).any (out3 p) = false) (h4 : twB (targetsP p) = false) (h5 : ¬ (targetsP p).length < p.vars.length + p.outputs.length) (h6 : p.lines.any (unkL p) = true) : faultS p = 6 := by
  rw [faultS, if_neg (by simp [h]), if_neg (by simp [h2]), if_neg (by rw [h3]; simp), if_neg (by simp [h4]), if_neg h5, if_pos h6]
theorem faultS_0 {p : ProgD} (h : twB (allP p) = false) (h2 : bad2 p = false) (h3 : (targetsP p).any (out3 p) = false) (h4 : twB (targetsP p) = false) (h5 : ¬ (targetsP p).length < p.vars.length + p.outputs.length) (h6 : p.lines.any (unkL p) = false) : faultS p = 0 := by
  rw [faultS, if_neg (by simp [h]), if_neg (by simp [h2]), if_neg (by rw [h3]; simp), if_neg (by simp [h4]), if_neg h5, if_neg (by rw [h6]; simp)]
theorem targets_len (p : ProgD) : (targetsP p).length = p.lines.length := by simp [targetsP]
theorem targets_take {p : ProgD} {ps : List LV} (h : ps.map Prod.fst = p.lines) (k : Nat) (hk : k < ps.length) : (targetsP p).take (k + 1) = (targetsP p).take k ++ [ps[k].1.target] := by
  have e : targetsP p = ps.map (fun q => q.1.target) := by rw [targetsP, ← h, List.map_map]; rfl
  rw [e, List.take_succ_eq_append_getElem (by simpa using hk)]; simp
theorem any_snoc {α : Type} (f : α → Bool) (xs : List α) (x : α) : (xs ++ [x]).any f = (xs.any f || f x) := by simp
theorem any_prefix {α : Type} {f : α → Bool} {xs ys : List α} (h : xs.any f = true) (e : ∃ zs, xs ++ zs = ys) : ys.any f = true := by
  obtain ⟨zs, rfl⟩ := e
  rw [List.any_append, h]; rfl
set_option maxHeartbeats 8000000 in
theorem sFault_any (p : ProgD) (iv vv ov lv : Value) (w : World) (hp : RdP w p iv vv ov lv) (hf : FitP p) :
    Calls Tryd.prog 54 #[valP p iv vv ov lv] w fun e w' => e = .returned (.int .i64 (faultS p)) ∧ New w w' := by
  obtain ⟨i0, hi, hz0, hz1, hz2⟩ := info_parts infoStrC
  have HP := Lib.hid hp
  obtain ⟨h1, h2, h3, h4⟩ := hp
  obtain ⟨ia, ic, rfl, _⟩ := id h1
  obtain ⟨ja, jc, rfl, _⟩ := id h2
  obtain ⟨oa, oc, rfl, _⟩ := id h3
  clear h1 h2 h3
  obtain ⟨ps, hps, hl1, hl2⟩ := h4
  obtain ⟨la, lc, rfl, hm, HC⟩ := Rd.flat encLV_len (by omega) hl1
  have HT := Lib.hid hl2; clear hl1 hl2
  have hpl : p.lines.length = ps.length := by rw [← hps, List.length_map]
  have hpm : ps.length ≤ 1048576 := by rw [← hpl]; exact hf.linesl
  have hvm := hf.varsl
  have hom := hf.outsl
  have HTL := Lib.hid (targets_len p)
  have HTT := Lib.hid (fun k hk => targets_take hps k hk)
  have HPS := Lib.hid hps; clear hps
  have HPL := Lib.hid hpl; clear hpl
  have HF := Lib.hid hf; clear hf
  have zz : w.heap.size < w.heap.size + 1 := by omega
  rcases Bool.eq_false_or_eq_true (twB (allP p)) with h1 | h1
  · go_enter Tryd.func54, Tryd.ntmps54
    go_wp2_with fail
    refine (sAll_any p _ _ _ _ _ (HP.out.new (by repeat (first | with_reducible exact New.refl _ | with_reducible assumption | with_reducible refine New.drew ?_ | with_reducible refine New.drewN ?_ _ | with_reducible refine New.alloc ?_ _ | with_reducible refine New.setCell ?_ (by first | (simp; done) | (simp; omega) | omega) _ | with_reducible refine New.trans ?_ (by with_reducible assumption)))) HF.out).mono ?_; rintro e w1 ⟨r1, rfl, b1, own1⟩
    obtain ⟨c1, f1⟩ := b1.rules
    have z1 := b1.size
    try simp only [World.size_alloc, World.size_drew, World.heap_drewN, World.size_setCell] at z1
    have z1_0 : w.heap.size < w1.heap.size := by omega
    go_wp2_with fail
    refine (sTwice_any _ (allP p) _ (own_rd own1)).mono ?_; rintro e w2 ⟨rfl, b2⟩
    try with_reducible replace b2 := New.undrawN b2
    try with_reducible replace b2 := New.undraw b2
    obtain ⟨c2, f2⟩ := b2.rules
    have z2 := b2.size
    try simp only [World.size_alloc, World.size_drew, World.heap_drewN, World.size_setCell] at z2
    have z2_0 : w.heap.size < w2.heap.size := by omega
    go_wp2_with fail
    go_ret
    exact ⟨ret_int (faultS_1 h1).symm, (by repeat (first | with_reducible exact New.refl _ | with_reducible assumption | with_reducible refine New.drew ?_ | with_reducible refine New.drewN ?_ _ | with_reducible refine New.alloc ?_ _ | with_reducible refine New.setCell ?_ (by first | (simp; done) | (simp; omega) | omega) _ | with_reducible refine New.trans ?_ (by with_reducible assumption)))⟩
  rcases Bool.eq_false_or_eq_true (p.guard.toList.isEmpty) with he | he
  · have h2 : bad2 p = false := by rw [bad2, he]; rfl
    go_enter Tryd.func54, Tryd.ntmps54
    go_wp2_with fail
    refine (sAll_any p _ _ _ _ _ (HP.out.new (by repeat (first | with_reducible exact New.refl _ | with_reducible assumption | with_reducible refine New.drew ?_ | with_reducible refine New.drewN ?_ _ | with_reducible refine New.alloc ?_ _ | with_reducible refine New.setCell ?_ (by first | (simp; done) | (simp; omega) | omega) _ | with_reducible refine New.trans ?_ (by with_reducible assumption)))) HF.out).mono ?_; rintro e w1 ⟨r1, rfl, b1, own1⟩
    obtain ⟨c1, f1⟩ := b1.rules
    have z1 := b1.size
    try simp only [World.size_alloc, World.size_drew, World.heap_drewN, World.size_setCell] at z1
    have z1_0 : w.heap.size < w1.heap.size := by omega
    go_wp2_with fail
    refine (sTwice_any _ (allP p) _ (own_rd own1)).mono ?_; rintro e w2 ⟨rfl, b2⟩
    try with_reducible replace b2 := New.undrawN b2
    try with_reducible replace b2 := New.undraw b2
    obtain ⟨c2, f2⟩ := b2.rules
    have z2 := b2.size
    try simp only [World.size_alloc, World.size_drew, World.heap_drewN, World.size_setCell] at z2
    have z2_0 : w.heap.size < w2.heap.size := by omega
    go_wp2_with fail
    have h12 := Lib.hid (And.intro h1 h2)
    go_loopw [3, 4] (fun t i wr => ∃ k : Nat, k ≤ ps.length ∧ i = .int .i64 k ∧ Hid (((targetsP p).take k).any (out3 p) = false) ∧ New (w.alloc (.cells #[.string p.name, .slice ia p.inputs.length ic, .slice ja p.vars.length jc, .slice oa p.outputs.length oc, .string p.guard, .slice la ps.length lc] 27)) wr ∧ wr.ownsRow (w.heap.size + 1) 9 1 t k (((targetsP p).take k).map Value.string)) (fun _ i _ => ps.length - (intOf i).toNat)
    case atStart => exact ⟨0, Nat.zero_le _, rfl, rfl, (by repeat (first | with_reducible exact New.refl _ | with_reducible assumption | with_reducible refine New.drew ?_ | with_reducible refine New.drewN ?_ _ | with_reducible refine New.alloc ?_ _ | with_reducible refine New.setCell ?_ (by first | (simp; done) | (simp; omega) | omega) _ | with_reducible refine New.trans ?_ (by with_reducible assumption))), own_empty (by omega)⟩
    case round =>
      obtain ⟨k, hk, rfl, hpre, hb, hown⟩ := hrel
      clear c1 f1 c2 f2 b1 b2
      try clear c3 f3 b3
      obtain ⟨cc, f'⟩ := hb.rules
      have hbz := hb.size
      simp only [World.size_alloc] at hbz
      have hb0 : New w wr := ((New.refl w).alloc _).trans hb
      by_cases hlt : k < ps.length
      · obtain ⟨b, off, rfl, hbl, hx⟩ := HC.out k hlt
        have x0 := hx 0 _ (by omega) rfl
        have x1 := hx 1 _ (by omega) rfl
        rw [Nat.add_zero] at x0
        replace hx := Lib.hid hx
        have hbw : b < wr.heap.size := by omega
        have hbw1 : b < w.heap.size + 1 := by omega
        have hww : w.heap.size < wr.heap.size := by omega
        have HM1 := Lib.hid (idx_memN ps[k].1.target p.vars)
        have HM2 := Lib.hid (idx_memN ps[k].1.target p.outputs)
        have HO := Lib.hid (show out3 p ps[k].1.target = !(memS p.vars ps[k].1.target || memS p.outputs ps[k].1.target) by rw [out3, madeP, memS_append])
        have HS := Lib.hid (show ((targetsP p).take (k + 1)).any (out3 p) = out3 p ps[k].1.target by rw [HTT.out k hlt, any_snoc, hpre.out]; rfl)
        rcases Bool.eq_false_or_eq_true (decide (idx (fun y => ps[k].1.target.toList == y.toList) p.vars < 0)) with g1 | g1
        · rcases Bool.eq_false_or_eq_true (decide (idx (fun y => ps[k].1.target.toList == y.toList) p.outputs < 0)) with g2 | g2
          · have HA := Lib.hid (show (targetsP p).any (out3 p) = true from any_prefix (xs := (targetsP p).take (k + 1)) (by rw [HS.out, HO.out, Bool.not_or, ← HM1.out, ← HM2.out, g1, g2]; rfl) ⟨_, List.take_append_drop _ _⟩)
            go_wp2_with fail
            refine (sIndex14_any _ _ p.vars _ (Rd.new HP.out.vars (by repeat (first | with_reducible exact New.refl _ | with_reducible assumption | with_reducible refine New.drew ?_ | with_reducible refine New.drewN ?_ _ | with_reducible refine New.alloc ?_ _ | with_reducible refine New.setCell ?_ (by first | (simp; done) | (simp; omega) | omega) _ | with_reducible refine New.trans ?_ (by with_reducible assumption))))).mono ?_; rintro e w5 ⟨rfl, rfl⟩
            go_wp2_with fail
            refine (sIndex14_any _ _ p.outputs _ (Rd.new HP.out.outs (by repeat (first | with_reducible exact New.refl _ | with_reducible assumption | with_reducible refine New.drew ?_ | with_reducible refine New.drewN ?_ _ | with_reducible refine New.alloc ?_ _ | with_reducible refine New.setCell ?_ (by first | (simp; done) | (simp; omega) | omega) _ | with_reducible refine New.trans ?_ (by with_reducible assumption))))).mono ?_; rintro e w5 ⟨rfl, rfl⟩
            go_wp2_with fail
            go_ret
            exact ⟨ret_int (faultS_3 h12.out.1 h12.out.2 HA.out).symm, hb0⟩
          · have HA := Lib.hid (show ((targetsP p).take (k + 1)).any (out3 p) = false by rw [HS.out, HO.out, Bool.not_or, ← HM2.out, g2, Bool.and_false])
            go_wp2_with fail
            refine (sIndex14_any _ _ p.vars _ (Rd.new HP.out.vars (by repeat (first | with_reducible exact New.refl _ | with_reducible assumption | with_reducible refine New.drew ?_ | with_reducible refine New.drewN ?_ _ | with_reducible refine New.alloc ?_ _ | with_reducible refine New.setCell ?_ (by first | (simp; done) | (simp; omega) | omega) _ | with_reducible refine New.trans ?_ (by with_reducible assumption))))).mono ?_; rintro e w5 ⟨rfl, rfl⟩
            go_wp2_with fail
            refine (sIndex14_any _ _ p.outputs _ (Rd.new HP.out.outs (by repeat (first | with_reducible exact New.refl _ | with_reducible assumption | with_reducible refine New.drew ?_ | with_reducible refine New.drewN ?_ _ | with_reducible refine New.alloc ?_ _ | with_reducible refine New.setCell ?_ (by first | (simp; done) | (simp; omega) | omega) _ | with_reducible refine New.trans ?_ (by with_reducible assumption))))).mono ?_; rintro e w5 ⟨rfl, rfl⟩
            go_wp2_with (first | ((at_builtin; refine wpList_append_own _ rfl _ _ 24 rfl (w.heap.size + 1) 9 i0 (.string ⟨#[]⟩) 1 16 Tryd.underlying24 hi hz0 hz1 hz2 rfl (by decide) _ _ _ rfl ((hown.alloc _)) ⟨wr.heap.size, 0, none⟩ 1 1 [.string (ps[k].1.target)] rfl rfl (by intro j u hj; match j, hj with | 0, hj => simp at hj; subst hj; first | (simp [Addr.add]; done) | exact alloc_one rfl) (by intro u hu; simp at hu; subst hu; rfl) (by unfold maxLen; omega) (by omega) (by first | (simp; done) | (simp; omega) | omega) ?_; intro va wa howna hgra _)))
            have ba := New.grown (hb.alloc _) hgra (fun q hq => by have := (own_block_lt hown q hq).1; simpa using this)
            go_roundw
            case rel => exact ⟨k + 1, by omega, by go_num, HA, ba, by rw [HTT.out k hlt, List.map_append]; exact howna⟩
            case measure => simp [intOf]; omega
        · have HA := Lib.hid (show ((targetsP p).take (k + 1)).any (out3 p) = false by rw [HS.out, HO.out, Bool.not_or, ← HM1.out, g1, Bool.false_and])
          go_wp2_with fail
          refine (sIndex14_any _ _ p.vars _ (Rd.new HP.out.vars (by repeat (first | with_reducible exact New.refl _ | with_reducible assumption | with_reducible refine New.drew ?_ | with_reducible refine New.drewN ?_ _ | with_reducible refine New.alloc ?_ _ | with_reducible refine New.setCell ?_ (by first | (simp; done) | (simp; omega) | omega) _ | with_reducible refine New.trans ?_ (by with_reducible assumption))))).mono ?_; rintro e w5 ⟨rfl, rfl⟩
          go_wp2_with (first | ((at_builtin; refine wpList_append_own _ rfl _ _ 24 rfl (w.heap.size + 1) 9 i0 (.string ⟨#[]⟩) 1 16 Tryd.underlying24 hi hz0 hz1 hz2 rfl (by decide) _ _ _ rfl ((hown.alloc _)) ⟨wr.heap.size, 0, none⟩ 1 1 [.string (ps[k].1.target)] rfl rfl (by intro j u hj; match j, hj with | 0, hj => simp at hj; subst hj; first | (simp [Addr.add]; done) | exact alloc_one rfl) (by intro u hu; simp at hu; subst hu; rfl) (by unfold maxLen; omega) (by omega) (by first | (simp; done) | (simp; omega) | omega) ?_; intro va wa howna hgra _)))
          have ba := New.grown (hb.alloc _) hgra (fun q hq => by have := (own_block_lt hown q hq).1; simpa using this)
          go_roundw
          case rel => exact ⟨k + 1, by omega, by go_num, HA, ba, by rw [HTT.out k hlt, List.map_append]; exact howna⟩
          case measure => simp [intOf]; omega
      · obtain rfl : k = ps.length := by omega
        have HTE := Lib.hid (show (targetsP p).take ps.length = targetsP p by rw [← HPL.out, ← HTL.out, List.take_length])
        have H3 := Lib.hid (show (targetsP p).any (out3 p) = false by have := hpre.out; rwa [HTE.out] at this)
        have HOW := Lib.hid (show RdS wr _ (targetsP p) by rw [RdS, HTL.out, HPL.out]; have := own_rd hown; rwa [HTE.out] at this)
        obtain ⟨ta, tc, rfl⟩ := own_slice hown
        clear hown
        have hww : w.heap.size < wr.heap.size := by omega
        rcases Bool.eq_false_or_eq_true (twB (targetsP p)) with h4 | h4
        · go_wp2_with fail
          refine (sTwice_any _ (targetsP p) _ HOW.out).mono ?_; rintro e w6 ⟨rfl, b6⟩
          try with_reducible replace b6 := New.undrawN b6
          try with_reducible replace b6 := New.undraw b6
          obtain ⟨c6, f6⟩ := b6.rules
          have z6 := b6.size
          try simp only [World.size_alloc, World.size_drew, World.heap_drewN, World.size_setCell] at z6
          have z6_0 : w.heap.size < w6.heap.size := by omega
          go_wp2_with fail
          go_ret
          exact ⟨ret_int (faultS_4 h12.out.1 h12.out.2 H3.out h4).symm, hb0.trans b6⟩
        go_wp2_with fail
        refine (sTwice_any _ (targetsP p) _ HOW.out).mono ?_; rintro e w6 ⟨rfl, b6⟩
        try with_reducible replace b6 := New.undrawN b6
        try with_reducible replace b6 := New.undraw b6
        obtain ⟨c6, f6⟩ := b6.rules
        have z6 := b6.size
        try simp only [World.size_alloc, World.size_drew, World.heap_drewN, World.size_setCell] at z6
        have z6_0 : w.heap.size < w6.heap.size := by omega
        go_wp2_with fail
        · have h5 : ps.length < p.vars.length + p.outputs.length := by omega
          go_ret
          exact ⟨ret_int (faultS_5 h12.out.1 h12.out.2 H3.out h4 (by rw [HTL.out, HPL.out]; exact h5)).symm, hb0.trans b6⟩
        have H5 := Lib.hid (show ¬ (targetsP p).length < p.vars.length + p.outputs.length by rw [HTL.out, HPL.out]; omega)
        have H4 := Lib.hid h4; clear h4
        have hb6 := hb.trans b6
        go_loopw [6] (fun i wr1 => ∃ k : Nat, k ≤ ps.length ∧ i = .int .i64 k ∧ Hid ((p.lines.take k).any (unkL p) = false) ∧ New (w.alloc (.cells #[.string p.name, .slice ia p.inputs.length ic, .slice ja p.vars.length jc, .slice oa p.outputs.length oc, .string p.guard, .slice la ps.length lc] 27)) wr1) (fun i _ => ps.length - (intOf i).toNat)
        case atStart => exact ⟨0, Nat.zero_le _, rfl, rfl, hb6⟩
        case round =>
          rename World => wr1
          obtain ⟨k, hk, rfl, hpre2, hd⟩ := hrel
          clear c6 f6 b6 hb6 cc f' hb hb0 hbz z6
          obtain ⟨cc, f'⟩ := hd.rules
          have hbz := hd.size
          simp only [World.size_alloc] at hbz
          have hd0 : New w wr1 := ((New.refl w).alloc _).trans hd
          by_cases hlt : k < ps.length
          · obtain ⟨b, off, rfl, hbl, hx⟩ := HC.out k hlt
            replace hx := Lib.hid hx
            have hbw : b < wr1.heap.size := by omega
            have hbw1 : b < w.heap.size + 1 := by omega
            have hww1 : w.heap.size < wr1.heap.size := by omega
            obtain ⟨ea, ec, hev, hem, HE⟩ := Rd.flat encTerm_len (by omega) (HT.out ps[k] (List.getElem_mem hlt))
            have hfl : ps[k].1.terms.length ≤ 1048576 := (HF.out.lines ps[k].1 (by rw [← HPS.out]; exact List.mem_map_of_mem (List.getElem_mem hlt))).2.2
            rw [show encLV ps[k] = [.string ps[k].1.target, ps[k].2] from rfl, hev] at hx
            have x1 : w.cell? ⟨b, off + k * 2 + 1, none⟩ = some (.slice ea ps[k].1.terms.length ec) := hx.out 1 _ (by omega) rfl
            have HL := Lib.hid (show p.lines[k]'(by rw [HPL.out]; exact hlt) = ps[k].1 by simp [← HPS.out])
            have HTK := Lib.hid (show (p.lines.take (k + 1)).any (unkL p) = ((p.lines.take k).any (unkL p) || unkL p ps[k].1) by rw [List.take_succ_eq_append_getElem (by rw [HPL.out]; exact hlt), any_snoc, HL.out])
            clear hev
            generalize ps[k].1 = X at *
            go_wp2_with fail
            go_loopw [7] (fun i wr2 => ∃ j : Nat, j ≤ X.terms.length ∧ i = .int .i64 j ∧ Hid ((X.terms.take j).any (unkT p) = false) ∧ New wr1 wr2) (fun i _ => X.terms.length - (intOf i).toNat)
            case atStart => exact ⟨0, Nat.zero_le _, rfl, rfl, New.refl _⟩
            case round =>
              rename World => wr2
              obtain ⟨j, hj, rfl, hpre3, he2⟩ := hrel
              obtain ⟨c3, f3⟩ := he2.rules
              have hz2 := he2.size
              have he0 : New w wr2 := hd0.trans he2
              by_cases hlj : j < X.terms.length
              · obtain ⟨b', off', rfl, hbl', hy⟩ := HE.out j hlj
                have y0 := hy 0 _ (by omega) rfl
                have y1 := hy 1 _ (by omega) rfl
                have y2 := hy 2 _ (by omega) rfl
                rw [Nat.add_zero] at y0
                replace hy := Lib.hid hy
                have hbw2 : b' < wr2.heap.size := by omega
                have hbw3 : b' < wr1.heap.size := by omega
                have hbw4 : b' < w.heap.size + 1 := by omega
                have hbw5 : b < wr2.heap.size := by omega
                have hww2 : w.heap.size < wr2.heap.size := by omega
                have hww3 : w.heap.size < wr2.heap.size + 1 := by omega
                have HTJ := Lib.hid (show (X.terms.take (j + 1)).any (unkT p) = unkT p X.terms[j] by rw [List.take_succ_eq_append_getElem hlj, any_snoc, hpre3.out, Bool.false_or])
                by_cases hk : X.terms[j].kind = 1
                · have hk' : (X.terms[j].kind == 1) = true := by simp [hk]
                  have HU := Lib.hid (show unkT p X.terms[j] = !readB p X.terms[j].name by rw [unkT, hk]; simp)
                  clear hk
                  rcases Bool.eq_false_or_eq_true (readB p X.terms[j].name) with g1 | g1
                  · have HA := Lib.hid (show (X.terms.take (j + 1)).any (unkT p) = false by rw [HTJ.out, HU.out, g1]; rfl)
                    go_wp2_with fail
                    refine (sRead_any p _ _ _ _ X.terms[j].name _ (HP.out.new (by repeat (first | with_reducible exact New.refl _ | with_reducible assumption | with_reducible refine New.drew ?_ | with_reducible refine New.drewN ?_ _ | with_reducible refine New.alloc ?_ _ | with_reducible refine New.setCell ?_ (by first | (simp; done) | (simp; omega) | omega) _ | with_reducible refine New.trans ?_ (by with_reducible assumption))))).mono ?_; rintro e w9 ⟨rfl, b9⟩
                    try with_reducible replace b9 := New.undrawN b9
                    try with_reducible replace b9 := New.undraw b9
                    obtain ⟨c9, f9⟩ := b9.rules
                    have z9 := b9.size
                    try simp only [World.size_alloc, World.size_drew, World.heap_drewN, World.size_setCell] at z9
                    have z9_0 : w.heap.size < w9.heap.size := by omega
                    go_wp2_with fail
                    go_roundw
                    case rel => exact ⟨j + 1, by omega, by go_num, HA, (by repeat (first | with_reducible exact New.refl _ | with_reducible assumption | with_reducible refine New.drew ?_ | with_reducible refine New.drewN ?_ _ | with_reducible refine New.alloc ?_ _ | with_reducible refine New.setCell ?_ (by first | (simp; done) | (simp; omega) | omega) _ | with_reducible refine New.trans ?_ (by with_reducible assumption)))⟩
                    case measure => simp [intOf]; omega
                  · have HA := Lib.hid (show p.lines.any (unkL p) = true from any_prefix (xs := p.lines.take (k + 1)) (by rw [HTK.out, show unkL p X = true from any_prefix (xs := X.terms.take (j + 1)) (by rw [HTJ.out, HU.out, g1]; rfl) ⟨_, List.take_append_drop _ _⟩, Bool.or_true]) ⟨_, List.take_append_drop _ _⟩)
                    go_wp2_with fail
                    refine (sRead_any p _ _ _ _ X.terms[j].name _ (HP.out.new (by repeat (first | with_reducible exact New.refl _ | with_reducible assumption | with_reducible refine New.drew ?_ | with_reducible refine New.drewN ?_ _ | with_reducible refine New.alloc ?_ _ | with_reducible refine New.setCell ?_ (by first | (simp; done) | (simp; omega) | omega) _ | with_reducible refine New.trans ?_ (by with_reducible assumption))))).mono ?_; rintro e w9 ⟨rfl, b9⟩
                    try with_reducible replace b9 := New.undrawN b9
                    try with_reducible replace b9 := New.undraw b9
                    obtain ⟨c9, f9⟩ := b9.rules
                    have z9 := b9.size
                    try simp only [World.size_alloc, World.size_drew, World.heap_drewN, World.size_setCell] at z9
                    have z9_0 : w.heap.size < w9.heap.size := by omega
                    go_wp2_with fail
                    go_ret
                    exact ⟨ret_int (faultS_6 h12.out.1 h12.out.2 H3.out H4.out H5.out HA.out).symm, (by repeat (first | with_reducible exact New.refl _ | with_reducible assumption | with_reducible refine New.drew ?_ | with_reducible refine New.drewN ?_ _ | with_reducible refine New.alloc ?_ _ | with_reducible refine New.setCell ?_ (by first | (simp; done) | (simp; omega) | omega) _ | with_reducible refine New.trans ?_ (by with_reducible assumption)))⟩
                · have hk' : (X.terms[j].kind == 1) = false := by simp [hk]
                  have HA := Lib.hid (show (X.terms.take (j + 1)).any (unkT p) = false by rw [HTJ.out, unkT]; simp [hk])
                  clear hk
                  go_wp2_with fail
                  go_roundw
                  case rel => exact ⟨j + 1, by omega, by go_num, HA, (by repeat (first | with_reducible exact New.refl _ | with_reducible assumption | with_reducible refine New.drew ?_ | with_reducible refine New.drewN ?_ _ | with_reducible refine New.alloc ?_ _ | with_reducible refine New.setCell ?_ (by first | (simp; done) | (simp; omega) | omega) _ | with_reducible refine New.trans ?_ (by with_reducible assumption)))⟩
                  case measure => simp [intOf]; omega
              · obtain rfl : j = X.terms.length := by omega
                have HA := Lib.hid (show (p.lines.take (k + 1)).any (unkL p) = false by rw [HTK.out, hpre2.out, Bool.false_or, unkL]; have := hpre3.out; rwa [List.take_length] at this)
                go_wp2_with fail
                go_roundw
                case rel => exact ⟨k + 1, by omega, by go_num, HA, hd.trans he2⟩
                case measure => simp [intOf]; omega
          · obtain rfl : k = ps.length := by omega
            have H6 := Lib.hid (show p.lines.any (unkL p) = false by have := hpre2.out; rw [← HPL.out, List.take_length] at this; exact this)
            go_wp2_with fail
            go_ret
            exact ⟨ret_int (faultS_0 h12.out.1 h12.out.2 H3.out H4.out H5.out H6.out).symm, hd0⟩
  · rcases Bool.eq_false_or_eq_true (readB p p.guard) with hr | hr
    · have h2 : bad2 p = false := by rw [bad2, he, hr]; rfl
      go_enter Tryd.func54, Tryd.ntmps54
      go_wp2_with fail
      refine (sAll_any p _ _ _ _ _ (HP.out.new (by repeat (first | with_reducible exact New.refl _ | with_reducible assumption | with_reducible refine New.drew ?_ | with_reducible refine New.drewN ?_ _ | with_reducible refine New.alloc ?_ _ | with_reducible refine New.setCell ?_ (by first | (simp; done) | (simp; omega) | omega) _ | with_reducible refine New.trans ?_ (by with_reducible assumption)))) HF.out).mono ?_; rintro e w1 ⟨r1, rfl, b1, own1⟩
      obtain ⟨c1, f1⟩ := b1.rules
      have z1 := b1.size
      try simp only [World.size_alloc, World.size_drew, World.heap_drewN, World.size_setCell] at z1
      have z1_0 : w.heap.size < w1.heap.size := by omega
      go_wp2_with fail
      refine (sTwice_any _ (allP p) _ (own_rd own1)).mono ?_; rintro e w2 ⟨rfl, b2⟩
      try with_reducible replace b2 := New.undrawN b2
      try with_reducible replace b2 := New.undraw b2
      obtain ⟨c2, f2⟩ := b2.rules
      have z2 := b2.size
      try simp only [World.size_alloc, World.size_drew, World.heap_drewN, World.size_setCell] at z2
      have z2_0 : w.heap.size < w2.heap.size := by omega
      go_wp2_with fail
      refine (sRead_any p _ _ _ _ p.guard _ (HP.out.new (by repeat (first | with_reducible exact New.refl _ | with_reducible assumption | with_reducible refine New.drew ?_ | with_reducible refine New.drewN ?_ _ | with_reducible refine New.alloc ?_ _ | with_reducible refine New.setCell ?_ (by first | (simp; done) | (simp; omega) | omega) _ | with_reducible refine New.trans ?_ (by with_reducible assumption))))).mono ?_; rintro e w3 ⟨rfl, b3⟩
      try with_reducible replace b3 := New.undrawN b3
      try with_reducible replace b3 := New.undraw b3
      obtain ⟨c3, f3⟩ := b3.rules
      have z3 := b3.size
      try simp only [World.size_alloc, World.size_drew, World.heap_drewN, World.size_setCell] at z3
      have z3_0 : w.heap.size < w3.heap.size := by omega
      go_wp2_with fail
      have h12 := Lib.hid (And.intro h1 h2)
      go_loopw [3, 4] (fun t i wr => ∃ k : Nat, k ≤ ps.length ∧ i = .int .i64 k ∧ Hid (((targetsP p).take k).any (out3 p) = false) ∧ New (w.alloc (.cells #[.string p.name, .slice ia p.inputs.length ic, .slice ja p.vars.length jc, .slice oa p.outputs.length oc, .string p.guard, .slice la ps.length lc] 27)) wr ∧ wr.ownsRow (w.heap.size + 1) 9 1 t k (((targetsP p).take k).map Value.string)) (fun _ i _ => ps.length - (intOf i).toNat)
      case atStart => exact ⟨0, Nat.zero_le _, rfl, rfl, (by repeat (first | with_reducible exact New.refl _ | with_reducible assumption | with_reducible refine New.drew ?_ | with_reducible refine New.drewN ?_ _ | with_reducible refine New.alloc ?_ _ | with_reducible refine New.setCell ?_ (by first | (simp; done) | (simp; omega) | omega) _ | with_reducible refine New.trans ?_ (by with_reducible assumption))), own_empty (by omega)⟩
      case round =>
        obtain ⟨k, hk, rfl, hpre, hb, hown⟩ := hrel
        clear c1 f1 c2 f2 b1 b2
        try clear c3 f3 b3
        obtain ⟨cc, f'⟩ := hb.rules
        have hbz := hb.size
        simp only [World.size_alloc] at hbz
        have hb0 : New w wr := ((New.refl w).alloc _).trans hb
        by_cases hlt : k < ps.length
        · obtain ⟨b, off, rfl, hbl, hx⟩ := HC.out k hlt
          have x0 := hx 0 _ (by omega) rfl
          have x1 := hx 1 _ (by omega) rfl
          rw [Nat.add_zero] at x0
          replace hx := Lib.hid hx
          have hbw : b < wr.heap.size := by omega
          have hbw1 : b < w.heap.size + 1 := by omega
          have hww : w.heap.size < wr.heap.size := by omega
          have HM1 := Lib.hid (idx_memN ps[k].1.target p.vars)
          have HM2 := Lib.hid (idx_memN ps[k].1.target p.outputs)
          have HO := Lib.hid (show out3 p ps[k].1.target = !(memS p.vars ps[k].1.target || memS p.outputs ps[k].1.target) by rw [out3, madeP, memS_append])
          have HS := Lib.hid (show ((targetsP p).take (k + 1)).any (out3 p) = out3 p ps[k].1.target by rw [HTT.out k hlt, any_snoc, hpre.out]; rfl)
          rcases Bool.eq_false_or_eq_true (decide (idx (fun y => ps[k].1.target.toList == y.toList) p.vars < 0)) with g1 | g1
          · rcases Bool.eq_false_or_eq_true (decide (idx (fun y => ps[k].1.target.toList == y.toList) p.outputs < 0)) with g2 | g2
            · have HA := Lib.hid (show (targetsP p).any (out3 p) = true from any_prefix (xs := (targetsP p).take (k + 1)) (by rw [HS.out, HO.out, Bool.not_or, ← HM1.out, ← HM2.out, g1, g2]; rfl) ⟨_, List.take_append_drop _ _⟩)
              go_wp2_with fail
              refine (sIndex14_any _ _ p.vars _ (Rd.new HP.out.vars (by repeat (first | with_reducible exact New.refl _ | with_reducible assumption | with_reducible refine New.drew ?_ | with_reducible refine New.drewN ?_ _ | with_reducible refine New.alloc ?_ _ | with_reducible refine New.setCell ?_ (by first | (simp; done) | (simp; omega) | omega) _ | with_reducible refine New.trans ?_ (by with_reducible assumption))))).mono ?_; rintro e w5 ⟨rfl, rfl⟩
              go_wp2_with fail
              refine (sIndex14_any _ _ p.outputs _ (Rd.new HP.out.outs (by repeat (first | with_reducible exact New.refl _ | with_reducible assumption | with_reducible refine New.drew ?_ | with_reducible refine New.drewN ?_ _ | with_reducible refine New.alloc ?_ _ | with_reducible refine New.setCell ?_ (by first | (simp; done) | (simp; omega) | omega) _ | with_reducible refine New.trans ?_ (by with_reducible assumption))))).mono ?_; rintro e w5 ⟨rfl, rfl⟩
              go_wp2_with fail
              go_ret
              exact ⟨ret_int (faultS_3 h12.out.1 h12.out.2 HA.out).symm, hb0⟩
            · have HA := Lib.hid (show ((targetsP p).take (k + 1)).any (out3 p) = false by rw [HS.out, HO.out, Bool.not_or, ← HM2.out, g2, Bool.and_false])
              go_wp2_with fail
              refine (sIndex14_any _ _ p.vars _ (Rd.new HP.out.vars (by repeat (first | with_reducible exact New.refl _ | with_reducible assumption | with_reducible refine New.drew ?_ | with_reducible refine New.drewN ?_ _ | with_reducible refine New.alloc ?_ _ | with_reducible refine New.setCell ?_ (by first | (simp; done) | (simp; omega) | omega) _ | with_reducible refine New.trans ?_ (by with_reducible assumption))))).mono ?_; rintro e w5 ⟨rfl, rfl⟩
              go_wp2_with fail
              refine (sIndex14_any _ _ p.outputs _ (Rd.new HP.out.outs (by repeat (first | with_reducible exact New.refl _ | with_reducible assumption | with_reducible refine New.drew ?_ | with_reducible refine New.drewN ?_ _ | with_reducible refine New.alloc ?_ _ | with_reducible refine New.setCell ?_ (by first | (simp; done) | (simp; omega) | omega) _ | with_reducible refine New.trans ?_ (by with_reducible assumption))))).mono ?_; rintro e w5 ⟨rfl, rfl⟩
              go_wp2_with (first | ((at_builtin; refine wpList_append_own _ rfl _ _ 24 rfl (w.heap.size + 1) 9 i0 (.string ⟨#[]⟩) 1 16 Tryd.underlying24 hi hz0 hz1 hz2 rfl (by decide) _ _ _ rfl ((hown.alloc _)) ⟨wr.heap.size, 0, none⟩ 1 1 [.string (ps[k].1.target)] rfl rfl (by intro j u hj; match j, hj with | 0, hj => simp at hj; subst hj; first | (simp [Addr.add]; done) | exact alloc_one rfl) (by intro u hu; simp at hu; subst hu; rfl) (by unfold maxLen; omega) (by omega) (by first | (simp; done) | (simp; omega) | omega) ?_; intro va wa howna hgra _)))
              have ba := New.grown (hb.alloc _) hgra (fun q hq => by have := (own_block_lt hown q hq).1; simpa using this)
              go_roundw
              case rel => exact ⟨k + 1, by omega, by go_num, HA, ba, by rw [HTT.out k hlt, List.map_append]; exact howna⟩
              case measure => simp [intOf]; omega
          · have HA := Lib.hid (show ((targetsP p).take (k + 1)).any (out3 p) = false by rw [HS.out, HO.out, Bool.not_or, ← HM1.out, g1, Bool.false_and])
            go_wp2_with fail
            refine (sIndex14_any _ _ p.vars _ (Rd.new HP.out.vars (by repeat (first | with_reducible exact New.refl _ | with_reducible assumption | with_reducible refine New.drew ?_ | with_reducible refine New.drewN ?_ _ | with_reducible refine New.alloc ?_ _ | with_reducible refine New.setCell ?_ (by first | (simp; done) | (simp; omega) | omega) _ | with_reducible refine New.trans ?_ (by with_reducible assumption))))).mono ?_; rintro e w5 ⟨rfl, rfl⟩
            go_wp2_with (first | ((at_builtin; refine wpList_append_own _ rfl _ _ 24 rfl (w.heap.size + 1) 9 i0 (.string ⟨#[]⟩) 1 16 Tryd.underlying24 hi hz0 hz1 hz2 rfl (by decide) _ _ _ rfl ((hown.alloc _)) ⟨wr.heap.size, 0, none⟩ 1 1 [.string (ps[k].1.target)] rfl rfl (by intro j u hj; match j, hj with | 0, hj => simp at hj; subst hj; first | (simp [Addr.add]; done) | exact alloc_one rfl) (by intro u hu; simp at hu; subst hu; rfl) (by unfold maxLen; omega) (by omega) (by first | (simp; done) | (simp; omega) | omega) ?_; intro va wa howna hgra _)))
            have ba := New.grown (hb.alloc _) hgra (fun q hq => by have := (own_block_lt hown q hq).1; simpa using this)
            go_roundw
            case rel => exact ⟨k + 1, by omega, by go_num, HA, ba, by rw [HTT.out k hlt, List.map_append]; exact howna⟩
            case measure => simp [intOf]; omega
        · obtain rfl : k = ps.length := by omega
          have HTE := Lib.hid (show (targetsP p).take ps.length = targetsP p by rw [← HPL.out, ← HTL.out, List.take_length])
          have H3 := Lib.hid (show (targetsP p).any (out3 p) = false by have := hpre.out; rwa [HTE.out] at this)
          have HOW := Lib.hid (show RdS wr _ (targetsP p) by rw [RdS, HTL.out, HPL.out]; have := own_rd hown; rwa [HTE.out] at this)
          obtain ⟨ta, tc, rfl⟩ := own_slice hown
          clear hown
          have hww : w.heap.size < wr.heap.size := by omega
          rcases Bool.eq_false_or_eq_true (twB (targetsP p)) with h4 | h4
          · go_wp2_with fail
            refine (sTwice_any _ (targetsP p) _ HOW.out).mono ?_; rintro e w6 ⟨rfl, b6⟩
            try with_reducible replace b6 := New.undrawN b6
            try with_reducible replace b6 := New.undraw b6
            obtain ⟨c6, f6⟩ := b6.rules
            have z6 := b6.size
            try simp only [World.size_alloc, World.size_drew, World.heap_drewN, World.size_setCell] at z6
            have z6_0 : w.heap.size < w6.heap.size := by omega
            go_wp2_with fail
            go_ret
            exact ⟨ret_int (faultS_4 h12.out.1 h12.out.2 H3.out h4).symm, hb0.trans b6⟩
          go_wp2_with fail
          refine (sTwice_any _ (targetsP p) _ HOW.out).mono ?_; rintro e w6 ⟨rfl, b6⟩
          try with_reducible replace b6 := New.undrawN b6
          try with_reducible replace b6 := New.undraw b6
          obtain ⟨c6, f6⟩ := b6.rules
          have z6 := b6.size
          try simp only [World.size_alloc, World.size_drew, World.heap_drewN, World.size_setCell] at z6
          have z6_0 : w.heap.size < w6.heap.size := by omega
          go_wp2_with fail
          · have h5 : ps.length < p.vars.length + p.outputs.length := by omega
            go_ret
            exact ⟨ret_int (faultS_5 h12.out.1 h12.out.2 H3.out h4 (by rw [HTL.out, HPL.out]; exact h5)).symm, hb0.trans b6⟩
          have H5 := Lib.hid (show ¬ (targetsP p).length < p.vars.length + p.outputs.length by rw [HTL.out, HPL.out]; omega)
          have H4 := Lib.hid h4; clear h4
          have hb6 := hb.trans b6
          go_loopw [6] (fun i wr1 => ∃ k : Nat, k ≤ ps.length ∧ i = .int .i64 k ∧ Hid ((p.lines.take k).any (unkL p) = false) ∧ New (w.alloc (.cells #[.string p.name, .slice ia p.inputs.length ic, .slice ja p.vars.length jc, .slice oa p.outputs.length oc, .string p.guard, .slice la ps.length lc] 27)) wr1) (fun i _ => ps.length - (intOf i).toNat)
          case atStart => exact ⟨0, Nat.zero_le _, rfl, rfl, hb6⟩
          case round =>
            rename World => wr1
            obtain ⟨k, hk, rfl, hpre2, hd⟩ := hrel
            clear c6 f6 b6 hb6 cc f' hb hb0 hbz z6
            obtain ⟨cc, f'⟩ := hd.rules
            have hbz := hd.size
            simp only [World.size_alloc] at hbz
            have hd0 : New w wr1 := ((New.refl w).alloc _).trans hd
            by_cases hlt : k < ps.length
            · obtain ⟨b, off, rfl, hbl, hx⟩ := HC.out k hlt
              replace hx := Lib.hid hx
              have hbw : b < wr1.heap.size := by omega
              have hbw1 : b < w.heap.size + 1 := by omega
              have hww1 : w.heap.size < wr1.heap.size := by omega
              obtain ⟨ea, ec, hev, hem, HE⟩ := Rd.flat encTerm_len (by omega) (HT.out ps[k] (List.getElem_mem hlt))
              have hfl : ps[k].1.terms.length ≤ 1048576 := (HF.out.lines ps[k].1 (by rw [← HPS.out]; exact List.mem_map_of_mem (List.getElem_mem hlt))).2.2
              rw [show encLV ps[k] = [.string ps[k].1.target, ps[k].2] from rfl, hev] at hx
              have x1 : w.cell? ⟨b, off + k * 2 + 1, none⟩ = some (.slice ea ps[k].1.terms.length ec) := hx.out 1 _ (by omega) rfl
              have HL := Lib.hid (show p.lines[k]'(by rw [HPL.out]; exact hlt) = ps[k].1 by simp [← HPS.out])
              have HTK := Lib.hid (show (p.lines.take (k + 1)).any (unkL p) = ((p.lines.take k).any (unkL p) || unkL p ps[k].1) by rw [List.take_succ_eq_append_getElem (by rw [HPL.out]; exact hlt), any_snoc, HL.out])
              clear hev
              generalize ps[k].1 = X at *
              go_wp2_with fail
              go_loopw [7] (fun i wr2 => ∃ j : Nat, j ≤ X.terms.length ∧ i = .int .i64 j ∧ Hid ((X.terms.take j).any (unkT p) = false) ∧ New wr1 wr2) (fun i _ => X.terms.length - (intOf i).toNat)
              case atStart => exact ⟨0, Nat.zero_le _, rfl, rfl, New.refl _⟩
              case round =>
                rename World => wr2
                obtain ⟨j, hj, rfl, hpre3, he2⟩ := hrel
                obtain ⟨c3, f3⟩ := he2.rules
                have hz2 := he2.size
                have he0 : New w wr2 := hd0.trans he2
                by_cases hlj : j < X.terms.length
                · obtain ⟨b', off', rfl, hbl', hy⟩ := HE.out j hlj
                  have y0 := hy 0 _ (by omega) rfl
                  have y1 := hy 1 _ (by omega) rfl
                  have y2 := hy 2 _ (by omega) rfl
                  rw [Nat.add_zero] at y0
                  replace hy := Lib.hid hy
                  have hbw2 : b' < wr2.heap.size := by omega
                  have hbw3 : b' < wr1.heap.size := by omega
                  have hbw4 : b' < w.heap.size + 1 := by omega
                  have hbw5 : b < wr2.heap.size := by omega
                  have hww2 : w.heap.size < wr2.heap.size := by omega
                  have hww3 : w.heap.size < wr2.heap.size + 1 := by omega
                  have HTJ := Lib.hid (show (X.terms.take (j + 1)).any (unkT p) = unkT p X.terms[j] by rw [List.take_succ_eq_append_getElem hlj, any_snoc, hpre3.out, Bool.false_or])
                  by_cases hk : X.terms[j].kind = 1
                  · have hk' : (X.terms[j].kind == 1) = true := by simp [hk]
                    have HU := Lib.hid (show unkT p X.terms[j] = !readB p X.terms[j].name by rw [unkT, hk]; simp)
                    clear hk
                    rcases Bool.eq_false_or_eq_true (readB p X.terms[j].name) with g1 | g1
                    · have HA := Lib.hid (show (X.terms.take (j + 1)).any (unkT p) = false by rw [HTJ.out, HU.out, g1]; rfl)
                      go_wp2_with fail
                      refine (sRead_any p _ _ _ _ X.terms[j].name _ (HP.out.new (by repeat (first | with_reducible exact New.refl _ | with_reducible assumption | with_reducible refine New.drew ?_ | with_reducible refine New.drewN ?_ _ | with_reducible refine New.alloc ?_ _ | with_reducible refine New.setCell ?_ (by first | (simp; done) | (simp; omega) | omega) _ | with_reducible refine New.trans ?_ (by with_reducible assumption))))).mono ?_; rintro e w9 ⟨rfl, b9⟩
                      try with_reducible replace b9 := New.undrawN b9
                      try with_reducible replace b9 := New.undraw b9
                      obtain ⟨c9, f9⟩ := b9.rules
                      have z9 := b9.size
                      try simp only [World.size_alloc, World.size_drew, World.heap_drewN, World.size_setCell] at z9
                      have z9_0 : w.heap.size < w9.heap.size := by omega
                      go_wp2_with fail
                      go_roundw
                      case rel => exact ⟨j + 1, by omega, by go_num, HA, (by repeat (first | with_reducible exact New.refl _ | with_reducible assumption | with_reducible refine New.drew ?_ | with_reducible refine New.drewN ?_ _ | with_reducible refine New.alloc ?_ _ | with_reducible refine New.setCell ?_ (by first | (simp; done) | (simp; omega) | omega) _ | with_reducible refine New.trans ?_ (by with_reducible assumption)))⟩
                      case measure => simp [intOf]; omega
                    · have HA := Lib.hid (show p.lines.any (unkL p) = true from any_prefix (xs := p.lines.take (k + 1)) (by rw [HTK.out, show unkL p X = true from any_prefix (xs := X.terms.take (j + 1)) (by rw [HTJ.out, HU.out, g1]; rfl) ⟨_, List.take_append_drop _ _⟩, Bool.or_true]) ⟨_, List.take_append_drop _ _⟩)
                      go_wp2_with fail
                      refine (sRead_any p _ _ _ _ X.terms[j].name _ (HP.out.new (by repeat (first | with_reducible exact New.refl _ | with_reducible assumption | with_reducible refine New.drew ?_ | with_reducible refine New.drewN ?_ _ | with_reducible refine New.alloc ?_ _ | with_reducible refine New.setCell ?_ (by first | (simp; done) | (simp; omega) | omega) _ | with_reducible refine New.trans ?_ (by with_reducible assumption))))).mono ?_; rintro e w9 ⟨rfl, b9⟩
                      try with_reducible replace b9 := New.undrawN b9
                      try with_reducible replace b9 := New.undraw b9
                      obtain ⟨c9, f9⟩ := b9.rules
                      have z9 := b9.size
                      try simp only [World.size_alloc, World.size_drew, World.heap_drewN, World.size_setCell] at z9
                      have z9_0 : w.heap.size < w9.heap.size := by omega
                      go_wp2_with fail
                      go_ret
                      exact ⟨ret_int (faultS_6 h12.out.1 h12.out.2 H3.out H4.out H5.out HA.out).symm, (by repeat (first | with_reducible exact New.refl _ | with_reducible assumption | with_reducible refine New.drew ?_ | with_reducible refine New.drewN ?_ _ | with_reducible refine New.alloc ?_ _ | with_reducible refine New.setCell ?_ (by first | (simp; done) | (simp; omega) | omega) _ | with_reducible refine New.trans ?_ (by with_reducible assumption)))⟩
                  · have hk' : (X.terms[j].kind == 1) = false := by simp [hk]
                    have HA := Lib.hid (show (X.terms.take (j + 1)).any (unkT p) = false by rw [HTJ.out, unkT]; simp [hk])
                    clear hk
                    go_wp2_with fail
                    go_roundw
                    case rel => exact ⟨j + 1, by omega, by go_num, HA, (by repeat (first | with_reducible exact New.refl _ | with_reducible assumption | with_reducible refine New.drew ?_ | with_reducible refine New.drewN ?_ _ | with_reducible refine New.alloc ?_ _ | with_reducible refine New.setCell ?_ (by first | (simp; done) | (simp; omega) | omega) _ | with_reducible refine New.trans ?_ (by with_reducible assumption)))⟩
                    case measure => simp [intOf]; omega
                · obtain rfl : j = X.terms.length := by omega
                  have HA := Lib.hid (show (p.lines.take (k + 1)).any (unkL p) = false by rw [HTK.out, hpre2.out, Bool.false_or, unkL]; have := hpre3.out; rwa [List.take_length] at this)
                  go_wp2_with fail
                  go_roundw
                  case rel => exact ⟨k + 1, by omega, by go_num, HA, hd.trans he2⟩
                  case measure => simp [intOf]; omega
            · obtain rfl : k = ps.length := by omega
              have H6 := Lib.hid (show p.lines.any (unkL p) = false by have := hpre2.out; rw [← HPL.out, List.take_length] at this; exact this)
              go_wp2_with fail
              go_ret
              exact ⟨ret_int (faultS_0 h12.out.1 h12.out.2 H3.out H4.out H5.out H6.out).symm, hd0⟩
    · have h2 : bad2 p = true := by rw [bad2, he, hr]; rfl
      go_enter Tryd.func54, Tryd.ntmps54
      go_wp2_with fail
      refine (sAll_any p _ _ _ _ _ (HP.out.new (by repeat (first | with_reducible exact New.refl _ | with_reducible assumption | with_reducible refine New.drew ?_ | with_reducible refine New.drewN ?_ _ | with_reducible refine New.alloc ?_ _ | with_reducible refine New.setCell ?_ (by first | (simp; done) | (simp; omega) | omega) _ | with_reducible refine New.trans ?_ (by with_reducible assumption)))) HF.out).mono ?_; rintro e w1 ⟨r1, rfl, b1, own1⟩
      obtain ⟨c1, f1⟩ := b1.rules
      have z1 := b1.size
      try simp only [World.size_alloc, World.size_drew, World.heap_drewN, World.size_setCell] at z1
      have z1_0 : w.heap.size < w1.heap.size := by omega
      go_wp2_with fail
      refine (sTwice_any _ (allP p) _ (own_rd own1)).mono ?_; rintro e w2 ⟨rfl, b2⟩
      try with_reducible replace b2 := New.undrawN b2
      try with_reducible replace b2 := New.undraw b2
      obtain ⟨c2, f2⟩ := b2.rules
      have z2 := b2.size
      try simp only [World.size_alloc, World.size_drew, World.heap_drewN, World.size_setCell] at z2
      have z2_0 : w.heap.size < w2.heap.size := by omega
      go_wp2_with fail
      refine (sRead_any p _ _ _ _ p.guard _ (HP.out.new (by repeat (first | with_reducible exact New.refl _ | with_reducible assumption | with_reducible refine New.drew ?_ | with_reducible refine New.drewN ?_ _ | with_reducible refine New.alloc ?_ _ | with_reducible refine New.setCell ?_ (by first | (simp; done) | (simp; omega) | omega) _ | with_reducible refine New.trans ?_ (by with_reducible assumption))))).mono ?_; rintro e w3 ⟨rfl, b3⟩
      try with_reducible replace b3 := New.undrawN b3
      try with_reducible replace b3 := New.undraw b3
      obtain ⟨c3, f3⟩ := b3.rules
      have z3 := b3.size
      try simp only [World.size_alloc, World.size_drew, World.heap_drewN, World.size_setCell] at z3
      have z3_0 : w.heap.size < w3.heap.size := by omega
      go_wp2_with fail
      go_ret
      exact ⟨ret_int (faultS_2 h1 h2).symm, (by repeat (first | with_reducible exact New.refl _ | with_reducible assumption | with_reducible refine New.drew ?_ | with_reducible refine New.drewN ?_ _ | with_reducible refine New.alloc ?_ _ | with_reducible refine New.setCell ?_ (by first | (simp; done) | (simp; omega) | omega) _ | with_reducible refine New.trans ?_ (by with_reducible assumption)))⟩
end Go.Proofs.YteielmihlfakgaaDoor
/- Contracts: the rules of programs: the program's own function. -/
namespace Go.Proofs.YteielmihlfakgaaDoor
open Go Go.Proofs Go.RowKit
set_option linter.unusedVariables false
set_option linter.unusedSimpArgs false
set_option maxRecDepth 100000
theorem faultI_1 {p : ProgD} (h : twB (allP p) = true) : faultI p = 1 := by rw [faultI, if_pos h]
theorem faultI_2 {p : ProgD} (h : twB (allP p) = false) (h2 : bad2 p = true) : faultI p = 2 := by rw [faultI, if_neg (by simp [h]), if_pos h2]
theorem faultI_3 {p : ProgD} (h : twB (allP p) = false) (h2 : bad2 p = false) (h3 : (targetsP p).any (out3 p) = true) : faultI p = 3 := by
  rw [faultI, if_neg (by simp [h]), if_neg (by simp [h2]), if_pos h3]
theorem faultI_4 {p : ProgD} (h : twB (allP p) = false) (h2 : bad2 p = false) (h3 : (targetsP p).any (out3 p) = false) (h4 : twB (targetsP p) = true) : faultI p = 4 := by
  rw [faultI, if_neg (by simp [h]), if_neg (by simp [h2]), if_neg (by rw [h3]; simp), if_pos h4]
theorem faultI_5 {p : ProgD} (h : twB (allP p) = false) (h2 : bad2 p = false) (h3 : (targetsP p).any (out3 p) = false) (h4 : twB (targetsP p) = false) (h5 : (madeP p).any (fun s => !memS (targetsP p) s) = true) : faultI p = 5 := by
  rw [faultI, if_neg (by simp [h]), if_neg (by simp [h2]), if_neg (by rw [h3]; simp), if_neg (by simp [h4]), if_pos h5]
theorem faultI_6 {p : ProgD} (h : twB (allP p) = false) (h2 : bad2 p = false) (h3 : (targetsP p).any (out3 p) = false) (h4 : twB (targetsP p) = false) (h5 : (madeP p).any (fun s => !memS (targetsP p) s) = false) (h6 : p.lines.any (unkL p) = true) : faultI p = 6 := by
  rw [faultI, if_neg (by simp [h]), if_neg (by simp [h2]), if_neg (by rw [h3]; simp), if_neg (by simp [h4]), if_neg (by rw [h5]; simp), if_pos h6]
theorem faultI_0 {p : ProgD} (h : twB (allP p) = false) (h2 : bad2 p = false) (h3 : (targetsP p).any (out3 p) = false) (h4 : twB (targetsP p) = false) (h5 : (madeP p).any (fun s => !memS (targetsP p) s) = false) (h6 : p.lines.any (unkL p) = false) : faultI p = 0 := by
  rw [faultI, if_neg (by simp [h]), if_neg (by simp [h2]), if_neg (by rw [h3]; simp), if_neg (by simp [h4]), if_neg (by rw [h5]; simp), if_neg (by rw [h6]; simp)]
theorem frozen_past {w : World} {a : Addr} (h : w.heap.size ≤ a.block) : w.frozen? a = false := by unfold World.frozen?; rw [Array.getElem?_eq_none h]
set_option maxHeartbeats 8000000 in
theorem iFault_any (p : ProgD) (iv vv ov lv : Value) (w : World) (hp : RdP w p iv vv ov lv) (hf : FitP p) :
    Calls Tryd.prog 53 #[valP p iv vv ov lv] w fun e w' => e = .returned (.int .i64 (faultS p)) ∧ New w w' := by
  obtain ⟨i0, hi, hz0, hz1, hz2⟩ := info_parts infoStrC
  have HP := Lib.hid hp
  obtain ⟨h1, h2, h3, h4⟩ := hp
  obtain ⟨ia, ic, rfl, _⟩ := id h1
  obtain ⟨ja, jc, rfl, _⟩ := id h2
  obtain ⟨oa, oc, rfl, _⟩ := id h3
  clear h1 h2 h3
  have HLN := Lib.hid h4
  obtain ⟨ps, hps, hl1, hl2⟩ := h4
  obtain ⟨la, lc, rfl, hm, HC⟩ := Rd.flat encLV_len (by omega) hl1
  have HT := Lib.hid hl2; clear hl1 hl2
  have hpl : p.lines.length = ps.length := by rw [← hps, List.length_map]
  have hpm : ps.length ≤ 1048576 := by rw [← hpl]; exact hf.linesl
  have hvm := hf.varsl
  have hom := hf.outsl
  have HTL := Lib.hid (targets_len p)
  have HTT := Lib.hid (fun k hk => targets_take hps k hk)
  have HPL := Lib.hid hpl; clear hpl hps
  have hsz : ∀ xs ∈ [p.vars, p.outputs], xs.length ≤ 1048576 := by
    intro xs hxs
    simp only [List.mem_cons, List.not_mem_nil, or_false] at hxs
    rcases hxs with rfl | rfl
    · exact hf.varsl
    · exact hf.outsl
  have HR := Lib.hid (fun (w' : World) (n : New w w') => show ∀ k (h : k < [Value.slice ja p.vars.length jc, .slice oa p.outputs.length oc].length) (h' : k < [p.vars, p.outputs].length), RdS w' [Value.slice ja p.vars.length jc, .slice oa p.outputs.length oc][k] [p.vars, p.outputs][k] by
    intro k h h'
    rcases k with _ | _ | k
    · exact Rd.new HP.out.vars n
    · exact Rd.new HP.out.outs n
    · simp at h; omega)
  have HE := Lib.hid (show [p.vars, p.outputs].flatten = madeP p by simp [madeP])
  have HS := Lib.hid hsz; clear hsz
  have HF := Lib.hid hf; clear hf
  have zz : w.heap.size < w.heap.size + 1 := by omega
  go_enter Tryd.func53, Tryd.ntmps53
  go_wp2_with fail
  go_loopw [10] (fun i wr => ∃ (k : Nat) (t : Value), k ≤ ps.length ∧ i = .int .i64 k ∧ New (w.alloc (.cells #[.string p.name, .slice ia p.inputs.length ic, .slice ja p.vars.length jc, .slice oa p.outputs.length oc, .string p.guard, .slice la ps.length lc] 27)) wr ∧ w.heap.size + 1 < wr.heap.size ∧ wr.cell? ⟨w.heap.size + 1, 0, none⟩ = some t ∧ wr.frozen? ⟨w.heap.size + 1, 0, none⟩ = false ∧ wr.ownsRow (w.heap.size + 2) 9 1 t k (((targetsP p).take k).map Value.string)) (fun i _ => ps.length - (intOf i).toNat)
  case atStart => exact ⟨0, .slice none 0 0, Nat.zero_le _, rfl, (by repeat (first | with_reducible exact New.refl _ | with_reducible assumption | with_reducible refine New.drew ?_ | with_reducible refine New.drewN ?_ _ | with_reducible refine New.alloc ?_ _ | with_reducible refine New.setCell ?_ (by first | (simp; done) | (simp; omega) | omega) _ | with_reducible refine New.trans ?_ (by with_reducible assumption))), by simp, by simp, by rw [frozen?_alloc_cells, frozen?_alloc_cells]; exact frozen_past (by simp), World.ownsRow_nil _ _ _ _⟩
  case round =>
    obtain ⟨k, t, hk, rfl, hb, hsw, hct, hfz, hown⟩ := hrel
    obtain ⟨cc, f'⟩ := hb.rules
    have hbz := hb.size
    simp only [World.size_alloc] at hbz
    have hb0 : New w wr := ((New.refl w).alloc _).trans hb
    obtain ⟨ta, tc, rfl⟩ := own_slice hown
    by_cases hlt : k < ps.length
    · obtain ⟨b, off, rfl, hbl, hx⟩ := HC.out k hlt
      obtain ⟨ea, ec, hev, _⟩ := HT.out ps[k] (List.getElem_mem hlt)
      rw [show encLV ps[k] = [.string ps[k].1.target, ps[k].2] from rfl, hev] at hx
      have x0 := hx 0 _ (by omega) rfl
      have x1 := hx 1 _ (by omega) rfl
      rw [Nat.add_zero] at x0
      replace hx := Lib.hid hx
      clear hev
      have hbw : b < wr.heap.size := by omega
      have hbw1 : b < w.heap.size + 1 := by omega
      have hww : w.heap.size < wr.heap.size := by omega
      go_wp2_with (first | ((at_builtin; refine wpList_append_own _ rfl _ _ 24 rfl (w.heap.size + 2) 9 i0 (.string ⟨#[]⟩) 1 16 Tryd.underlying24 hi hz0 hz1 hz2 rfl (by decide) _ _ _ rfl (((hown.alloc _).alloc _)) ⟨wr.heap.size + 1, 0, none⟩ 1 1 [.string (ps[k].1.target)] rfl rfl (by intro j u hj; match j, hj with | 0, hj => simp at hj; subst hj; first | (simp [Addr.add]; done) | exact alloc_one rfl) (by intro u hu; simp at hu; subst hu; rfl) (by unfold maxLen; omega) (by omega) (by first | (simp; done) | (simp; omega) | omega) ?_; intro va wa howna hgra _); obtain ⟨xa, xc, rfl⟩ := own_slice howna; have B5 := Below.grown (Below.refl (w.heap.size + 2) _) hgra (by simp; omega) (fun q hq => (own_block_lt hown q hq).1); have k5 : wa.cell? ⟨w.heap.size + 1, 0, none⟩ = some (.slice ta k tc) := ((Below.cell B5 (p := ⟨w.heap.size + 1, 0, none⟩) (by dsimp; omega)).trans ((New.cell (((New.refl wr).alloc _).alloc _) hsw).trans hct)); have k6 : wa.frozen? ⟨w.heap.size + 1, 0, none⟩ = false := ((Below.frozen B5 (p := ⟨w.heap.size + 1, 0, none⟩) (by dsimp; omega)).trans ((New.frozen (((New.refl wr).alloc _).alloc _) hsw).trans hfz))))
      have ba := New.grown ((hb.alloc _).alloc _) hgra (fun q hq => by have := (own_block_lt hown q hq).1; simp; omega)
      have bz := ba.size
      have sz5 := hgra.size
      simp only [World.size_alloc] at bz sz5
      go_roundw
      case rel => exact ⟨k + 1, _, by omega, by go_num, ba.setCell (by simp) _, by simp only [World.size_setCell]; omega, World.cell?_setCell_same _ _ _ k5, (World.frozen?_setCell _ _ _ _).trans k6, ownsRow_setCell_below (by rw [HTT.out k hlt, List.map_append]; exact howna) (by dsimp; omega) _⟩
      case measure => simp [intOf]; omega
    · obtain rfl : k = ps.length := by omega
      have HTE := Lib.hid (show (targetsP p).take ps.length = targetsP p by rw [← HPL.out, ← HTL.out, List.take_length])
      have HOW := Lib.hid (fun w' (n : New wr w') => show RdS w' (.slice ta ps.length tc) (targetsP p) by rw [RdS, HTL.out, HPL.out]; have := (own_rd hown).new n; rwa [HTE.out] at this)
      clear hown
      have hww : w.heap.size < wr.heap.size := by omega
      go_wp2_with fail
      refine (concatS_any _ [.slice ja p.vars.length jc, .slice oa p.outputs.length oc] [p.vars, p.outputs] _ (buildRd3 _ _ (by simp) rfl (by simp)) rfl (HR.out _ (by repeat (first | with_reducible exact New.refl _ | with_reducible assumption | with_reducible refine New.drew ?_ | with_reducible refine New.drewN ?_ _ | with_reducible refine New.alloc ?_ _ | with_reducible refine New.setCell ?_ (by first | (simp; done) | (simp; omega) | omega) _ | with_reducible refine New.trans ?_ (by with_reducible assumption)))) HS.out (by simp)).mono ?_; rintro e w2 ⟨r2, rfl, b2, own2⟩
      rw [HE.out] at own2; obtain ⟨ma, mc, rfl⟩ := own_slice own2
      obtain ⟨c2, f2⟩ := b2.rules
      have z2 := b2.size
      try simp only [World.size_alloc, World.size_drew, World.heap_drewN, World.size_setCell] at z2
      have z2_0 : w.heap.size < w2.heap.size := by omega
      have z2_1 : w.heap.size + 1 < w2.heap.size := by omega
      go_wp2_with fail
      have HMD := Lib.hid (fun w' (n : New w2 w') => show RdS w' (.slice ma (madeP p).length mc) (madeP p) from (own_rd own2).new n)
      have K2' : w2.heap.size < w2.heap.size + 1 := by omega
      rcases Bool.eq_false_or_eq_true (twB (allP p)) with h1 | h1
      · skip
        refine (iNamesAll_any p _ _ _ _ _ (HP.out.new (by repeat (first | with_reducible exact New.refl _ | with_reducible assumption | with_reducible refine New.drew ?_ | with_reducible refine New.drewN ?_ _ | with_reducible refine New.alloc ?_ _ | with_reducible refine New.setCell ?_ (by first | (simp; done) | (simp; omega) | omega) _ | with_reducible refine New.trans ?_ (by with_reducible assumption)))) HF.out).mono ?_; rintro e w3 ⟨r3, rfl, b3, own3⟩
        obtain ⟨c3, f3⟩ := b3.rules
        have z3 := b3.size
        try simp only [World.size_alloc, World.size_drew, World.heap_drewN, World.size_setCell] at z3
        have z3_0 : w.heap.size < w3.heap.size := by omega
        have z3_1 : w.heap.size + 1 < w3.heap.size := by omega
        have z3_2 : w2.heap.size < w3.heap.size := by omega
        go_wp2_with fail
        refine (iTwice_any _ (allP p) _ (own_rd own3)).mono ?_; rintro e w4 ⟨rfl, b4⟩
        try with_reducible replace b4 := New.undrawN b4
        try with_reducible replace b4 := New.undraw b4
        obtain ⟨c4, f4⟩ := b4.rules
        have z4 := b4.size
        try simp only [World.size_alloc, World.size_drew, World.heap_drewN, World.size_setCell] at z4
        have z4_0 : w.heap.size < w4.heap.size := by omega
        have z4_1 : w.heap.size + 1 < w4.heap.size := by omega
        have z4_2 : w2.heap.size < w4.heap.size := by omega
        go_wp2_with fail
        go_ret
        exact ⟨ret_int (by rw [← fault_eq]; exact (faultI_1 h1).symm), (by repeat (first | with_reducible exact New.refl _ | with_reducible assumption | with_reducible refine New.drew ?_ | with_reducible refine New.drewN ?_ _ | with_reducible refine New.alloc ?_ _ | with_reducible refine New.setCell ?_ (by first | (simp; done) | (simp; omega) | omega) _ | with_reducible refine New.trans ?_ (by with_reducible assumption)))⟩
      refine (iNamesAll_any p _ _ _ _ _ (HP.out.new (by repeat (first | with_reducible exact New.refl _ | with_reducible assumption | with_reducible refine New.drew ?_ | with_reducible refine New.drewN ?_ _ | with_reducible refine New.alloc ?_ _ | with_reducible refine New.setCell ?_ (by first | (simp; done) | (simp; omega) | omega) _ | with_reducible refine New.trans ?_ (by with_reducible assumption)))) HF.out).mono ?_; rintro e w3 ⟨r3, rfl, b3, own3⟩
      obtain ⟨c3, f3⟩ := b3.rules
      have z3 := b3.size
      try simp only [World.size_alloc, World.size_drew, World.heap_drewN, World.size_setCell] at z3
      have z3_0 : w.heap.size < w3.heap.size := by omega
      have z3_1 : w.heap.size + 1 < w3.heap.size := by omega
      have z3_2 : w2.heap.size < w3.heap.size := by omega
      go_wp2_with fail
      rcases Bool.eq_false_or_eq_true (p.guard.toList.isEmpty) with he | he
      · have h2 : bad2 p = false := by rw [bad2, he]; rfl
        refine (iTwice_any _ (allP p) _ (own_rd own3)).mono ?_; rintro e w4 ⟨rfl, b4⟩
        try with_reducible replace b4 := New.undrawN b4
        try with_reducible replace b4 := New.undraw b4
        obtain ⟨c4, f4⟩ := b4.rules
        have z4 := b4.size
        try simp only [World.size_alloc, World.size_drew, World.heap_drewN, World.size_setCell] at z4
        have z4_0 : w.heap.size < w4.heap.size := by omega
        have z4_1 : w.heap.size + 1 < w4.heap.size := by omega
        have z4_2 : w2.heap.size < w4.heap.size := by omega
        go_wp2_with fail
        have K1 : w4.cell? ⟨w.heap.size + 1, 0, none⟩ = some (.slice ta ps.length tc) := by simp (disch := first | (simp only [World.size_alloc, World.size_drew, World.size_setCell]; omega) | omega | (simp; done) | (simp; omega)) only [c4, c3, c2, hct, cell_alloc_old, cell_alloc_new, World.cell?_drewN, World.cell?_drew]; first | done | rfl | (simp; done)
        have K2 : w4.cell? ⟨w2.heap.size, 0, none⟩ = some (.slice ma (madeP p).length mc) := by simp (disch := first | (simp only [World.size_alloc, World.size_drew, World.size_setCell]; omega) | omega | (simp; done) | (simp; omega)) only [c4, c3, cell_alloc_old, cell_alloc_new, World.cell?_drewN, World.cell?_drew]; first | done | rfl | (simp; done)
        rcases Bool.eq_false_or_eq_true ((targetsP p).any (out3 p)) with h3 | h3
        · refine (containsFuncS_any 102 #[.pointer (some ⟨w2.heap.size, 0, none⟩)] (out3 p) _ (targetsP p) _ (HOW.out _ (by repeat (first | with_reducible exact New.refl _ | with_reducible assumption | with_reducible refine New.drew ?_ | with_reducible refine New.drewN ?_ _ | with_reducible refine New.alloc ?_ _ | with_reducible refine New.setCell ?_ (by first | (simp; done) | (simp; omega) | omega) _ | with_reducible refine New.trans ?_ (by with_reducible assumption)))) (fun _ _ => rfl) (fun x w1 hx n => iFault1_any x _ (madeP p) w2.heap.size w1 (by have := n.size; omega) (by rw [n.cell z4_2]; exact K2) (HMD.out _ (New.trans (show New w2 _ by exact (by repeat (first | with_reducible exact New.refl _ | with_reducible assumption | with_reducible refine New.drew ?_ | with_reducible refine New.drewN ?_ _ | with_reducible refine New.alloc ?_ _ | with_reducible refine New.setCell ?_ (by first | (simp; done) | (simp; omega) | omega) _ | with_reducible refine New.trans ?_ (by with_reducible assumption)))) n)))).mono ?_; rintro e w5 ⟨rfl, b5⟩
          go_wp2_with fail
          go_ret
          exact ⟨ret_int (by rw [← fault_eq]; exact (faultI_3 h1 h2 h3).symm), (by repeat (first | with_reducible exact New.refl _ | with_reducible assumption | with_reducible refine New.drew ?_ | with_reducible refine New.drewN ?_ _ | with_reducible refine New.alloc ?_ _ | with_reducible refine New.setCell ?_ (by first | (simp; done) | (simp; omega) | omega) _ | with_reducible refine New.trans ?_ (by with_reducible assumption)))⟩
        refine (containsFuncS_any 102 #[.pointer (some ⟨w2.heap.size, 0, none⟩)] (out3 p) _ (targetsP p) _ (HOW.out _ (by repeat (first | with_reducible exact New.refl _ | with_reducible assumption | with_reducible refine New.drew ?_ | with_reducible refine New.drewN ?_ _ | with_reducible refine New.alloc ?_ _ | with_reducible refine New.setCell ?_ (by first | (simp; done) | (simp; omega) | omega) _ | with_reducible refine New.trans ?_ (by with_reducible assumption)))) (fun _ _ => rfl) (fun x w1 hx n => iFault1_any x _ (madeP p) w2.heap.size w1 (by have := n.size; omega) (by rw [n.cell z4_2]; exact K2) (HMD.out _ (New.trans (show New w2 _ by exact (by repeat (first | with_reducible exact New.refl _ | with_reducible assumption | with_reducible refine New.drew ?_ | with_reducible refine New.drewN ?_ _ | with_reducible refine New.alloc ?_ _ | with_reducible refine New.setCell ?_ (by first | (simp; done) | (simp; omega) | omega) _ | with_reducible refine New.trans ?_ (by with_reducible assumption)))) n)))).mono ?_; rintro e w5 ⟨rfl, b5⟩
        obtain ⟨c5, f5⟩ := b5.rules; have z5 := b5.size; have z5_0 : w.heap.size < w5.heap.size := (by omega); have z5_1 : w.heap.size + 1 < w5.heap.size := (by omega); have z5_2 : w2.heap.size < w5.heap.size := (by omega)
        go_wp2_with fail
        rcases Bool.eq_false_or_eq_true (twB (targetsP p)) with h4 | h4
        · skip
          refine (iTwice_any _ (targetsP p) _ (HOW.out _ (by repeat (first | with_reducible exact New.refl _ | with_reducible assumption | with_reducible refine New.drew ?_ | with_reducible refine New.drewN ?_ _ | with_reducible refine New.alloc ?_ _ | with_reducible refine New.setCell ?_ (by first | (simp; done) | (simp; omega) | omega) _ | with_reducible refine New.trans ?_ (by with_reducible assumption))))).mono ?_; rintro e w6 ⟨rfl, b6⟩
          try with_reducible replace b6 := New.undrawN b6
          try with_reducible replace b6 := New.undraw b6
          obtain ⟨c6, f6⟩ := b6.rules
          have z6 := b6.size
          try simp only [World.size_alloc, World.size_drew, World.heap_drewN, World.size_setCell] at z6
          go_wp2_with fail
          go_ret
          exact ⟨ret_int (by rw [← fault_eq]; exact (faultI_4 h1 h2 h3 h4).symm), (by repeat (first | with_reducible exact New.refl _ | with_reducible assumption | with_reducible refine New.drew ?_ | with_reducible refine New.drewN ?_ _ | with_reducible refine New.alloc ?_ _ | with_reducible refine New.setCell ?_ (by first | (simp; done) | (simp; omega) | omega) _ | with_reducible refine New.trans ?_ (by with_reducible assumption)))⟩
        refine (iTwice_any _ (targetsP p) _ (HOW.out _ (by repeat (first | with_reducible exact New.refl _ | with_reducible assumption | with_reducible refine New.drew ?_ | with_reducible refine New.drewN ?_ _ | with_reducible refine New.alloc ?_ _ | with_reducible refine New.setCell ?_ (by first | (simp; done) | (simp; omega) | omega) _ | with_reducible refine New.trans ?_ (by with_reducible assumption))))).mono ?_; rintro e w6 ⟨rfl, b6⟩
        try with_reducible replace b6 := New.undrawN b6
        try with_reducible replace b6 := New.undraw b6
        obtain ⟨c6, f6⟩ := b6.rules
        have z6 := b6.size
        try simp only [World.size_alloc, World.size_drew, World.heap_drewN, World.size_setCell] at z6
        have z6_0 : w.heap.size < w6.heap.size := by omega
        have z6_1 : w.heap.size + 1 < w6.heap.size := by omega
        have z6_2 : w2.heap.size < w6.heap.size := by omega
        go_wp2_with fail
        rcases Bool.eq_false_or_eq_true ((madeP p).any (fun s => !memS (targetsP p) s)) with h5 | h5
        · refine (containsFuncS_any 103 #[.pointer (some ⟨w.heap.size + 1, 0, none⟩)] (fun s => !memS (targetsP p) s) _ (madeP p) _ (HMD.out _ (by repeat (first | with_reducible exact New.refl _ | with_reducible assumption | with_reducible refine New.drew ?_ | with_reducible refine New.drewN ?_ _ | with_reducible refine New.alloc ?_ _ | with_reducible refine New.setCell ?_ (by first | (simp; done) | (simp; omega) | omega) _ | with_reducible refine New.trans ?_ (by with_reducible assumption)))) (fun _ _ => rfl) (fun x w1 hx n => iFault2_any x _ (targetsP p) (w.heap.size + 1) w1 (by have := n.size; omega) (by rw [n.cell z6_1, c6 _ _ z5_1, c5 _ _ z4_1]; exact K1) (HOW.out _ (New.trans (show New wr _ by exact (by repeat (first | with_reducible exact New.refl _ | with_reducible assumption | with_reducible refine New.drew ?_ | with_reducible refine New.drewN ?_ _ | with_reducible refine New.alloc ?_ _ | with_reducible refine New.setCell ?_ (by first | (simp; done) | (simp; omega) | omega) _ | with_reducible refine New.trans ?_ (by with_reducible assumption)))) n)))).mono ?_; rintro e w7 ⟨rfl, b7⟩
          go_wp2_with fail
          go_ret
          exact ⟨ret_int (by rw [← fault_eq]; exact (faultI_5 h1 h2 h3 h4 h5).symm), (by repeat (first | with_reducible exact New.refl _ | with_reducible assumption | with_reducible refine New.drew ?_ | with_reducible refine New.drewN ?_ _ | with_reducible refine New.alloc ?_ _ | with_reducible refine New.setCell ?_ (by first | (simp; done) | (simp; omega) | omega) _ | with_reducible refine New.trans ?_ (by with_reducible assumption)))⟩
        refine (containsFuncS_any 103 #[.pointer (some ⟨w.heap.size + 1, 0, none⟩)] (fun s => !memS (targetsP p) s) _ (madeP p) _ (HMD.out _ (by repeat (first | with_reducible exact New.refl _ | with_reducible assumption | with_reducible refine New.drew ?_ | with_reducible refine New.drewN ?_ _ | with_reducible refine New.alloc ?_ _ | with_reducible refine New.setCell ?_ (by first | (simp; done) | (simp; omega) | omega) _ | with_reducible refine New.trans ?_ (by with_reducible assumption)))) (fun _ _ => rfl) (fun x w1 hx n => iFault2_any x _ (targetsP p) (w.heap.size + 1) w1 (by have := n.size; omega) (by rw [n.cell z6_1, c6 _ _ z5_1, c5 _ _ z4_1]; exact K1) (HOW.out _ (New.trans (show New wr _ by exact (by repeat (first | with_reducible exact New.refl _ | with_reducible assumption | with_reducible refine New.drew ?_ | with_reducible refine New.drewN ?_ _ | with_reducible refine New.alloc ?_ _ | with_reducible refine New.setCell ?_ (by first | (simp; done) | (simp; omega) | omega) _ | with_reducible refine New.trans ?_ (by with_reducible assumption)))) n)))).mono ?_; rintro e w7 ⟨rfl, b7⟩
        obtain ⟨c7, f7⟩ := b7.rules; have z7 := b7.size; have z7_0 : w.heap.size < w7.heap.size := (by omega); have z7_1 : w.heap.size + 1 < w7.heap.size := (by omega); have z7_2 : w2.heap.size < w7.heap.size := (by omega)
        go_wp2_with fail
        rcases Bool.eq_false_or_eq_true (p.lines.any (unkL p)) with h6 | h6
        · refine (containsFuncLnB_any 104 (valP p (.slice ia p.inputs.length ic) (.slice ja p.vars.length jc) (.slice oa p.outputs.length oc) (.slice la ps.length lc)) (unkL p) _ p.lines _ (HLN.out.new (by repeat (first | with_reducible exact New.refl _ | with_reducible assumption | with_reducible refine New.drew ?_ | with_reducible refine New.drewN ?_ _ | with_reducible refine New.alloc ?_ _ | with_reducible refine New.setCell ?_ (by first | (simp; done) | (simp; omega) | omega) _ | with_reducible refine New.trans ?_ (by with_reducible assumption)))) (fun _ _ => rfl) (fun x tv w1 hx n hr => iUnknown_any p _ _ _ _ x tv w1 (HP.out.new (New.trans (show New w _ by exact (by repeat (first | with_reducible exact New.refl _ | with_reducible assumption | with_reducible refine New.drew ?_ | with_reducible refine New.drewN ?_ _ | with_reducible refine New.alloc ?_ _ | with_reducible refine New.setCell ?_ (by first | (simp; done) | (simp; omega) | omega) _ | with_reducible refine New.trans ?_ (by with_reducible assumption)))) n)) hr)).mono ?_; rintro e w8 ⟨rfl, b8⟩
          go_wp2_with fail
          go_ret
          exact ⟨ret_int (by rw [← fault_eq]; exact (faultI_6 h1 h2 h3 h4 h5 h6).symm), (by repeat (first | with_reducible exact New.refl _ | with_reducible assumption | with_reducible refine New.drew ?_ | with_reducible refine New.drewN ?_ _ | with_reducible refine New.alloc ?_ _ | with_reducible refine New.setCell ?_ (by first | (simp; done) | (simp; omega) | omega) _ | with_reducible refine New.trans ?_ (by with_reducible assumption)))⟩
        refine (containsFuncLnB_any 104 (valP p (.slice ia p.inputs.length ic) (.slice ja p.vars.length jc) (.slice oa p.outputs.length oc) (.slice la ps.length lc)) (unkL p) _ p.lines _ (HLN.out.new (by repeat (first | with_reducible exact New.refl _ | with_reducible assumption | with_reducible refine New.drew ?_ | with_reducible refine New.drewN ?_ _ | with_reducible refine New.alloc ?_ _ | with_reducible refine New.setCell ?_ (by first | (simp; done) | (simp; omega) | omega) _ | with_reducible refine New.trans ?_ (by with_reducible assumption)))) (fun _ _ => rfl) (fun x tv w1 hx n hr => iUnknown_any p _ _ _ _ x tv w1 (HP.out.new (New.trans (show New w _ by exact (by repeat (first | with_reducible exact New.refl _ | with_reducible assumption | with_reducible refine New.drew ?_ | with_reducible refine New.drewN ?_ _ | with_reducible refine New.alloc ?_ _ | with_reducible refine New.setCell ?_ (by first | (simp; done) | (simp; omega) | omega) _ | with_reducible refine New.trans ?_ (by with_reducible assumption)))) n)) hr)).mono ?_; rintro e w8 ⟨rfl, b8⟩
        go_wp2_with fail
        go_ret
        exact ⟨ret_int (by rw [← fault_eq]; exact (faultI_0 h1 h2 h3 h4 h5 h6).symm), (by repeat (first | with_reducible exact New.refl _ | with_reducible assumption | with_reducible refine New.drew ?_ | with_reducible refine New.drewN ?_ _ | with_reducible refine New.alloc ?_ _ | with_reducible refine New.setCell ?_ (by first | (simp; done) | (simp; omega) | omega) _ | with_reducible refine New.trans ?_ (by with_reducible assumption)))⟩
      · skip
        refine (iTwice_any _ (allP p) _ (own_rd own3)).mono ?_; rintro e w4 ⟨rfl, b4⟩
        try with_reducible replace b4 := New.undrawN b4
        try with_reducible replace b4 := New.undraw b4
        obtain ⟨c4, f4⟩ := b4.rules
        have z4 := b4.size
        try simp only [World.size_alloc, World.size_drew, World.heap_drewN, World.size_setCell] at z4
        have z4_0 : w.heap.size < w4.heap.size := by omega
        have z4_1 : w.heap.size + 1 < w4.heap.size := by omega
        have z4_2 : w2.heap.size < w4.heap.size := by omega
        go_wp2_with fail
        have K1 : w4.cell? ⟨w.heap.size + 1, 0, none⟩ = some (.slice ta ps.length tc) := by simp (disch := first | (simp only [World.size_alloc, World.size_drew, World.size_setCell]; omega) | omega | (simp; done) | (simp; omega)) only [c4, c3, c2, hct, cell_alloc_old, cell_alloc_new, World.cell?_drewN, World.cell?_drew]; first | done | rfl | (simp; done)
        have K2 : w4.cell? ⟨w2.heap.size, 0, none⟩ = some (.slice ma (madeP p).length mc) := by simp (disch := first | (simp only [World.size_alloc, World.size_drew, World.size_setCell]; omega) | omega | (simp; done) | (simp; omega)) only [c4, c3, cell_alloc_old, cell_alloc_new, World.cell?_drewN, World.cell?_drew]; first | done | rfl | (simp; done)
        rcases Bool.eq_false_or_eq_true (p.inputs.any fun y => p.guard.toList == y.toList) with g1 | g1
        · have h2 : bad2 p = false := by rw [bad2, readB, memS, g1]; simp
          refine (containsS_any p.guard _ p.inputs _ (Rd.new HP.out.ins (by repeat (first | with_reducible exact New.refl _ | with_reducible assumption | with_reducible refine New.drew ?_ | with_reducible refine New.drewN ?_ _ | with_reducible refine New.alloc ?_ _ | with_reducible refine New.setCell ?_ (by first | (simp; done) | (simp; omega) | omega) _ | with_reducible refine New.trans ?_ (by with_reducible assumption))))).mono ?_; rintro e wx ⟨rfl, rfl⟩
          go_wp2_with fail
          rcases Bool.eq_false_or_eq_true ((targetsP p).any (out3 p)) with h3 | h3
          · refine (containsFuncS_any 102 #[.pointer (some ⟨w2.heap.size, 0, none⟩)] (out3 p) _ (targetsP p) _ (HOW.out _ (by repeat (first | with_reducible exact New.refl _ | with_reducible assumption | with_reducible refine New.drew ?_ | with_reducible refine New.drewN ?_ _ | with_reducible refine New.alloc ?_ _ | with_reducible refine New.setCell ?_ (by first | (simp; done) | (simp; omega) | omega) _ | with_reducible refine New.trans ?_ (by with_reducible assumption)))) (fun _ _ => rfl) (fun x w1 hx n => iFault1_any x _ (madeP p) w2.heap.size w1 (by have := n.size; omega) (by rw [n.cell z4_2]; exact K2) (HMD.out _ (New.trans (show New w2 _ by exact (by repeat (first | with_reducible exact New.refl _ | with_reducible assumption | with_reducible refine New.drew ?_ | with_reducible refine New.drewN ?_ _ | with_reducible refine New.alloc ?_ _ | with_reducible refine New.setCell ?_ (by first | (simp; done) | (simp; omega) | omega) _ | with_reducible refine New.trans ?_ (by with_reducible assumption)))) n)))).mono ?_; rintro e w5 ⟨rfl, b5⟩
            go_wp2_with fail
            go_ret
            exact ⟨ret_int (by rw [← fault_eq]; exact (faultI_3 h1 h2 h3).symm), (by repeat (first | with_reducible exact New.refl _ | with_reducible assumption | with_reducible refine New.drew ?_ | with_reducible refine New.drewN ?_ _ | with_reducible refine New.alloc ?_ _ | with_reducible refine New.setCell ?_ (by first | (simp; done) | (simp; omega) | omega) _ | with_reducible refine New.trans ?_ (by with_reducible assumption)))⟩
          refine (containsFuncS_any 102 #[.pointer (some ⟨w2.heap.size, 0, none⟩)] (out3 p) _ (targetsP p) _ (HOW.out _ (by repeat (first | with_reducible exact New.refl _ | with_reducible assumption | with_reducible refine New.drew ?_ | with_reducible refine New.drewN ?_ _ | with_reducible refine New.alloc ?_ _ | with_reducible refine New.setCell ?_ (by first | (simp; done) | (simp; omega) | omega) _ | with_reducible refine New.trans ?_ (by with_reducible assumption)))) (fun _ _ => rfl) (fun x w1 hx n => iFault1_any x _ (madeP p) w2.heap.size w1 (by have := n.size; omega) (by rw [n.cell z4_2]; exact K2) (HMD.out _ (New.trans (show New w2 _ by exact (by repeat (first | with_reducible exact New.refl _ | with_reducible assumption | with_reducible refine New.drew ?_ | with_reducible refine New.drewN ?_ _ | with_reducible refine New.alloc ?_ _ | with_reducible refine New.setCell ?_ (by first | (simp; done) | (simp; omega) | omega) _ | with_reducible refine New.trans ?_ (by with_reducible assumption)))) n)))).mono ?_; rintro e w5 ⟨rfl, b5⟩
          obtain ⟨c5, f5⟩ := b5.rules; have z5 := b5.size; have z5_0 : w.heap.size < w5.heap.size := (by omega); have z5_1 : w.heap.size + 1 < w5.heap.size := (by omega); have z5_2 : w2.heap.size < w5.heap.size := (by omega)
          go_wp2_with fail
          rcases Bool.eq_false_or_eq_true (twB (targetsP p)) with h4 | h4
          · skip
            refine (iTwice_any _ (targetsP p) _ (HOW.out _ (by repeat (first | with_reducible exact New.refl _ | with_reducible assumption | with_reducible refine New.drew ?_ | with_reducible refine New.drewN ?_ _ | with_reducible refine New.alloc ?_ _ | with_reducible refine New.setCell ?_ (by first | (simp; done) | (simp; omega) | omega) _ | with_reducible refine New.trans ?_ (by with_reducible assumption))))).mono ?_; rintro e w6 ⟨rfl, b6⟩
            try with_reducible replace b6 := New.undrawN b6
            try with_reducible replace b6 := New.undraw b6
            obtain ⟨c6, f6⟩ := b6.rules
            have z6 := b6.size
            try simp only [World.size_alloc, World.size_drew, World.heap_drewN, World.size_setCell] at z6
            go_wp2_with fail
            go_ret
            exact ⟨ret_int (by rw [← fault_eq]; exact (faultI_4 h1 h2 h3 h4).symm), (by repeat (first | with_reducible exact New.refl _ | with_reducible assumption | with_reducible refine New.drew ?_ | with_reducible refine New.drewN ?_ _ | with_reducible refine New.alloc ?_ _ | with_reducible refine New.setCell ?_ (by first | (simp; done) | (simp; omega) | omega) _ | with_reducible refine New.trans ?_ (by with_reducible assumption)))⟩
          refine (iTwice_any _ (targetsP p) _ (HOW.out _ (by repeat (first | with_reducible exact New.refl _ | with_reducible assumption | with_reducible refine New.drew ?_ | with_reducible refine New.drewN ?_ _ | with_reducible refine New.alloc ?_ _ | with_reducible refine New.setCell ?_ (by first | (simp; done) | (simp; omega) | omega) _ | with_reducible refine New.trans ?_ (by with_reducible assumption))))).mono ?_; rintro e w6 ⟨rfl, b6⟩
          try with_reducible replace b6 := New.undrawN b6
          try with_reducible replace b6 := New.undraw b6
          obtain ⟨c6, f6⟩ := b6.rules
          have z6 := b6.size
          try simp only [World.size_alloc, World.size_drew, World.heap_drewN, World.size_setCell] at z6
          have z6_0 : w.heap.size < w6.heap.size := by omega
          have z6_1 : w.heap.size + 1 < w6.heap.size := by omega
          have z6_2 : w2.heap.size < w6.heap.size := by omega
          go_wp2_with fail
          rcases Bool.eq_false_or_eq_true ((madeP p).any (fun s => !memS (targetsP p) s)) with h5 | h5
          · refine (containsFuncS_any 103 #[.pointer (some ⟨w.heap.size + 1, 0, none⟩)] (fun s => !memS (targetsP p) s) _ (madeP p) _ (HMD.out _ (by repeat (first | with_reducible exact New.refl _ | with_reducible assumption | with_reducible refine New.drew ?_ | with_reducible refine New.drewN ?_ _ | with_reducible refine New.alloc ?_ _ | with_reducible refine New.setCell ?_ (by first | (simp; done) | (simp; omega) | omega) _ | with_reducible refine New.trans ?_ (by with_reducible assumption)))) (fun _ _ => rfl) (fun x w1 hx n => iFault2_any x _ (targetsP p) (w.heap.size + 1) w1 (by have := n.size; omega) (by rw [n.cell z6_1, c6 _ _ z5_1, c5 _ _ z4_1]; exact K1) (HOW.out _ (New.trans (show New wr _ by exact (by repeat (first | with_reducible exact New.refl _ | with_reducible assumption | with_reducible refine New.drew ?_ | with_reducible refine New.drewN ?_ _ | with_reducible refine New.alloc ?_ _ | with_reducible refine New.setCell ?_ (by first | (simp; done) | (simp; omega) | omega) _ | with_reducible refine New.trans ?_ (by with_reducible assumption)))) n)))).mono ?_; rintro e w7 ⟨rfl, b7⟩
            go_wp2_with fail
            go_ret
            exact ⟨ret_int (by rw [← fault_eq]; exact (faultI_5 h1 h2 h3 h4 h5).symm), (by repeat (first | with_reducible exact New.refl _ | with_reducible assumption | with_reducible refine New.drew ?_ | with_reducible refine New.drewN ?_ _ | with_reducible refine New.alloc ?_ _ | with_reducible refine New.setCell ?_ (by first | (simp; done) | (simp; omega) | omega) _ | with_reducible refine New.trans ?_ (by with_reducible assumption)))⟩
          refine (containsFuncS_any 103 #[.pointer (some ⟨w.heap.size + 1, 0, none⟩)] (fun s => !memS (targetsP p) s) _ (madeP p) _ (HMD.out _ (by repeat (first | with_reducible exact New.refl _ | with_reducible assumption | with_reducible refine New.drew ?_ | with_reducible refine New.drewN ?_ _ | with_reducible refine New.alloc ?_ _ | with_reducible refine New.setCell ?_ (by first | (simp; done) | (simp; omega) | omega) _ | with_reducible refine New.trans ?_ (by with_reducible assumption)))) (fun _ _ => rfl) (fun x w1 hx n => iFault2_any x _ (targetsP p) (w.heap.size + 1) w1 (by have := n.size; omega) (by rw [n.cell z6_1, c6 _ _ z5_1, c5 _ _ z4_1]; exact K1) (HOW.out _ (New.trans (show New wr _ by exact (by repeat (first | with_reducible exact New.refl _ | with_reducible assumption | with_reducible refine New.drew ?_ | with_reducible refine New.drewN ?_ _ | with_reducible refine New.alloc ?_ _ | with_reducible refine New.setCell ?_ (by first | (simp; done) | (simp; omega) | omega) _ | with_reducible refine New.trans ?_ (by with_reducible assumption)))) n)))).mono ?_; rintro e w7 ⟨rfl, b7⟩
          obtain ⟨c7, f7⟩ := b7.rules; have z7 := b7.size; have z7_0 : w.heap.size < w7.heap.size := (by omega); have z7_1 : w.heap.size + 1 < w7.heap.size := (by omega); have z7_2 : w2.heap.size < w7.heap.size := (by omega)
          go_wp2_with fail
          rcases Bool.eq_false_or_eq_true (p.lines.any (unkL p)) with h6 | h6
          · refine (containsFuncLnB_any 104 (valP p (.slice ia p.inputs.length ic) (.slice ja p.vars.length jc) (.slice oa p.outputs.length oc) (.slice la ps.length lc)) (unkL p) _ p.lines _ (HLN.out.new (by repeat (first | with_reducible exact New.refl _ | with_reducible assumption | with_reducible refine New.drew ?_ | with_reducible refine New.drewN ?_ _ | with_reducible refine New.alloc ?_ _ | with_reducible refine New.setCell ?_ (by first | (simp; done) | (simp; omega) | omega) _ | with_reducible refine New.trans ?_ (by with_reducible assumption)))) (fun _ _ => rfl) (fun x tv w1 hx n hr => iUnknown_any p _ _ _ _ x tv w1 (HP.out.new (New.trans (show New w _ by exact (by repeat (first | with_reducible exact New.refl _ | with_reducible assumption | with_reducible refine New.drew ?_ | with_reducible refine New.drewN ?_ _ | with_reducible refine New.alloc ?_ _ | with_reducible refine New.setCell ?_ (by first | (simp; done) | (simp; omega) | omega) _ | with_reducible refine New.trans ?_ (by with_reducible assumption)))) n)) hr)).mono ?_; rintro e w8 ⟨rfl, b8⟩
            go_wp2_with fail
            go_ret
            exact ⟨ret_int (by rw [← fault_eq]; exact (faultI_6 h1 h2 h3 h4 h5 h6).symm), (by repeat (first | with_reducible exact New.refl _ | with_reducible assumption | with_reducible refine New.drew ?_ | with_reducible refine New.drewN ?_ _ | with_reducible refine New.alloc ?_ _ | with_reducible refine New.setCell ?_ (by first | (simp; done) | (simp; omega) | omega) _ | with_reducible refine New.trans ?_ (by with_reducible assumption)))⟩
          refine (containsFuncLnB_any 104 (valP p (.slice ia p.inputs.length ic) (.slice ja p.vars.length jc) (.slice oa p.outputs.length oc) (.slice la ps.length lc)) (unkL p) _ p.lines _ (HLN.out.new (by repeat (first | with_reducible exact New.refl _ | with_reducible assumption | with_reducible refine New.drew ?_ | with_reducible refine New.drewN ?_ _ | with_reducible refine New.alloc ?_ _ | with_reducible refine New.setCell ?_ (by first | (simp; done) | (simp; omega) | omega) _ | with_reducible refine New.trans ?_ (by with_reducible assumption)))) (fun _ _ => rfl) (fun x tv w1 hx n hr => iUnknown_any p _ _ _ _ x tv w1 (HP.out.new (New.trans (show New w _ by exact (by repeat (first | with_reducible exact New.refl _ | with_reducible assumption | with_reducible refine New.drew ?_ | with_reducible refine New.drewN ?_ _ | with_reducible refine New.alloc ?_ _ | with_reducible refine New.setCell ?_ (by first | (simp; done) | (simp; omega) | omega) _ | with_reducible refine New.trans ?_ (by with_reducible assumption)))) n)) hr)).mono ?_; rintro e w8 ⟨rfl, b8⟩
          go_wp2_with fail
          go_ret
          exact ⟨ret_int (by rw [← fault_eq]; exact (faultI_0 h1 h2 h3 h4 h5 h6).symm), (by repeat (first | with_reducible exact New.refl _ | with_reducible assumption | with_reducible refine New.drew ?_ | with_reducible refine New.drewN ?_ _ | with_reducible refine New.alloc ?_ _ | with_reducible refine New.setCell ?_ (by first | (simp; done) | (simp; omega) | omega) _ | with_reducible refine New.trans ?_ (by with_reducible assumption)))⟩
        · refine (containsS_any p.guard _ p.inputs _ (Rd.new HP.out.ins (by repeat (first | with_reducible exact New.refl _ | with_reducible assumption | with_reducible refine New.drew ?_ | with_reducible refine New.drewN ?_ _ | with_reducible refine New.alloc ?_ _ | with_reducible refine New.setCell ?_ (by first | (simp; done) | (simp; omega) | omega) _ | with_reducible refine New.trans ?_ (by with_reducible assumption))))).mono ?_; rintro e wx ⟨rfl, rfl⟩
          go_wp2_with fail
          rcases Bool.eq_false_or_eq_true (p.vars.any fun y => p.guard.toList == y.toList) with g2 | g2
          · have h2 : bad2 p = false := by rw [bad2, readB, memS, memS, g2]; simp
            refine (containsS_any p.guard _ p.vars _ (Rd.new HP.out.vars (by repeat (first | with_reducible exact New.refl _ | with_reducible assumption | with_reducible refine New.drew ?_ | with_reducible refine New.drewN ?_ _ | with_reducible refine New.alloc ?_ _ | with_reducible refine New.setCell ?_ (by first | (simp; done) | (simp; omega) | omega) _ | with_reducible refine New.trans ?_ (by with_reducible assumption))))).mono ?_; rintro e wx ⟨rfl, rfl⟩
            go_wp2_with fail
            rcases Bool.eq_false_or_eq_true ((targetsP p).any (out3 p)) with h3 | h3
            · refine (containsFuncS_any 102 #[.pointer (some ⟨w2.heap.size, 0, none⟩)] (out3 p) _ (targetsP p) _ (HOW.out _ (by repeat (first | with_reducible exact New.refl _ | with_reducible assumption | with_reducible refine New.drew ?_ | with_reducible refine New.drewN ?_ _ | with_reducible refine New.alloc ?_ _ | with_reducible refine New.setCell ?_ (by first | (simp; done) | (simp; omega) | omega) _ | with_reducible refine New.trans ?_ (by with_reducible assumption)))) (fun _ _ => rfl) (fun x w1 hx n => iFault1_any x _ (madeP p) w2.heap.size w1 (by have := n.size; omega) (by rw [n.cell z4_2]; exact K2) (HMD.out _ (New.trans (show New w2 _ by exact (by repeat (first | with_reducible exact New.refl _ | with_reducible assumption | with_reducible refine New.drew ?_ | with_reducible refine New.drewN ?_ _ | with_reducible refine New.alloc ?_ _ | with_reducible refine New.setCell ?_ (by first | (simp; done) | (simp; omega) | omega) _ | with_reducible refine New.trans ?_ (by with_reducible assumption)))) n)))).mono ?_; rintro e w5 ⟨rfl, b5⟩
              go_wp2_with fail
              go_ret
              exact ⟨ret_int (by rw [← fault_eq]; exact (faultI_3 h1 h2 h3).symm), (by repeat (first | with_reducible exact New.refl _ | with_reducible assumption | with_reducible refine New.drew ?_ | with_reducible refine New.drewN ?_ _ | with_reducible refine New.alloc ?_ _ | with_reducible refine New.setCell ?_ (by first | (simp; done) | (simp; omega) | omega) _ | with_reducible refine New.trans ?_ (by with_reducible assumption)))⟩
            refine (containsFuncS_any 102 #[.pointer (some ⟨w2.heap.size, 0, none⟩)] (out3 p) _ (targetsP p) _ (HOW.out _ (by repeat (first | with_reducible exact New.refl _ | with_reducible assumption | with_reducible refine New.drew ?_ | with_reducible refine New.drewN ?_ _ | with_reducible refine New.alloc ?_ _ | with_reducible refine New.setCell ?_ (by first | (simp; done) | (simp; omega) | omega) _ | with_reducible refine New.trans ?_ (by with_reducible assumption)))) (fun _ _ => rfl) (fun x w1 hx n => iFault1_any x _ (madeP p) w2.heap.size w1 (by have := n.size; omega) (by rw [n.cell z4_2]; exact K2) (HMD.out _ (New.trans (show New w2 _ by exact (by repeat (first | with_reducible exact New.refl _ | with_reducible assumption | with_reducible refine New.drew ?_ | with_reducible refine New.drewN ?_ _ | with_reducible refine New.alloc ?_ _ | with_reducible refine New.setCell ?_ (by first | (simp; done) | (simp; omega) | omega) _ | with_reducible refine New.trans ?_ (by with_reducible assumption)))) n)))).mono ?_; rintro e w5 ⟨rfl, b5⟩
            obtain ⟨c5, f5⟩ := b5.rules; have z5 := b5.size; have z5_0 : w.heap.size < w5.heap.size := (by omega); have z5_1 : w.heap.size + 1 < w5.heap.size := (by omega); have z5_2 : w2.heap.size < w5.heap.size := (by omega)
            go_wp2_with fail
            rcases Bool.eq_false_or_eq_true (twB (targetsP p)) with h4 | h4
            · skip
              refine (iTwice_any _ (targetsP p) _ (HOW.out _ (by repeat (first | with_reducible exact New.refl _ | with_reducible assumption | with_reducible refine New.drew ?_ | with_reducible refine New.drewN ?_ _ | with_reducible refine New.alloc ?_ _ | with_reducible refine New.setCell ?_ (by first | (simp; done) | (simp; omega) | omega) _ | with_reducible refine New.trans ?_ (by with_reducible assumption))))).mono ?_; rintro e w6 ⟨rfl, b6⟩
              try with_reducible replace b6 := New.undrawN b6
              try with_reducible replace b6 := New.undraw b6
              obtain ⟨c6, f6⟩ := b6.rules
              have z6 := b6.size
              try simp only [World.size_alloc, World.size_drew, World.heap_drewN, World.size_setCell] at z6
              go_wp2_with fail
              go_ret
              exact ⟨ret_int (by rw [← fault_eq]; exact (faultI_4 h1 h2 h3 h4).symm), (by repeat (first | with_reducible exact New.refl _ | with_reducible assumption | with_reducible refine New.drew ?_ | with_reducible refine New.drewN ?_ _ | with_reducible refine New.alloc ?_ _ | with_reducible refine New.setCell ?_ (by first | (simp; done) | (simp; omega) | omega) _ | with_reducible refine New.trans ?_ (by with_reducible assumption)))⟩
            refine (iTwice_any _ (targetsP p) _ (HOW.out _ (by repeat (first | with_reducible exact New.refl _ | with_reducible assumption | with_reducible refine New.drew ?_ | with_reducible refine New.drewN ?_ _ | with_reducible refine New.alloc ?_ _ | with_reducible refine New.setCell ?_ (by first | (simp; done) | (simp; omega) | omega) _ | with_reducible refine New.trans ?_ (by with_reducible assumption))))).mono ?_; rintro e w6 ⟨rfl, b6⟩
            try with_reducible replace b6 := New.undrawN b6
            try with_reducible replace b6 := New.undraw b6
            obtain ⟨c6, f6⟩ := b6.rules
            have z6 := b6.size
            try simp only [World.size_alloc, World.size_drew, World.heap_drewN, World.size_setCell] at z6
            have z6_0 : w.heap.size < w6.heap.size := by omega
            have z6_1 : w.heap.size + 1 < w6.heap.size := by omega
            have z6_2 : w2.heap.size < w6.heap.size := by omega
            go_wp2_with fail
            rcases Bool.eq_false_or_eq_true ((madeP p).any (fun s => !memS (targetsP p) s)) with h5 | h5
            · refine (containsFuncS_any 103 #[.pointer (some ⟨w.heap.size + 1, 0, none⟩)] (fun s => !memS (targetsP p) s) _ (madeP p) _ (HMD.out _ (by repeat (first | with_reducible exact New.refl _ | with_reducible assumption | with_reducible refine New.drew ?_ | with_reducible refine New.drewN ?_ _ | with_reducible refine New.alloc ?_ _ | with_reducible refine New.setCell ?_ (by first | (simp; done) | (simp; omega) | omega) _ | with_reducible refine New.trans ?_ (by with_reducible assumption)))) (fun _ _ => rfl) (fun x w1 hx n => iFault2_any x _ (targetsP p) (w.heap.size + 1) w1 (by have := n.size; omega) (by rw [n.cell z6_1, c6 _ _ z5_1, c5 _ _ z4_1]; exact K1) (HOW.out _ (New.trans (show New wr _ by exact (by repeat (first | with_reducible exact New.refl _ | with_reducible assumption | with_reducible refine New.drew ?_ | with_reducible refine New.drewN ?_ _ | with_reducible refine New.alloc ?_ _ | with_reducible refine New.setCell ?_ (by first | (simp; done) | (simp; omega) | omega) _ | with_reducible refine New.trans ?_ (by with_reducible assumption)))) n)))).mono ?_; rintro e w7 ⟨rfl, b7⟩
              go_wp2_with fail
              go_ret
              exact ⟨ret_int (by rw [← fault_eq]; exact (faultI_5 h1 h2 h3 h4 h5).symm), (by repeat (first | with_reducible exact New.refl _ | with_reducible assumption | with_reducible refine New.drew ?_ | with_reducible refine New.drewN ?_ _ | with_reducible refine New.alloc ?_ _ | with_reducible refine New.setCell ?_ (by first | (simp; done) | (simp; omega) | omega) _ | with_reducible refine New.trans ?_ (by with_reducible assumption)))⟩
            refine (containsFuncS_any 103 #[.pointer (some ⟨w.heap.size + 1, 0, none⟩)] (fun s => !memS (targetsP p) s) _ (madeP p) _ (HMD.out _ (by repeat (first | with_reducible exact New.refl _ | with_reducible assumption | with_reducible refine New.drew ?_ | with_reducible refine New.drewN ?_ _ | with_reducible refine New.alloc ?_ _ | with_reducible refine New.setCell ?_ (by first | (simp; done) | (simp; omega) | omega) _ | with_reducible refine New.trans ?_ (by with_reducible assumption)))) (fun _ _ => rfl) (fun x w1 hx n => iFault2_any x _ (targetsP p) (w.heap.size + 1) w1 (by have := n.size; omega) (by rw [n.cell z6_1, c6 _ _ z5_1, c5 _ _ z4_1]; exact K1) (HOW.out _ (New.trans (show New wr _ by exact (by repeat (first | with_reducible exact New.refl _ | with_reducible assumption | with_reducible refine New.drew ?_ | with_reducible refine New.drewN ?_ _ | with_reducible refine New.alloc ?_ _ | with_reducible refine New.setCell ?_ (by first | (simp; done) | (simp; omega) | omega) _ | with_reducible refine New.trans ?_ (by with_reducible assumption)))) n)))).mono ?_; rintro e w7 ⟨rfl, b7⟩
            obtain ⟨c7, f7⟩ := b7.rules; have z7 := b7.size; have z7_0 : w.heap.size < w7.heap.size := (by omega); have z7_1 : w.heap.size + 1 < w7.heap.size := (by omega); have z7_2 : w2.heap.size < w7.heap.size := (by omega)
            go_wp2_with fail
            rcases Bool.eq_false_or_eq_true (p.lines.any (unkL p)) with h6 | h6
            · refine (containsFuncLnB_any 104 (valP p (.slice ia p.inputs.length ic) (.slice ja p.vars.length jc) (.slice oa p.outputs.length oc) (.slice la ps.length lc)) (unkL p) _ p.lines _ (HLN.out.new (by repeat (first | with_reducible exact New.refl _ | with_reducible assumption | with_reducible refine New.drew ?_ | with_reducible refine New.drewN ?_ _ | with_reducible refine New.alloc ?_ _ | with_reducible refine New.setCell ?_ (by first | (simp; done) | (simp; omega) | omega) _ | with_reducible refine New.trans ?_ (by with_reducible assumption)))) (fun _ _ => rfl) (fun x tv w1 hx n hr => iUnknown_any p _ _ _ _ x tv w1 (HP.out.new (New.trans (show New w _ by exact (by repeat (first | with_reducible exact New.refl _ | with_reducible assumption | with_reducible refine New.drew ?_ | with_reducible refine New.drewN ?_ _ | with_reducible refine New.alloc ?_ _ | with_reducible refine New.setCell ?_ (by first | (simp; done) | (simp; omega) | omega) _ | with_reducible refine New.trans ?_ (by with_reducible assumption)))) n)) hr)).mono ?_; rintro e w8 ⟨rfl, b8⟩
              go_wp2_with fail
              go_ret
              exact ⟨ret_int (by rw [← fault_eq]; exact (faultI_6 h1 h2 h3 h4 h5 h6).symm), (by repeat (first | with_reducible exact New.refl _ | with_reducible assumption | with_reducible refine New.drew ?_ | with_reducible refine New.drewN ?_ _ | with_reducible refine New.alloc ?_ _ | with_reducible refine New.setCell ?_ (by first | (simp; done) | (simp; omega) | omega) _ | with_reducible refine New.trans ?_ (by with_reducible assumption)))⟩
            refine (containsFuncLnB_any 104 (valP p (.slice ia p.inputs.length ic) (.slice ja p.vars.length jc) (.slice oa p.outputs.length oc) (.slice la ps.length lc)) (unkL p) _ p.lines _ (HLN.out.new (by repeat (first | with_reducible exact New.refl _ | with_reducible assumption | with_reducible refine New.drew ?_ | with_reducible refine New.drewN ?_ _ | with_reducible refine New.alloc ?_ _ | with_reducible refine New.setCell ?_ (by first | (simp; done) | (simp; omega) | omega) _ | with_reducible refine New.trans ?_ (by with_reducible assumption)))) (fun _ _ => rfl) (fun x tv w1 hx n hr => iUnknown_any p _ _ _ _ x tv w1 (HP.out.new (New.trans (show New w _ by exact (by repeat (first | with_reducible exact New.refl _ | with_reducible assumption | with_reducible refine New.drew ?_ | with_reducible refine New.drewN ?_ _ | with_reducible refine New.alloc ?_ _ | with_reducible refine New.setCell ?_ (by first | (simp; done) | (simp; omega) | omega) _ | with_reducible refine New.trans ?_ (by with_reducible assumption)))) n)) hr)).mono ?_; rintro e w8 ⟨rfl, b8⟩
            go_wp2_with fail
            go_ret
            exact ⟨ret_int (by rw [← fault_eq]; exact (faultI_0 h1 h2 h3 h4 h5 h6).symm), (by repeat (first | with_reducible exact New.refl _ | with_reducible assumption | with_reducible refine New.drew ?_ | with_reducible refine New.drewN ?_ _ | with_reducible refine New.alloc ?_ _ | with_reducible refine New.setCell ?_ (by first | (simp; done) | (simp; omega) | omega) _ | with_reducible refine New.trans ?_ (by with_reducible assumption)))⟩
          · have h2 : bad2 p = true := by rw [bad2, readB, memS, memS, g1, g2, he]; rfl
            refine (containsS_any p.guard _ p.vars _ (Rd.new HP.out.vars (by repeat (first | with_reducible exact New.refl _ | with_reducible assumption | with_reducible refine New.drew ?_ | with_reducible refine New.drewN ?_ _ | with_reducible refine New.alloc ?_ _ | with_reducible refine New.setCell ?_ (by first | (simp; done) | (simp; omega) | omega) _ | with_reducible refine New.trans ?_ (by with_reducible assumption))))).mono ?_; rintro e wx ⟨rfl, rfl⟩
            go_wp2_with fail
            go_ret
            exact ⟨ret_int (by rw [← fault_eq]; exact (faultI_2 h1 h2).symm), (by repeat (first | with_reducible exact New.refl _ | with_reducible assumption | with_reducible refine New.drew ?_ | with_reducible refine New.drewN ?_ _ | with_reducible refine New.alloc ?_ _ | with_reducible refine New.setCell ?_ (by first | (simp; done) | (simp; omega) | omega) _ | with_reducible refine New.trans ?_ (by with_reducible assumption)))⟩
end Go.Proofs.YteielmihlfakgaaDoor
/- Contracts: is a program sound; the line of a name. -/
namespace Go.Proofs.YteielmihlfakgaaDoor
open Go Go.Proofs Go.RowKit
set_option linter.unusedVariables false
set_option linter.unusedSimpArgs false
set_option maxRecDepth 100000
def pfR (p : ProgD) : Int × Int := if wB p = true then (faultS p, 0) else (0, 1)
def soundB (p : ProgD) : Bool := wB p && decide (faultS p = 0)
def codeR (p : ProgD) : Int := if wB p = true then (if faultS p = 0 then 0 else 5) else 1
def lineIdx (p : ProgD) (s : ByteArray) : Int := idx (fun l => l.target.toList == s.toList) p.lines
def lineR (p : ProgD) (s : ByteArray) : Int × Int := if wB p = true then (if lineIdx p s < 0 then (0, 4) else (lineIdx p s, 0)) else (0, 1)
theorem pfR_1 {p : ProgD} (h : wB p = true) : pfR p = (faultS p, 0) := by rw [pfR, if_pos h]
theorem pfR_0 {p : ProgD} (h : wB p = false) : pfR p = (0, 1) := by rw [pfR, if_neg (by simp [h])]
theorem codeR_0 {p : ProgD} (h : wB p = false) : codeR p = 1 := by rw [codeR, if_neg (by simp [h])]
theorem codeR_5 {p : ProgD} (h : wB p = true) (h2 : faultS p ≠ 0) : codeR p = 5 := by rw [codeR, if_pos h, if_neg h2]
theorem codeR_1 {p : ProgD} (h : wB p = true) (h2 : faultS p = 0) : codeR p = 0 := by rw [codeR, if_pos h, if_pos h2]
theorem lineR_0 {p : ProgD} {s : ByteArray} (h : wB p = false) : lineR p s = (0, 1) := by rw [lineR, if_neg (by simp [h])]
theorem lineR_4 {p : ProgD} {s : ByteArray} (h : wB p = true) (h2 : lineIdx p s < 0) : lineR p s = (0, 4) := by rw [lineR, if_pos h, if_pos h2]
theorem lineR_1 {p : ProgD} {s : ByteArray} (h : wB p = true) (h2 : ¬ lineIdx p s < 0) : lineR p s = (lineIdx p s, 0) := by rw [lineR, if_pos h, if_neg h2]
set_option maxHeartbeats 800000 in
theorem sLine_any (p : ProgD) (iv vv ov lv : Value) (s : ByteArray) (w : World) (hp : RdP w p iv vv ov lv) :
    Calls Tryd.prog 46 #[valP p iv vv ov lv, .string s] w fun e w' => e = .returned (.int .i64 (lineIdx p s)) ∧ New w w' := by
  obtain ⟨_, _, _, ps, hps, hl1, _⟩ := hp
  obtain ⟨a, cap, rfl, hm, HC⟩ := Rd.flat encLV_len (by omega) hl1
  have zz : w.heap.size < w.heap.size + 1 := by omega
  rw [lineIdx, ← hps, ← idx_map]
  clear hl1 hps
  go_enter Tryd.func46, Tryd.ntmps46
  go_wp2_with fail
  go_loop [5] (fun i => ∃ k : Nat, k ≤ ps.length ∧ i = .int .i64 k ∧ Hid ((ps.take k).findIdx? (fun x => x.1.target.toList == s.toList) = none)) (fun i => ps.length - (intOf i).toNat)
  case atStart => exact ⟨0, Nat.zero_le _, rfl, rfl⟩
  case round =>
    obtain ⟨k, hk, rfl, hpre⟩ := hrel
    by_cases hlt : k < ps.length
    · obtain ⟨b, off, rfl, hbl, hx⟩ := HC.out k hlt
      have x0 := hx 0 _ (by omega) rfl
      rw [Nat.add_zero] at x0
      replace hx := Lib.hid hx
      have hbw1 : b < w.heap.size + 1 := by omega
      have HT := Lib.hid (take_find hlt hpre.out)
      rcases Bool.eq_false_or_eq_true (ps[k].1.target.toList == s.toList) with h1 | h1
      · have HA := Lib.hid (idx_some (HT.out.1 h1))
        go_wp2_with fail
        go_ret
        exact ⟨ret_int HA.out.symm, (by repeat (first | with_reducible exact New.refl _ | with_reducible assumption | with_reducible refine New.drew ?_ | with_reducible refine New.drewN ?_ _ | with_reducible refine New.alloc ?_ _ | with_reducible refine New.setCell ?_ (by first | (simp; done) | (simp; omega) | omega) _ | with_reducible refine New.trans ?_ (by with_reducible assumption)))⟩
      · have HA := Lib.hid (HT.out.2 h1)
        go_wp2_with fail
        go_round
        case rel => exact ⟨k + 1, by omega, by go_num, HA⟩
        case measure => simp [intOf]; omega
    · obtain rfl : k = ps.length := by omega
      have HA := Lib.hid (idx_none (p := fun x : LV => x.1.target.toList == s.toList) (xs := ps) (by have := hpre.out; rwa [List.take_length] at this))
      go_wp2_with fail
      go_ret
      exact ⟨ret_int HA.out.symm, (by repeat (first | with_reducible exact New.refl _ | with_reducible assumption | with_reducible refine New.drew ?_ | with_reducible refine New.drewN ?_ _ | with_reducible refine New.alloc ?_ _ | with_reducible refine New.setCell ?_ (by first | (simp; done) | (simp; omega) | omega) _ | with_reducible refine New.trans ?_ (by with_reducible assumption)))⟩
theorem iLine1_any (l : LineD) (tv : Value) (s : ByteArray) (b : Nat) (w : World) (hb : b < w.heap.size) (hc : w.cell? ⟨b, 0, none⟩ = some (.string s)) (ht : Rd w tv l.terms.length (l.terms.flatMap encTerm)) :
    Calls Tryd.prog 89 #[.agg #[.string l.target, tv], .pointer (some ⟨b, 0, none⟩)] w fun e w' => e = .returned (.bool (l.target.toList == s.toList)) ∧ New w w' := by
  obtain ⟨a, c, rfl, _⟩ := ht
  go_enter Tryd.func89, Tryd.ntmps89
  go_wp2_with fail
  go_ret
  exact ⟨rfl, (by repeat (first | with_reducible exact New.refl _ | with_reducible assumption | with_reducible refine New.drew ?_ | with_reducible refine New.drewN ?_ _ | with_reducible refine New.alloc ?_ _ | with_reducible refine New.setCell ?_ (by first | (simp; done) | (simp; omega) | omega) _ | with_reducible refine New.trans ?_ (by with_reducible assumption)))⟩
theorem iLine_any (p : ProgD) (iv vv ov lv : Value) (s : ByteArray) (w : World) (hp : RdP w p iv vv ov lv) :
    Calls Tryd.prog 44 #[valP p iv vv ov lv, .string s] w fun e w' => e = .returned (.int .i64 (lineIdx p s)) ∧ New w w' := by
  have HP := Lib.hid hp
  obtain ⟨h1, h2, h3, h4⟩ := hp
  obtain ⟨la, lc, rfl⟩ := h4.slice
  clear h1 h2 h3 h4
  have zz : w.heap.size < w.heap.size + 1 + 1 := by omega
  go_enter Tryd.func44, Tryd.ntmps44
  go_wp2_with fail
  refine (indexFuncLn_any 89 #[.pointer (some ⟨w.heap.size + 1, 0, none⟩)] (fun l => l.target.toList == s.toList) _ p.lines _ (HP.out.lines.new (by repeat (first | with_reducible exact New.refl _ | with_reducible assumption | with_reducible refine New.drew ?_ | with_reducible refine New.drewN ?_ _ | with_reducible refine New.alloc ?_ _ | with_reducible refine New.setCell ?_ (by first | (simp; done) | (simp; omega) | omega) _ | with_reducible refine New.trans ?_ (by with_reducible assumption)))) (fun _ _ => rfl) (fun x tv w1 hx n hr => by
    have z := n.size
    simp only [World.size_alloc] at z
    refine iLine1_any x tv s (w.heap.size + 1) w1 (by omega) ?_ hr
    rw [n.cell (by simp), cell_alloc_new _ _ _ _ _ (by simp)]; rfl)).mono ?_; rintro e w2 ⟨rfl, b2⟩
  obtain ⟨c2, f2⟩ := b2.rules
  go_wp2_with fail
  go_ret
  exact ⟨rfl, (by repeat (first | with_reducible exact New.refl _ | with_reducible assumption | with_reducible refine New.drew ?_ | with_reducible refine New.drewN ?_ _ | with_reducible refine New.alloc ?_ _ | with_reducible refine New.setCell ?_ (by first | (simp; done) | (simp; omega) | omega) _ | with_reducible refine New.trans ?_ (by with_reducible assumption)))⟩
theorem sProgramFault_any (p : ProgD) (iv vv ov lv : Value) (w : World) (hp : RdP w p iv vv ov lv) (hf : FitP p)  :
    Calls Tryd.prog 23 #[valP p iv vv ov lv] w fun e w' => e = .returned (.tuple #[.int .i64 (pfR p).1, .int .i64 (pfR p).2]) ∧ New w w' := by
  have HP := Lib.hid hp; clear hp
  skip
  rcases Bool.eq_false_or_eq_true (wB p) with h1 | h1
  · rw [pfR_1 h1]
    go_enter Tryd.func23, Tryd.ntmps23
    go_wp2_with fail
    refine (sIsWritten_any p _ _ _ _ _ (HP.out.new (by repeat (first | with_reducible exact New.refl _ | with_reducible assumption | with_reducible refine New.drew ?_ | with_reducible refine New.drewN ?_ _ | with_reducible refine New.alloc ?_ _ | with_reducible refine New.setCell ?_ (by first | (simp; done) | (simp; omega) | omega) _ | with_reducible refine New.trans ?_ (by with_reducible assumption)))) hf ).mono ?_; rintro e w1 ⟨rfl, b1⟩
    try with_reducible replace b1 := New.undrawN b1
    try with_reducible replace b1 := New.undraw b1
    obtain ⟨c1, f1⟩ := b1.rules
    have z1 := b1.size
    try simp only [World.size_alloc, World.size_drew, World.heap_drewN, World.size_setCell] at z1
    have z1_0 : w.heap.size < w1.heap.size := by omega
    go_wp2_with fail
    refine (sFault_any p _ _ _ _ _ (HP.out.new (by repeat (first | with_reducible exact New.refl _ | with_reducible assumption | with_reducible refine New.drew ?_ | with_reducible refine New.drewN ?_ _ | with_reducible refine New.alloc ?_ _ | with_reducible refine New.setCell ?_ (by first | (simp; done) | (simp; omega) | omega) _ | with_reducible refine New.trans ?_ (by with_reducible assumption)))) hf).mono ?_; rintro e w2 ⟨rfl, b2⟩
    try with_reducible replace b2 := New.undrawN b2
    try with_reducible replace b2 := New.undraw b2
    obtain ⟨c2, f2⟩ := b2.rules
    have z2 := b2.size
    try simp only [World.size_alloc, World.size_drew, World.heap_drewN, World.size_setCell] at z2
    have z2_0 : w.heap.size < w2.heap.size := by omega
    go_wp2_with fail
    go_ret2
    exact ⟨rfl, (by repeat (first | with_reducible exact New.refl _ | with_reducible assumption | with_reducible refine New.drew ?_ | with_reducible refine New.drewN ?_ _ | with_reducible refine New.alloc ?_ _ | with_reducible refine New.setCell ?_ (by first | (simp; done) | (simp; omega) | omega) _ | with_reducible refine New.trans ?_ (by with_reducible assumption)))⟩
  · rw [pfR_0 h1]
    go_enter Tryd.func23, Tryd.ntmps23
    go_wp2_with fail
    refine (sIsWritten_any p _ _ _ _ _ (HP.out.new (by repeat (first | with_reducible exact New.refl _ | with_reducible assumption | with_reducible refine New.drew ?_ | with_reducible refine New.drewN ?_ _ | with_reducible refine New.alloc ?_ _ | with_reducible refine New.setCell ?_ (by first | (simp; done) | (simp; omega) | omega) _ | with_reducible refine New.trans ?_ (by with_reducible assumption)))) hf ).mono ?_; rintro e w1 ⟨rfl, b1⟩
    try with_reducible replace b1 := New.undrawN b1
    try with_reducible replace b1 := New.undraw b1
    obtain ⟨c1, f1⟩ := b1.rules
    have z1 := b1.size
    try simp only [World.size_alloc, World.size_drew, World.heap_drewN, World.size_setCell] at z1
    have z1_0 : w.heap.size < w1.heap.size := by omega
    go_wp2_with fail
    go_ret2
    exact ⟨rfl, (by repeat (first | with_reducible exact New.refl _ | with_reducible assumption | with_reducible refine New.drew ?_ | with_reducible refine New.drewN ?_ _ | with_reducible refine New.alloc ?_ _ | with_reducible refine New.setCell ?_ (by first | (simp; done) | (simp; omega) | omega) _ | with_reducible refine New.trans ?_ (by with_reducible assumption)))⟩
theorem sIsSound_any (p : ProgD) (iv vv ov lv : Value) (w : World) (hp : RdP w p iv vv ov lv) (hf : FitP p)  :
    Calls Tryd.prog 27 #[valP p iv vv ov lv] w fun e w' => e = .returned (.bool (soundB p)) ∧ New w w' := by
  have HP := Lib.hid hp; clear hp
  skip
  rcases Bool.eq_false_or_eq_true (wB p) with h1 | h1
  · go_enter Tryd.func27, Tryd.ntmps27
    go_wp2_with fail
    refine (sIsWritten_any p _ _ _ _ _ (HP.out.new (by repeat (first | with_reducible exact New.refl _ | with_reducible assumption | with_reducible refine New.drew ?_ | with_reducible refine New.drewN ?_ _ | with_reducible refine New.alloc ?_ _ | with_reducible refine New.setCell ?_ (by first | (simp; done) | (simp; omega) | omega) _ | with_reducible refine New.trans ?_ (by with_reducible assumption)))) hf ).mono ?_; rintro e w1 ⟨rfl, b1⟩
    try with_reducible replace b1 := New.undrawN b1
    try with_reducible replace b1 := New.undraw b1
    obtain ⟨c1, f1⟩ := b1.rules
    have z1 := b1.size
    try simp only [World.size_alloc, World.size_drew, World.heap_drewN, World.size_setCell] at z1
    have z1_0 : w.heap.size < w1.heap.size := by omega
    go_wp2_with fail
    refine (sFault_any p _ _ _ _ _ (HP.out.new (by repeat (first | with_reducible exact New.refl _ | with_reducible assumption | with_reducible refine New.drew ?_ | with_reducible refine New.drewN ?_ _ | with_reducible refine New.alloc ?_ _ | with_reducible refine New.setCell ?_ (by first | (simp; done) | (simp; omega) | omega) _ | with_reducible refine New.trans ?_ (by with_reducible assumption)))) hf).mono ?_; rintro e w2 ⟨rfl, b2⟩
    try with_reducible replace b2 := New.undrawN b2
    try with_reducible replace b2 := New.undraw b2
    obtain ⟨c2, f2⟩ := b2.rules
    have z2 := b2.size
    try simp only [World.size_alloc, World.size_drew, World.heap_drewN, World.size_setCell] at z2
    have z2_0 : w.heap.size < w2.heap.size := by omega
    go_wp2_with fail
    go_ret
    exact ⟨ret_bool (by rw [soundB, h1]; rfl), (by repeat (first | with_reducible exact New.refl _ | with_reducible assumption | with_reducible refine New.drew ?_ | with_reducible refine New.drewN ?_ _ | with_reducible refine New.alloc ?_ _ | with_reducible refine New.setCell ?_ (by first | (simp; done) | (simp; omega) | omega) _ | with_reducible refine New.trans ?_ (by with_reducible assumption)))⟩
  · go_enter Tryd.func27, Tryd.ntmps27
    go_wp2_with fail
    refine (sIsWritten_any p _ _ _ _ _ (HP.out.new (by repeat (first | with_reducible exact New.refl _ | with_reducible assumption | with_reducible refine New.drew ?_ | with_reducible refine New.drewN ?_ _ | with_reducible refine New.alloc ?_ _ | with_reducible refine New.setCell ?_ (by first | (simp; done) | (simp; omega) | omega) _ | with_reducible refine New.trans ?_ (by with_reducible assumption)))) hf ).mono ?_; rintro e w1 ⟨rfl, b1⟩
    try with_reducible replace b1 := New.undrawN b1
    try with_reducible replace b1 := New.undraw b1
    obtain ⟨c1, f1⟩ := b1.rules
    have z1 := b1.size
    try simp only [World.size_alloc, World.size_drew, World.heap_drewN, World.size_setCell] at z1
    have z1_0 : w.heap.size < w1.heap.size := by omega
    go_wp2_with fail
    go_ret
    exact ⟨ret_bool (by rw [soundB, h1]; rfl), (by repeat (first | with_reducible exact New.refl _ | with_reducible assumption | with_reducible refine New.drew ?_ | with_reducible refine New.drewN ?_ _ | with_reducible refine New.alloc ?_ _ | with_reducible refine New.setCell ?_ (by first | (simp; done) | (simp; omega) | omega) _ | with_reducible refine New.trans ?_ (by with_reducible assumption)))⟩
theorem sLineOf_any (p : ProgD) (iv vv ov lv : Value) (s : ByteArray) (w : World) (hp : RdP w p iv vv ov lv) (hf : FitP p)  :
    Calls Tryd.prog 10 #[valP p iv vv ov lv, .string s] w fun e w' => e = .returned (.tuple #[.int .i64 (lineR p s).1, .int .i64 (lineR p s).2]) ∧ New w w' := by
  have HP := Lib.hid hp; clear hp
  skip
  rcases Bool.eq_false_or_eq_true (wB p) with h1 | h1
  · by_cases h2 : lineIdx p s < 0
    · rw [lineR_4 h1 h2]
      go_enter Tryd.func10, Tryd.ntmps10
      go_wp2_with fail
      refine (sIsWritten_any p _ _ _ _ _ (HP.out.new (by repeat (first | with_reducible exact New.refl _ | with_reducible assumption | with_reducible refine New.drew ?_ | with_reducible refine New.drewN ?_ _ | with_reducible refine New.alloc ?_ _ | with_reducible refine New.setCell ?_ (by first | (simp; done) | (simp; omega) | omega) _ | with_reducible refine New.trans ?_ (by with_reducible assumption)))) hf ).mono ?_; rintro e w1 ⟨rfl, b1⟩
      try with_reducible replace b1 := New.undrawN b1
      try with_reducible replace b1 := New.undraw b1
      obtain ⟨c1, f1⟩ := b1.rules
      have z1 := b1.size
      try simp only [World.size_alloc, World.size_drew, World.heap_drewN, World.size_setCell] at z1
      have z1_0 : w.heap.size < w1.heap.size := by omega
      go_wp2_with fail
      refine (sLine_any p _ _ _ _ s _ (HP.out.new (by repeat (first | with_reducible exact New.refl _ | with_reducible assumption | with_reducible refine New.drew ?_ | with_reducible refine New.drewN ?_ _ | with_reducible refine New.alloc ?_ _ | with_reducible refine New.setCell ?_ (by first | (simp; done) | (simp; omega) | omega) _ | with_reducible refine New.trans ?_ (by with_reducible assumption))))).mono ?_; rintro e w2 ⟨rfl, b2⟩
      try with_reducible replace b2 := New.undrawN b2
      try with_reducible replace b2 := New.undraw b2
      obtain ⟨c2, f2⟩ := b2.rules
      have z2 := b2.size
      try simp only [World.size_alloc, World.size_drew, World.heap_drewN, World.size_setCell] at z2
      have z2_0 : w.heap.size < w2.heap.size := by omega
      go_wp2_with fail
      go_ret2
      exact ⟨rfl, (by repeat (first | with_reducible exact New.refl _ | with_reducible assumption | with_reducible refine New.drew ?_ | with_reducible refine New.drewN ?_ _ | with_reducible refine New.alloc ?_ _ | with_reducible refine New.setCell ?_ (by first | (simp; done) | (simp; omega) | omega) _ | with_reducible refine New.trans ?_ (by with_reducible assumption)))⟩
    · rw [lineR_1 h1 h2]
      go_enter Tryd.func10, Tryd.ntmps10
      go_wp2_with fail
      refine (sIsWritten_any p _ _ _ _ _ (HP.out.new (by repeat (first | with_reducible exact New.refl _ | with_reducible assumption | with_reducible refine New.drew ?_ | with_reducible refine New.drewN ?_ _ | with_reducible refine New.alloc ?_ _ | with_reducible refine New.setCell ?_ (by first | (simp; done) | (simp; omega) | omega) _ | with_reducible refine New.trans ?_ (by with_reducible assumption)))) hf ).mono ?_; rintro e w1 ⟨rfl, b1⟩
      try with_reducible replace b1 := New.undrawN b1
      try with_reducible replace b1 := New.undraw b1
      obtain ⟨c1, f1⟩ := b1.rules
      have z1 := b1.size
      try simp only [World.size_alloc, World.size_drew, World.heap_drewN, World.size_setCell] at z1
      have z1_0 : w.heap.size < w1.heap.size := by omega
      go_wp2_with fail
      refine (sLine_any p _ _ _ _ s _ (HP.out.new (by repeat (first | with_reducible exact New.refl _ | with_reducible assumption | with_reducible refine New.drew ?_ | with_reducible refine New.drewN ?_ _ | with_reducible refine New.alloc ?_ _ | with_reducible refine New.setCell ?_ (by first | (simp; done) | (simp; omega) | omega) _ | with_reducible refine New.trans ?_ (by with_reducible assumption))))).mono ?_; rintro e w2 ⟨rfl, b2⟩
      try with_reducible replace b2 := New.undrawN b2
      try with_reducible replace b2 := New.undraw b2
      obtain ⟨c2, f2⟩ := b2.rules
      have z2 := b2.size
      try simp only [World.size_alloc, World.size_drew, World.heap_drewN, World.size_setCell] at z2
      have z2_0 : w.heap.size < w2.heap.size := by omega
      go_wp2_with fail
      go_ret2
      exact ⟨rfl, (by repeat (first | with_reducible exact New.refl _ | with_reducible assumption | with_reducible refine New.drew ?_ | with_reducible refine New.drewN ?_ _ | with_reducible refine New.alloc ?_ _ | with_reducible refine New.setCell ?_ (by first | (simp; done) | (simp; omega) | omega) _ | with_reducible refine New.trans ?_ (by with_reducible assumption)))⟩
  · rw [lineR_0 h1]
    go_enter Tryd.func10, Tryd.ntmps10
    go_wp2_with fail
    refine (sIsWritten_any p _ _ _ _ _ (HP.out.new (by repeat (first | with_reducible exact New.refl _ | with_reducible assumption | with_reducible refine New.drew ?_ | with_reducible refine New.drewN ?_ _ | with_reducible refine New.alloc ?_ _ | with_reducible refine New.setCell ?_ (by first | (simp; done) | (simp; omega) | omega) _ | with_reducible refine New.trans ?_ (by with_reducible assumption)))) hf ).mono ?_; rintro e w1 ⟨rfl, b1⟩
    try with_reducible replace b1 := New.undrawN b1
    try with_reducible replace b1 := New.undraw b1
    obtain ⟨c1, f1⟩ := b1.rules
    have z1 := b1.size
    try simp only [World.size_alloc, World.size_drew, World.heap_drewN, World.size_setCell] at z1
    have z1_0 : w.heap.size < w1.heap.size := by omega
    go_wp2_with fail
    go_ret2
    exact ⟨rfl, (by repeat (first | with_reducible exact New.refl _ | with_reducible assumption | with_reducible refine New.drew ?_ | with_reducible refine New.drewN ?_ _ | with_reducible refine New.alloc ?_ _ | with_reducible refine New.setCell ?_ (by first | (simp; done) | (simp; omega) | omega) _ | with_reducible refine New.trans ?_ (by with_reducible assumption)))⟩
theorem iProgramFault_any (p : ProgD) (iv vv ov lv : Value) (w : World) (hp : RdP w p iv vv ov lv) (hf : FitP p) (hk : KW w) :
    Calls Tryd.prog 22 #[valP p iv vv ov lv] w fun e w' => e = .returned (.tuple #[.int .i64 (pfR p).1, .int .i64 (pfR p).2]) ∧ New w w' := by
  have HP := Lib.hid hp; clear hp
  have HK := Lib.hid hk; clear hk
  rcases Bool.eq_false_or_eq_true (wB p) with h1 | h1
  · rw [pfR_1 h1]
    go_enter Tryd.func22, Tryd.ntmps22
    go_wp2_with fail
    refine (iIsWritten_any p _ _ _ _ _ (HP.out.new (by repeat (first | with_reducible exact New.refl _ | with_reducible assumption | with_reducible refine New.drew ?_ | with_reducible refine New.drewN ?_ _ | with_reducible refine New.alloc ?_ _ | with_reducible refine New.setCell ?_ (by first | (simp; done) | (simp; omega) | omega) _ | with_reducible refine New.trans ?_ (by with_reducible assumption)))) hf (HK.out.new (by repeat (first | with_reducible exact New.refl _ | with_reducible assumption | with_reducible refine New.drew ?_ | with_reducible refine New.drewN ?_ _ | with_reducible refine New.alloc ?_ _ | with_reducible refine New.setCell ?_ (by first | (simp; done) | (simp; omega) | omega) _ | with_reducible refine New.trans ?_ (by with_reducible assumption))))).mono ?_; rintro e w1 ⟨rfl, b1⟩
    try with_reducible replace b1 := New.undrawN b1
    try with_reducible replace b1 := New.undraw b1
    obtain ⟨c1, f1⟩ := b1.rules
    have z1 := b1.size
    try simp only [World.size_alloc, World.size_drew, World.heap_drewN, World.size_setCell] at z1
    have z1_0 : w.heap.size < w1.heap.size := by omega
    go_wp2_with fail
    refine (iFault_any p _ _ _ _ _ (HP.out.new (by repeat (first | with_reducible exact New.refl _ | with_reducible assumption | with_reducible refine New.drew ?_ | with_reducible refine New.drewN ?_ _ | with_reducible refine New.alloc ?_ _ | with_reducible refine New.setCell ?_ (by first | (simp; done) | (simp; omega) | omega) _ | with_reducible refine New.trans ?_ (by with_reducible assumption)))) hf).mono ?_; rintro e w2 ⟨rfl, b2⟩
    try with_reducible replace b2 := New.undrawN b2
    try with_reducible replace b2 := New.undraw b2
    obtain ⟨c2, f2⟩ := b2.rules
    have z2 := b2.size
    try simp only [World.size_alloc, World.size_drew, World.heap_drewN, World.size_setCell] at z2
    have z2_0 : w.heap.size < w2.heap.size := by omega
    go_wp2_with fail
    go_ret2
    exact ⟨rfl, (by repeat (first | with_reducible exact New.refl _ | with_reducible assumption | with_reducible refine New.drew ?_ | with_reducible refine New.drewN ?_ _ | with_reducible refine New.alloc ?_ _ | with_reducible refine New.setCell ?_ (by first | (simp; done) | (simp; omega) | omega) _ | with_reducible refine New.trans ?_ (by with_reducible assumption)))⟩
  · rw [pfR_0 h1]
    go_enter Tryd.func22, Tryd.ntmps22
    go_wp2_with fail
    refine (iIsWritten_any p _ _ _ _ _ (HP.out.new (by repeat (first | with_reducible exact New.refl _ | with_reducible assumption | with_reducible refine New.drew ?_ | with_reducible refine New.drewN ?_ _ | with_reducible refine New.alloc ?_ _ | with_reducible refine New.setCell ?_ (by first | (simp; done) | (simp; omega) | omega) _ | with_reducible refine New.trans ?_ (by with_reducible assumption)))) hf (HK.out.new (by repeat (first | with_reducible exact New.refl _ | with_reducible assumption | with_reducible refine New.drew ?_ | with_reducible refine New.drewN ?_ _ | with_reducible refine New.alloc ?_ _ | with_reducible refine New.setCell ?_ (by first | (simp; done) | (simp; omega) | omega) _ | with_reducible refine New.trans ?_ (by with_reducible assumption))))).mono ?_; rintro e w1 ⟨rfl, b1⟩
    try with_reducible replace b1 := New.undrawN b1
    try with_reducible replace b1 := New.undraw b1
    obtain ⟨c1, f1⟩ := b1.rules
    have z1 := b1.size
    try simp only [World.size_alloc, World.size_drew, World.heap_drewN, World.size_setCell] at z1
    have z1_0 : w.heap.size < w1.heap.size := by omega
    go_wp2_with fail
    go_ret2
    exact ⟨rfl, (by repeat (first | with_reducible exact New.refl _ | with_reducible assumption | with_reducible refine New.drew ?_ | with_reducible refine New.drewN ?_ _ | with_reducible refine New.alloc ?_ _ | with_reducible refine New.setCell ?_ (by first | (simp; done) | (simp; omega) | omega) _ | with_reducible refine New.trans ?_ (by with_reducible assumption)))⟩
theorem iIsSound_any (p : ProgD) (iv vv ov lv : Value) (w : World) (hp : RdP w p iv vv ov lv) (hf : FitP p) (hk : KW w) :
    Calls Tryd.prog 26 #[valP p iv vv ov lv] w fun e w' => e = .returned (.bool (soundB p)) ∧ New w w' := by
  have HP := Lib.hid hp; clear hp
  have HK := Lib.hid hk; clear hk
  rcases Bool.eq_false_or_eq_true (wB p) with h1 | h1
  · go_enter Tryd.func26, Tryd.ntmps26
    go_wp2_with fail
    refine (iIsWritten_any p _ _ _ _ _ (HP.out.new (by repeat (first | with_reducible exact New.refl _ | with_reducible assumption | with_reducible refine New.drew ?_ | with_reducible refine New.drewN ?_ _ | with_reducible refine New.alloc ?_ _ | with_reducible refine New.setCell ?_ (by first | (simp; done) | (simp; omega) | omega) _ | with_reducible refine New.trans ?_ (by with_reducible assumption)))) hf (HK.out.new (by repeat (first | with_reducible exact New.refl _ | with_reducible assumption | with_reducible refine New.drew ?_ | with_reducible refine New.drewN ?_ _ | with_reducible refine New.alloc ?_ _ | with_reducible refine New.setCell ?_ (by first | (simp; done) | (simp; omega) | omega) _ | with_reducible refine New.trans ?_ (by with_reducible assumption))))).mono ?_; rintro e w1 ⟨rfl, b1⟩
    try with_reducible replace b1 := New.undrawN b1
    try with_reducible replace b1 := New.undraw b1
    obtain ⟨c1, f1⟩ := b1.rules
    have z1 := b1.size
    try simp only [World.size_alloc, World.size_drew, World.heap_drewN, World.size_setCell] at z1
    have z1_0 : w.heap.size < w1.heap.size := by omega
    go_wp2_with fail
    refine (iFault_any p _ _ _ _ _ (HP.out.new (by repeat (first | with_reducible exact New.refl _ | with_reducible assumption | with_reducible refine New.drew ?_ | with_reducible refine New.drewN ?_ _ | with_reducible refine New.alloc ?_ _ | with_reducible refine New.setCell ?_ (by first | (simp; done) | (simp; omega) | omega) _ | with_reducible refine New.trans ?_ (by with_reducible assumption)))) hf).mono ?_; rintro e w2 ⟨rfl, b2⟩
    try with_reducible replace b2 := New.undrawN b2
    try with_reducible replace b2 := New.undraw b2
    obtain ⟨c2, f2⟩ := b2.rules
    have z2 := b2.size
    try simp only [World.size_alloc, World.size_drew, World.heap_drewN, World.size_setCell] at z2
    have z2_0 : w.heap.size < w2.heap.size := by omega
    go_wp2_with fail
    go_ret
    exact ⟨ret_bool (by rw [soundB, h1]; rfl), (by repeat (first | with_reducible exact New.refl _ | with_reducible assumption | with_reducible refine New.drew ?_ | with_reducible refine New.drewN ?_ _ | with_reducible refine New.alloc ?_ _ | with_reducible refine New.setCell ?_ (by first | (simp; done) | (simp; omega) | omega) _ | with_reducible refine New.trans ?_ (by with_reducible assumption)))⟩
  · go_enter Tryd.func26, Tryd.ntmps26
    go_wp2_with fail
    refine (iIsWritten_any p _ _ _ _ _ (HP.out.new (by repeat (first | with_reducible exact New.refl _ | with_reducible assumption | with_reducible refine New.drew ?_ | with_reducible refine New.drewN ?_ _ | with_reducible refine New.alloc ?_ _ | with_reducible refine New.setCell ?_ (by first | (simp; done) | (simp; omega) | omega) _ | with_reducible refine New.trans ?_ (by with_reducible assumption)))) hf (HK.out.new (by repeat (first | with_reducible exact New.refl _ | with_reducible assumption | with_reducible refine New.drew ?_ | with_reducible refine New.drewN ?_ _ | with_reducible refine New.alloc ?_ _ | with_reducible refine New.setCell ?_ (by first | (simp; done) | (simp; omega) | omega) _ | with_reducible refine New.trans ?_ (by with_reducible assumption))))).mono ?_; rintro e w1 ⟨rfl, b1⟩
    try with_reducible replace b1 := New.undrawN b1
    try with_reducible replace b1 := New.undraw b1
    obtain ⟨c1, f1⟩ := b1.rules
    have z1 := b1.size
    try simp only [World.size_alloc, World.size_drew, World.heap_drewN, World.size_setCell] at z1
    have z1_0 : w.heap.size < w1.heap.size := by omega
    go_wp2_with fail
    go_ret
    exact ⟨ret_bool (by rw [soundB, h1]; rfl), (by repeat (first | with_reducible exact New.refl _ | with_reducible assumption | with_reducible refine New.drew ?_ | with_reducible refine New.drewN ?_ _ | with_reducible refine New.alloc ?_ _ | with_reducible refine New.setCell ?_ (by first | (simp; done) | (simp; omega) | omega) _ | with_reducible refine New.trans ?_ (by with_reducible assumption)))⟩
theorem iLineOf_any (p : ProgD) (iv vv ov lv : Value) (s : ByteArray) (w : World) (hp : RdP w p iv vv ov lv) (hf : FitP p) (hk : KW w) :
    Calls Tryd.prog 9 #[valP p iv vv ov lv, .string s] w fun e w' => e = .returned (.tuple #[.int .i64 (lineR p s).1, .int .i64 (lineR p s).2]) ∧ New w w' := by
  have HP := Lib.hid hp; clear hp
  have HK := Lib.hid hk; clear hk
  rcases Bool.eq_false_or_eq_true (wB p) with h1 | h1
  · by_cases h2 : lineIdx p s < 0
    · rw [lineR_4 h1 h2]
      go_enter Tryd.func9, Tryd.ntmps9
      go_wp2_with fail
      refine (iIsWritten_any p _ _ _ _ _ (HP.out.new (by repeat (first | with_reducible exact New.refl _ | with_reducible assumption | with_reducible refine New.drew ?_ | with_reducible refine New.drewN ?_ _ | with_reducible refine New.alloc ?_ _ | with_reducible refine New.setCell ?_ (by first | (simp; done) | (simp; omega) | omega) _ | with_reducible refine New.trans ?_ (by with_reducible assumption)))) hf (HK.out.new (by repeat (first | with_reducible exact New.refl _ | with_reducible assumption | with_reducible refine New.drew ?_ | with_reducible refine New.drewN ?_ _ | with_reducible refine New.alloc ?_ _ | with_reducible refine New.setCell ?_ (by first | (simp; done) | (simp; omega) | omega) _ | with_reducible refine New.trans ?_ (by with_reducible assumption))))).mono ?_; rintro e w1 ⟨rfl, b1⟩
      try with_reducible replace b1 := New.undrawN b1
      try with_reducible replace b1 := New.undraw b1
      obtain ⟨c1, f1⟩ := b1.rules
      have z1 := b1.size
      try simp only [World.size_alloc, World.size_drew, World.heap_drewN, World.size_setCell] at z1
      have z1_0 : w.heap.size < w1.heap.size := by omega
      go_wp2_with fail
      refine (iLine_any p _ _ _ _ s _ (HP.out.new (by repeat (first | with_reducible exact New.refl _ | with_reducible assumption | with_reducible refine New.drew ?_ | with_reducible refine New.drewN ?_ _ | with_reducible refine New.alloc ?_ _ | with_reducible refine New.setCell ?_ (by first | (simp; done) | (simp; omega) | omega) _ | with_reducible refine New.trans ?_ (by with_reducible assumption))))).mono ?_; rintro e w2 ⟨rfl, b2⟩
      try with_reducible replace b2 := New.undrawN b2
      try with_reducible replace b2 := New.undraw b2
      obtain ⟨c2, f2⟩ := b2.rules
      have z2 := b2.size
      try simp only [World.size_alloc, World.size_drew, World.heap_drewN, World.size_setCell] at z2
      have z2_0 : w.heap.size < w2.heap.size := by omega
      go_wp2_with fail
      go_ret2
      exact ⟨rfl, (by repeat (first | with_reducible exact New.refl _ | with_reducible assumption | with_reducible refine New.drew ?_ | with_reducible refine New.drewN ?_ _ | with_reducible refine New.alloc ?_ _ | with_reducible refine New.setCell ?_ (by first | (simp; done) | (simp; omega) | omega) _ | with_reducible refine New.trans ?_ (by with_reducible assumption)))⟩
    · rw [lineR_1 h1 h2]
      go_enter Tryd.func9, Tryd.ntmps9
      go_wp2_with fail
      refine (iIsWritten_any p _ _ _ _ _ (HP.out.new (by repeat (first | with_reducible exact New.refl _ | with_reducible assumption | with_reducible refine New.drew ?_ | with_reducible refine New.drewN ?_ _ | with_reducible refine New.alloc ?_ _ | with_reducible refine New.setCell ?_ (by first | (simp; done) | (simp; omega) | omega) _ | with_reducible refine New.trans ?_ (by with_reducible assumption)))) hf (HK.out.new (by repeat (first | with_reducible exact New.refl _ | with_reducible assumption | with_reducible refine New.drew ?_ | with_reducible refine New.drewN ?_ _ | with_reducible refine New.alloc ?_ _ | with_reducible refine New.setCell ?_ (by first | (simp; done) | (simp; omega) | omega) _ | with_reducible refine New.trans ?_ (by with_reducible assumption))))).mono ?_; rintro e w1 ⟨rfl, b1⟩
      try with_reducible replace b1 := New.undrawN b1
      try with_reducible replace b1 := New.undraw b1
      obtain ⟨c1, f1⟩ := b1.rules
      have z1 := b1.size
      try simp only [World.size_alloc, World.size_drew, World.heap_drewN, World.size_setCell] at z1
      have z1_0 : w.heap.size < w1.heap.size := by omega
      go_wp2_with fail
      refine (iLine_any p _ _ _ _ s _ (HP.out.new (by repeat (first | with_reducible exact New.refl _ | with_reducible assumption | with_reducible refine New.drew ?_ | with_reducible refine New.drewN ?_ _ | with_reducible refine New.alloc ?_ _ | with_reducible refine New.setCell ?_ (by first | (simp; done) | (simp; omega) | omega) _ | with_reducible refine New.trans ?_ (by with_reducible assumption))))).mono ?_; rintro e w2 ⟨rfl, b2⟩
      try with_reducible replace b2 := New.undrawN b2
      try with_reducible replace b2 := New.undraw b2
      obtain ⟨c2, f2⟩ := b2.rules
      have z2 := b2.size
      try simp only [World.size_alloc, World.size_drew, World.heap_drewN, World.size_setCell] at z2
      have z2_0 : w.heap.size < w2.heap.size := by omega
      go_wp2_with fail
      go_ret2
      exact ⟨rfl, (by repeat (first | with_reducible exact New.refl _ | with_reducible assumption | with_reducible refine New.drew ?_ | with_reducible refine New.drewN ?_ _ | with_reducible refine New.alloc ?_ _ | with_reducible refine New.setCell ?_ (by first | (simp; done) | (simp; omega) | omega) _ | with_reducible refine New.trans ?_ (by with_reducible assumption)))⟩
  · rw [lineR_0 h1]
    go_enter Tryd.func9, Tryd.ntmps9
    go_wp2_with fail
    refine (iIsWritten_any p _ _ _ _ _ (HP.out.new (by repeat (first | with_reducible exact New.refl _ | with_reducible assumption | with_reducible refine New.drew ?_ | with_reducible refine New.drewN ?_ _ | with_reducible refine New.alloc ?_ _ | with_reducible refine New.setCell ?_ (by first | (simp; done) | (simp; omega) | omega) _ | with_reducible refine New.trans ?_ (by with_reducible assumption)))) hf (HK.out.new (by repeat (first | with_reducible exact New.refl _ | with_reducible assumption | with_reducible refine New.drew ?_ | with_reducible refine New.drewN ?_ _ | with_reducible refine New.alloc ?_ _ | with_reducible refine New.setCell ?_ (by first | (simp; done) | (simp; omega) | omega) _ | with_reducible refine New.trans ?_ (by with_reducible assumption))))).mono ?_; rintro e w1 ⟨rfl, b1⟩
    try with_reducible replace b1 := New.undrawN b1
    try with_reducible replace b1 := New.undraw b1
    obtain ⟨c1, f1⟩ := b1.rules
    have z1 := b1.size
    try simp only [World.size_alloc, World.size_drew, World.heap_drewN, World.size_setCell] at z1
    have z1_0 : w.heap.size < w1.heap.size := by omega
    go_wp2_with fail
    go_ret2
    exact ⟨rfl, (by repeat (first | with_reducible exact New.refl _ | with_reducible assumption | with_reducible refine New.drew ?_ | with_reducible refine New.drewN ?_ _ | with_reducible refine New.alloc ?_ _ | with_reducible refine New.setCell ?_ (by first | (simp; done) | (simp; omega) | omega) _ | with_reducible refine New.trans ?_ (by with_reducible assumption)))⟩
theorem sSoundCode_any (p : ProgD) (iv vv ov lv : Value) (w : World) (hp : RdP w p iv vv ov lv) (hf : FitP p)  :
    Calls Tryd.prog 56 #[valP p iv vv ov lv] w fun e w' => e = .returned (.int .i64 (codeR p)) ∧ New w w' := by
  have HP := Lib.hid hp; clear hp
  skip
  rcases Bool.eq_false_or_eq_true (wB p) with h1 | h1
  · by_cases h2 : faultS p = 0
    · have h3 : (faultS p != 0) = false := by simp [h2]
      rw [codeR_1 h1 h2]
      clear h2
      go_enter Tryd.func56, Tryd.ntmps56
      go_wp2_with fail
      refine (sIsWritten_any p _ _ _ _ _ (HP.out.new (by repeat (first | with_reducible exact New.refl _ | with_reducible assumption | with_reducible refine New.drew ?_ | with_reducible refine New.drewN ?_ _ | with_reducible refine New.alloc ?_ _ | with_reducible refine New.setCell ?_ (by first | (simp; done) | (simp; omega) | omega) _ | with_reducible refine New.trans ?_ (by with_reducible assumption)))) hf ).mono ?_; rintro e w1 ⟨rfl, b1⟩
      try with_reducible replace b1 := New.undrawN b1
      try with_reducible replace b1 := New.undraw b1
      obtain ⟨c1, f1⟩ := b1.rules
      have z1 := b1.size
      try simp only [World.size_alloc, World.size_drew, World.heap_drewN, World.size_setCell] at z1
      have z1_0 : w.heap.size < w1.heap.size := by omega
      go_wp2_with fail
      refine (sFault_any p _ _ _ _ _ (HP.out.new (by repeat (first | with_reducible exact New.refl _ | with_reducible assumption | with_reducible refine New.drew ?_ | with_reducible refine New.drewN ?_ _ | with_reducible refine New.alloc ?_ _ | with_reducible refine New.setCell ?_ (by first | (simp; done) | (simp; omega) | omega) _ | with_reducible refine New.trans ?_ (by with_reducible assumption)))) hf).mono ?_; rintro e w2 ⟨rfl, b2⟩
      try with_reducible replace b2 := New.undrawN b2
      try with_reducible replace b2 := New.undraw b2
      obtain ⟨c2, f2⟩ := b2.rules
      have z2 := b2.size
      try simp only [World.size_alloc, World.size_drew, World.heap_drewN, World.size_setCell] at z2
      have z2_0 : w.heap.size < w2.heap.size := by omega
      go_wp2_with fail
      go_ret
      exact ⟨rfl, (by repeat (first | with_reducible exact New.refl _ | with_reducible assumption | with_reducible refine New.drew ?_ | with_reducible refine New.drewN ?_ _ | with_reducible refine New.alloc ?_ _ | with_reducible refine New.setCell ?_ (by first | (simp; done) | (simp; omega) | omega) _ | with_reducible refine New.trans ?_ (by with_reducible assumption)))⟩
    · have h3 : (faultS p != 0) = true := by simp [h2]
      rw [codeR_5 h1 h2]
      clear h2
      go_enter Tryd.func56, Tryd.ntmps56
      go_wp2_with fail
      refine (sIsWritten_any p _ _ _ _ _ (HP.out.new (by repeat (first | with_reducible exact New.refl _ | with_reducible assumption | with_reducible refine New.drew ?_ | with_reducible refine New.drewN ?_ _ | with_reducible refine New.alloc ?_ _ | with_reducible refine New.setCell ?_ (by first | (simp; done) | (simp; omega) | omega) _ | with_reducible refine New.trans ?_ (by with_reducible assumption)))) hf ).mono ?_; rintro e w1 ⟨rfl, b1⟩
      try with_reducible replace b1 := New.undrawN b1
      try with_reducible replace b1 := New.undraw b1
      obtain ⟨c1, f1⟩ := b1.rules
      have z1 := b1.size
      try simp only [World.size_alloc, World.size_drew, World.heap_drewN, World.size_setCell] at z1
      have z1_0 : w.heap.size < w1.heap.size := by omega
      go_wp2_with fail
      refine (sFault_any p _ _ _ _ _ (HP.out.new (by repeat (first | with_reducible exact New.refl _ | with_reducible assumption | with_reducible refine New.drew ?_ | with_reducible refine New.drewN ?_ _ | with_reducible refine New.alloc ?_ _ | with_reducible refine New.setCell ?_ (by first | (simp; done) | (simp; omega) | omega) _ | with_reducible refine New.trans ?_ (by with_reducible assumption)))) hf).mono ?_; rintro e w2 ⟨rfl, b2⟩
      try with_reducible replace b2 := New.undrawN b2
      try with_reducible replace b2 := New.undraw b2
      obtain ⟨c2, f2⟩ := b2.rules
      have z2 := b2.size
      try simp only [World.size_alloc, World.size_drew, World.heap_drewN, World.size_setCell] at z2
      have z2_0 : w.heap.size < w2.heap.size := by omega
      go_wp2_with fail
      go_ret
      exact ⟨rfl, (by repeat (first | with_reducible exact New.refl _ | with_reducible assumption | with_reducible refine New.drew ?_ | with_reducible refine New.drewN ?_ _ | with_reducible refine New.alloc ?_ _ | with_reducible refine New.setCell ?_ (by first | (simp; done) | (simp; omega) | omega) _ | with_reducible refine New.trans ?_ (by with_reducible assumption)))⟩
  · rw [codeR_0 h1]
    go_enter Tryd.func56, Tryd.ntmps56
    go_wp2_with fail
    refine (sIsWritten_any p _ _ _ _ _ (HP.out.new (by repeat (first | with_reducible exact New.refl _ | with_reducible assumption | with_reducible refine New.drew ?_ | with_reducible refine New.drewN ?_ _ | with_reducible refine New.alloc ?_ _ | with_reducible refine New.setCell ?_ (by first | (simp; done) | (simp; omega) | omega) _ | with_reducible refine New.trans ?_ (by with_reducible assumption)))) hf ).mono ?_; rintro e w1 ⟨rfl, b1⟩
    try with_reducible replace b1 := New.undrawN b1
    try with_reducible replace b1 := New.undraw b1
    obtain ⟨c1, f1⟩ := b1.rules
    have z1 := b1.size
    try simp only [World.size_alloc, World.size_drew, World.heap_drewN, World.size_setCell] at z1
    have z1_0 : w.heap.size < w1.heap.size := by omega
    go_wp2_with fail
    go_ret
    exact ⟨rfl, (by repeat (first | with_reducible exact New.refl _ | with_reducible assumption | with_reducible refine New.drew ?_ | with_reducible refine New.drewN ?_ _ | with_reducible refine New.alloc ?_ _ | with_reducible refine New.setCell ?_ (by first | (simp; done) | (simp; omega) | omega) _ | with_reducible refine New.trans ?_ (by with_reducible assumption)))⟩
theorem iSoundCode_any (p : ProgD) (iv vv ov lv : Value) (w : World) (hp : RdP w p iv vv ov lv) (hf : FitP p) (hk : KW w) :
    Calls Tryd.prog 55 #[valP p iv vv ov lv] w fun e w' => e = .returned (.int .i64 (codeR p)) ∧ New w w' := by
  have HP := Lib.hid hp; clear hp
  have HK := Lib.hid hk; clear hk
  rcases Bool.eq_false_or_eq_true (wB p) with h1 | h1
  · by_cases h2 : faultS p = 0
    · have h3 : (faultS p != 0) = false := by simp [h2]
      rw [codeR_1 h1 h2]
      clear h2
      go_enter Tryd.func55, Tryd.ntmps55
      go_wp2_with fail
      refine (iIsWritten_any p _ _ _ _ _ (HP.out.new (by repeat (first | with_reducible exact New.refl _ | with_reducible assumption | with_reducible refine New.drew ?_ | with_reducible refine New.drewN ?_ _ | with_reducible refine New.alloc ?_ _ | with_reducible refine New.setCell ?_ (by first | (simp; done) | (simp; omega) | omega) _ | with_reducible refine New.trans ?_ (by with_reducible assumption)))) hf (HK.out.new (by repeat (first | with_reducible exact New.refl _ | with_reducible assumption | with_reducible refine New.drew ?_ | with_reducible refine New.drewN ?_ _ | with_reducible refine New.alloc ?_ _ | with_reducible refine New.setCell ?_ (by first | (simp; done) | (simp; omega) | omega) _ | with_reducible refine New.trans ?_ (by with_reducible assumption))))).mono ?_; rintro e w1 ⟨rfl, b1⟩
      try with_reducible replace b1 := New.undrawN b1
      try with_reducible replace b1 := New.undraw b1
      obtain ⟨c1, f1⟩ := b1.rules
      have z1 := b1.size
      try simp only [World.size_alloc, World.size_drew, World.heap_drewN, World.size_setCell] at z1
      have z1_0 : w.heap.size < w1.heap.size := by omega
      go_wp2_with fail
      refine (iFault_any p _ _ _ _ _ (HP.out.new (by repeat (first | with_reducible exact New.refl _ | with_reducible assumption | with_reducible refine New.drew ?_ | with_reducible refine New.drewN ?_ _ | with_reducible refine New.alloc ?_ _ | with_reducible refine New.setCell ?_ (by first | (simp; done) | (simp; omega) | omega) _ | with_reducible refine New.trans ?_ (by with_reducible assumption)))) hf).mono ?_; rintro e w2 ⟨rfl, b2⟩
      try with_reducible replace b2 := New.undrawN b2
      try with_reducible replace b2 := New.undraw b2
      obtain ⟨c2, f2⟩ := b2.rules
      have z2 := b2.size
      try simp only [World.size_alloc, World.size_drew, World.heap_drewN, World.size_setCell] at z2
      have z2_0 : w.heap.size < w2.heap.size := by omega
      go_wp2_with fail
      go_ret
      exact ⟨rfl, (by repeat (first | with_reducible exact New.refl _ | with_reducible assumption | with_reducible refine New.drew ?_ | with_reducible refine New.drewN ?_ _ | with_reducible refine New.alloc ?_ _ | with_reducible refine New.setCell ?_ (by first | (simp; done) | (simp; omega) | omega) _ | with_reducible refine New.trans ?_ (by with_reducible assumption)))⟩
    · have h3 : (faultS p != 0) = true := by simp [h2]
      rw [codeR_5 h1 h2]
      clear h2
      go_enter Tryd.func55, Tryd.ntmps55
      go_wp2_with fail
      refine (iIsWritten_any p _ _ _ _ _ (HP.out.new (by repeat (first | with_reducible exact New.refl _ | with_reducible assumption | with_reducible refine New.drew ?_ | with_reducible refine New.drewN ?_ _ | with_reducible refine New.alloc ?_ _ | with_reducible refine New.setCell ?_ (by first | (simp; done) | (simp; omega) | omega) _ | with_reducible refine New.trans ?_ (by with_reducible assumption)))) hf (HK.out.new (by repeat (first | with_reducible exact New.refl _ | with_reducible assumption | with_reducible refine New.drew ?_ | with_reducible refine New.drewN ?_ _ | with_reducible refine New.alloc ?_ _ | with_reducible refine New.setCell ?_ (by first | (simp; done) | (simp; omega) | omega) _ | with_reducible refine New.trans ?_ (by with_reducible assumption))))).mono ?_; rintro e w1 ⟨rfl, b1⟩
      try with_reducible replace b1 := New.undrawN b1
      try with_reducible replace b1 := New.undraw b1
      obtain ⟨c1, f1⟩ := b1.rules
      have z1 := b1.size
      try simp only [World.size_alloc, World.size_drew, World.heap_drewN, World.size_setCell] at z1
      have z1_0 : w.heap.size < w1.heap.size := by omega
      go_wp2_with fail
      refine (iFault_any p _ _ _ _ _ (HP.out.new (by repeat (first | with_reducible exact New.refl _ | with_reducible assumption | with_reducible refine New.drew ?_ | with_reducible refine New.drewN ?_ _ | with_reducible refine New.alloc ?_ _ | with_reducible refine New.setCell ?_ (by first | (simp; done) | (simp; omega) | omega) _ | with_reducible refine New.trans ?_ (by with_reducible assumption)))) hf).mono ?_; rintro e w2 ⟨rfl, b2⟩
      try with_reducible replace b2 := New.undrawN b2
      try with_reducible replace b2 := New.undraw b2
      obtain ⟨c2, f2⟩ := b2.rules
      have z2 := b2.size
      try simp only [World.size_alloc, World.size_drew, World.heap_drewN, World.size_setCell] at z2
      have z2_0 : w.heap.size < w2.heap.size := by omega
      go_wp2_with fail
      go_ret
      exact ⟨rfl, (by repeat (first | with_reducible exact New.refl _ | with_reducible assumption | with_reducible refine New.drew ?_ | with_reducible refine New.drewN ?_ _ | with_reducible refine New.alloc ?_ _ | with_reducible refine New.setCell ?_ (by first | (simp; done) | (simp; omega) | omega) _ | with_reducible refine New.trans ?_ (by with_reducible assumption)))⟩
  · rw [codeR_0 h1]
    go_enter Tryd.func55, Tryd.ntmps55
    go_wp2_with fail
    refine (iIsWritten_any p _ _ _ _ _ (HP.out.new (by repeat (first | with_reducible exact New.refl _ | with_reducible assumption | with_reducible refine New.drew ?_ | with_reducible refine New.drewN ?_ _ | with_reducible refine New.alloc ?_ _ | with_reducible refine New.setCell ?_ (by first | (simp; done) | (simp; omega) | omega) _ | with_reducible refine New.trans ?_ (by with_reducible assumption)))) hf (HK.out.new (by repeat (first | with_reducible exact New.refl _ | with_reducible assumption | with_reducible refine New.drew ?_ | with_reducible refine New.drewN ?_ _ | with_reducible refine New.alloc ?_ _ | with_reducible refine New.setCell ?_ (by first | (simp; done) | (simp; omega) | omega) _ | with_reducible refine New.trans ?_ (by with_reducible assumption))))).mono ?_; rintro e w1 ⟨rfl, b1⟩
    try with_reducible replace b1 := New.undrawN b1
    try with_reducible replace b1 := New.undraw b1
    obtain ⟨c1, f1⟩ := b1.rules
    have z1 := b1.size
    try simp only [World.size_alloc, World.size_drew, World.heap_drewN, World.size_setCell] at z1
    have z1_0 : w.heap.size < w1.heap.size := by omega
    go_wp2_with fail
    go_ret
    exact ⟨rfl, (by repeat (first | with_reducible exact New.refl _ | with_reducible assumption | with_reducible refine New.drew ?_ | with_reducible refine New.drewN ?_ _ | with_reducible refine New.alloc ?_ _ | with_reducible refine New.setCell ?_ (by first | (simp; done) | (simp; omega) | omega) _ | with_reducible refine New.trans ?_ (by with_reducible assumption)))⟩
end Go.Proofs.YteielmihlfakgaaDoor
