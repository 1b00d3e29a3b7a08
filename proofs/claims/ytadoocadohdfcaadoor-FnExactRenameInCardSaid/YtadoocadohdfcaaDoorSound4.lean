/- Contracts: the rules of programs: the reference's own function. -/
import Derived.Test.YtadoocadohdfcaaDoorProg
import Derived.Test.YtadoocadohdfcaaDoorSound3
namespace Go.Proofs.YtadoocadohdfcaaDoor
open Go Go.Proofs Go.RowKit
set_option linter.unusedVariables false
set_option linter.unusedSimpArgs false
set_option maxRecDepth 100000
theorem faultS_1 {p : ProgD} (h : twB (allP p) = true) : faultS p = 1 := by rw [faultS, if_pos h]
theorem faultS_2 {p : ProgD} (h : twB (allP p) = false) (h2 : bad2 p = true) : faultS p = 2 := by rw [faultS, if_neg (by simp [h]), if_pos h2]
theorem faultS_3 {p : ProgD} (h : twB (allP p) = false) (h2 : bad2 p = false) (h3 : (targetsP p).any (out3 p) = true) : faultS p = 3 := by
  rw [faultS, if_neg (by simp [h]), if_neg (by simp [h2]), if_pos h3]
theorem faultS_4 {p : ProgD} (h : twB (allP p) = false) (h2 : bad2 p = false) (h3 : (targetsP p).any (out3 p) = false) (h4 : twB (targetsP p) = true) : faultS p = 4 := by
  rw [faultS, if_neg (by simp [h]), if_neg (by simp [h2]), if_neg (by rw [h3]; simp), if_pos h4]
theorem faultS_5 {p : ProgD} (h : twB (allP p) = false) (h2 : bad2 p = false) (h3 : (targetsP p).any (out3 p) = false) (h4 : twB (targetsP p) = false) (h5 : (targetsP p).length < p.vars.length + p.outputs.length) : faultS p = 5 := by
  rw [faultS, if_neg (by simp [h]), if_neg (by simp [h2]), if_neg (by rw [h3]; simp), if_neg (by simp [h4]), if_pos h5]
theorem faultS_6 {p : ProgD} (h : twB (allP p) = false) (h2 : bad2 p = false) (h3 : (targetsP p).any (out3 p) = false) (h4 : twB (targetsP p) = false) (h5 : ¬ (targetsP p).length < p.vars.length + p.outputs.length) (h6 : p.lines.any (unkL p) = true) : faultS p = 6 := by
  rw [faultS, if_neg (by simp [h]), if_neg (by simp [h2]), if_neg (by rw [h3]; simp), if_neg (by simp [h4]), if_neg h5, if_pos h6]
theorem faultS_0 {p : ProgD} (h : twB (allP p) = false) (h2 : bad2 p = false) (h3 : (targetsP p).any (out3 p) = false) (h4 : twB (targetsP p) = false) (h5 : ¬ (targetsP p).length < p.vars.length + p.outputs.length) (h6 : p.lines.any (unkL p) = false) : faultS p = 0 := by
  rw [faultS, if_neg (by simp [h]), if_neg (by simp [h2]), if_neg (by rw [h3]; simp), if_neg (by simp [h4]), if_neg h5, if_neg (by rw [h6]; simp)]
theorem targets_len (p : ProgD) : (targetsP p).length = p.lines.length := by simp [targetsP]
theorem targets_take {p : ProgD} {ps : List LV} (h : ps.map Prod.fst = p.lines) (k : Nat) (hk : k < ps.length) : (targetsP p).take (k + 1) = (targetsP p).take k ++ [ps[k].1.target] := by
  have e : targetsP p = ps.map (fun q => q.1.target) := by rw [targetsP, ← h, List.map_map]; rfl
  rw [e, List.take_succ_eq_append_getElem (by simpa using hk)]; simp
theorem any_snoc {α : Type} (f : α → Bool) (xs : List α) (x : α) : (xs ++ [x]).any f = (xs.any f || f x) := by simp
theorem any_prefix {α : Type} {f : α → Bool} {xs ys : List α} (h : xs.any f = true) (e : ∃ zs, xs ++ zs = ys) : ys.any f = true := by
  obtain ⟨zs, rfl⟩ := e
  rw [List.any_append, h]; rfl
set_option maxHeartbeats 8000000 in
theorem sFault_any (p : ProgD) (iv vv ov lv : Value) (w : World) (hp : RdP w p iv vv ov lv) (hf : FitP p) :
    Calls Tryd.prog 69 #[valP p iv vv ov lv] w fun e w' => e = .returned (.int .i64 (faultS p)) ∧ New w w' := by
  obtain ⟨i0, hi, hz0, hz1, hz2⟩ := info_parts infoStrC
  have HP := Lib.hid hp
  obtain ⟨h1, h2, h3, h4⟩ := hp
  obtain ⟨ia, ic, rfl, _⟩ := id h1
  obtain ⟨ja, jc, rfl, _⟩ := id h2
  obtain ⟨oa, oc, rfl, _⟩ := id h3
  clear h1 h2 h3
  obtain ⟨ps, hps, hl1, hl2⟩ := h4
  obtain ⟨la, lc, rfl, hm, HC⟩ := Rd.flat encLV_len (by omega) hl1
  have HT := Lib.hid hl2; clear hl1 hl2
  have hpl : p.lines.length = ps.length := by rw [← hps, List.length_map]
  have hpm : ps.length ≤ 1048576 := by rw [← hpl]; exact hf.linesl
  have hvm := hf.varsl
  have hom := hf.outsl
  have HTL := Lib.hid (targets_len p)
  have HTT := Lib.hid (fun k hk => targets_take hps k hk)
  have HPS := Lib.hid hps; clear hps
  have HPL := Lib.hid hpl; clear hpl
  have HF := Lib.hid hf; clear hf
  have zz : w.heap.size < w.heap.size + 1 := by omega
  rcases Bool.eq_false_or_eq_true (twB (allP p)) with h1 | h1
  · go_enter Tryd.func69, Tryd.ntmps69
    go_wp2_with fail
    refine (sAll_any p _ _ _ _ _ (HP.out.new (by repeat (first | with_reducible exact New.refl _ | with_reducible assumption | with_reducible refine New.drew ?_ | with_reducible refine New.drewN ?_ _ | with_reducible refine New.alloc ?_ _ | with_reducible refine New.setCell ?_ (by first | (simp; done) | (simp; omega) | omega) _ | with_reducible refine New.trans ?_ (by with_reducible assumption)))) HF.out).mono ?_; rintro e w1 ⟨r1, rfl, b1, own1⟩
    obtain ⟨c1, f1⟩ := b1.rules
    have z1 := b1.size
    try simp only [World.size_alloc, World.size_drew, World.heap_drewN, World.size_setCell] at z1
    have z1_0 : w.heap.size < w1.heap.size := by omega
    go_wp2_with fail
    refine (sTwice_any _ (allP p) _ (own_rd own1)).mono ?_; rintro e w2 ⟨rfl, b2⟩
    try with_reducible replace b2 := New.undrawN b2
    try with_reducible replace b2 := New.undraw b2
    obtain ⟨c2, f2⟩ := b2.rules
    have z2 := b2.size
    try simp only [World.size_alloc, World.size_drew, World.heap_drewN, World.size_setCell] at z2
    have z2_0 : w.heap.size < w2.heap.size := by omega
    go_wp2_with fail
    go_ret
    exact ⟨ret_int (faultS_1 h1).symm, (by repeat (first | with_reducible exact New.refl _ | with_reducible assumption | with_reducible refine New.drew ?_ | with_reducible refine New.drewN ?_ _ | with_reducible refine New.alloc ?_ _ | with_reducible refine New.setCell ?_ (by first | (simp; done) | (simp; omega) | omega) _ | with_reducible refine New.trans ?_ (by with_reducible assumption)))⟩
  rcases Bool.eq_false_or_eq_true (p.guard.toList.isEmpty) with he | he
  · have h2 : bad2 p = false := by rw [bad2, he]; rfl
    go_enter Tryd.func69, Tryd.ntmps69
    go_wp2_with fail
    refine (sAll_any p _ _ _ _ _ (HP.out.new (by repeat (first | with_reducible exact New.refl _ | with_reducible assumption | with_reducible refine New.drew ?_ | with_reducible refine New.drewN ?_ _ | with_reducible refine New.alloc ?_ _ | with_reducible refine New.setCell ?_ (by first | (simp; done) | (simp; omega) | omega) _ | with_reducible refine New.trans ?_ (by with_reducible assumption)))) HF.out).mono ?_; rintro e w1 ⟨r1, rfl, b1, own1⟩
    obtain ⟨c1, f1⟩ := b1.rules
    have z1 := b1.size
    try simp only [World.size_alloc, World.size_drew, World.heap_drewN, World.size_setCell] at z1
    have z1_0 : w.heap.size < w1.heap.size := by omega
    go_wp2_with fail
    refine (sTwice_any _ (allP p) _ (own_rd own1)).mono ?_; rintro e w2 ⟨rfl, b2⟩
    try with_reducible replace b2 := New.undrawN b2
    try with_reducible replace b2 := New.undraw b2
    obtain ⟨c2, f2⟩ := b2.rules
    have z2 := b2.size
    try simp only [World.size_alloc, World.size_drew, World.heap_drewN, World.size_setCell] at z2
    have z2_0 : w.heap.size < w2.heap.size := by omega
    go_wp2_with fail
    have h12 := Lib.hid (And.intro h1 h2)
    go_loopw [3, 4] (fun t i wr => ∃ k : Nat, k ≤ ps.length ∧ i = .int .i64 k ∧ Hid (((targetsP p).take k).any (out3 p) = false) ∧ New (w.alloc (.cells #[.string p.name, .slice ia p.inputs.length ic, .slice ja p.vars.length jc, .slice oa p.outputs.length oc, .string p.guard, .slice la ps.length lc] 29)) wr ∧ wr.ownsRow (w.heap.size + 1) 9 1 t k (((targetsP p).take k).map Value.string)) (fun _ i _ => ps.length - (intOf i).toNat)
    case atStart => exact ⟨0, Nat.zero_le _, rfl, rfl, (by repeat (first | with_reducible exact New.refl _ | with_reducible assumption | with_reducible refine New.drew ?_ | with_reducible refine New.drewN ?_ _ | with_reducible refine New.alloc ?_ _ | with_reducible refine New.setCell ?_ (by first | (simp; done) | (simp; omega) | omega) _ | with_reducible refine New.trans ?_ (by with_reducible assumption))), own_empty (by omega)⟩
    case round =>
      obtain ⟨k, hk, rfl, hpre, hb, hown⟩ := hrel
      clear c1 f1 c2 f2 b1 b2
      try clear c3 f3 b3
      obtain ⟨cc, f'⟩ := hb.rules
      have hbz := hb.size
      simp only [World.size_alloc] at hbz
      have hb0 : New w wr := ((New.refl w).alloc _).trans hb
      by_cases hlt : k < ps.length
      · obtain ⟨b, off, rfl, hbl, hx⟩ := HC.out k hlt
        have x0 := hx 0 _ (by omega) rfl
        have x1 := hx 1 _ (by omega) rfl
        rw [Nat.add_zero] at x0
        replace hx := Lib.hid hx
        have hbw : b < wr.heap.size := by omega
        have hbw1 : b < w.heap.size + 1 := by omega
        have hww : w.heap.size < wr.heap.size := by omega
        have HM1 := Lib.hid (idx_memN ps[k].1.target p.vars)
        have HM2 := Lib.hid (idx_memN ps[k].1.target p.outputs)
        have HO := Lib.hid (show out3 p ps[k].1.target = !(memS p.vars ps[k].1.target || memS p.outputs ps[k].1.target) by rw [out3, madeP, memS_append])
        have HS := Lib.hid (show ((targetsP p).take (k + 1)).any (out3 p) = out3 p ps[k].1.target by rw [HTT.out k hlt, any_snoc, hpre.out]; rfl)
        rcases Bool.eq_false_or_eq_true (decide (idx (fun y => ps[k].1.target.toList == y.toList) p.vars < 0)) with g1 | g1
        · rcases Bool.eq_false_or_eq_true (decide (idx (fun y => ps[k].1.target.toList == y.toList) p.outputs < 0)) with g2 | g2
          · have HA := Lib.hid (show (targetsP p).any (out3 p) = true from any_prefix (xs := (targetsP p).take (k + 1)) (by rw [HS.out, HO.out, Bool.not_or, ← HM1.out, ← HM2.out, g1, g2]; rfl) ⟨_, List.take_append_drop _ _⟩)
            go_wp2_with fail
            refine (sIndex14_any _ _ p.vars _ (Rd.new HP.out.vars (by repeat (first | with_reducible exact New.refl _ | with_reducible assumption | with_reducible refine New.drew ?_ | with_reducible refine New.drewN ?_ _ | with_reducible refine New.alloc ?_ _ | with_reducible refine New.setCell ?_ (by first | (simp; done) | (simp; omega) | omega) _ | with_reducible refine New.trans ?_ (by with_reducible assumption))))).mono ?_; rintro e w5 ⟨rfl, rfl⟩
            go_wp2_with fail
            refine (sIndex14_any _ _ p.outputs _ (Rd.new HP.out.outs (by repeat (first | with_reducible exact New.refl _ | with_reducible assumption | with_reducible refine New.drew ?_ | with_reducible refine New.drewN ?_ _ | with_reducible refine New.alloc ?_ _ | with_reducible refine New.setCell ?_ (by first | (simp; done) | (simp; omega) | omega) _ | with_reducible refine New.trans ?_ (by with_reducible assumption))))).mono ?_; rintro e w5 ⟨rfl, rfl⟩
            go_wp2_with fail
            go_ret
            exact ⟨ret_int (faultS_3 h12.out.1 h12.out.2 HA.out).symm, hb0⟩
          · have HA := Lib.hid (show ((targetsP p).take (k + 1)).any (out3 p) = false by rw [HS.out, HO.out, Bool.not_or, ← HM2.out, g2, Bool.and_false])
            go_wp2_with fail
            refine (sIndex14_any _ _ p.vars _ (Rd.new HP.out.vars (by repeat (first | with_reducible exact New.refl _ | with_reducible assumption | with_reducible refine New.drew ?_ | with_reducible refine New.drewN ?_ _ | with_reducible refine New.alloc ?_ _ | with_reducible refine New.setCell ?_ (by first | (simp; done) | (simp; omega) | omega) _ | with_reducible refine New.trans ?_ (by with_reducible assumption))))).mono ?_; rintro e w5 ⟨rfl, rfl⟩
            go_wp2_with fail
            refine (sIndex14_any _ _ p.outputs _ (Rd.new HP.out.outs (by repeat (first | with_reducible exact New.refl _ | with_reducible assumption | with_reducible refine New.drew ?_ | with_reducible refine New.drewN ?_ _ | with_reducible refine New.alloc ?_ _ | with_reducible refine New.setCell ?_ (by first | (simp; done) | (simp; omega) | omega) _ | with_reducible refine New.trans ?_ (by with_reducible assumption))))).mono ?_; rintro e w5 ⟨rfl, rfl⟩
            go_wp2_with (first | ((at_builtin; refine wpList_append_own _ rfl _ _ 22 rfl (w.heap.size + 1) 9 i0 (.string ⟨#[]⟩) 1 16 Tryd.underlying22 hi hz0 hz1 hz2 rfl (by decide) _ _ _ rfl ((hown.alloc _)) ⟨wr.heap.size, 0, none⟩ 1 1 [.string (ps[k].1.target)] rfl rfl (by intro j u hj; match j, hj with | 0, hj => simp at hj; subst hj; first | (simp [Addr.add]; done) | exact alloc_one rfl) (by intro u hu; simp at hu; subst hu; rfl) (by unfold maxLen; omega) (by omega) (by first | (simp; done) | (simp; omega) | omega) ?_; intro va wa howna hgra _)))
            have ba := New.grown (hb.alloc _) hgra (fun q hq => by have := (own_block_lt hown q hq).1; simpa using this)
            go_roundw
            case rel => exact ⟨k + 1, by omega, by go_num, HA, ba, by rw [HTT.out k hlt, List.map_append]; exact howna⟩
            case measure => simp [intOf]; omega
        · have HA := Lib.hid (show ((targetsP p).take (k + 1)).any (out3 p) = false by rw [HS.out, HO.out, Bool.not_or, ← HM1.out, g1, Bool.false_and])
          go_wp2_with fail
          refine (sIndex14_any _ _ p.vars _ (Rd.new HP.out.vars (by repeat (first | with_reducible exact New.refl _ | with_reducible assumption | with_reducible refine New.drew ?_ | with_reducible refine New.drewN ?_ _ | with_reducible refine New.alloc ?_ _ | with_reducible refine New.setCell ?_ (by first | (simp; done) | (simp; omega) | omega) _ | with_reducible refine New.trans ?_ (by with_reducible assumption))))).mono ?_; rintro e w5 ⟨rfl, rfl⟩
          go_wp2_with (first | ((at_builtin; refine wpList_append_own _ rfl _ _ 22 rfl (w.heap.size + 1) 9 i0 (.string ⟨#[]⟩) 1 16 Tryd.underlying22 hi hz0 hz1 hz2 rfl (by decide) _ _ _ rfl ((hown.alloc _)) ⟨wr.heap.size, 0, none⟩ 1 1 [.string (ps[k].1.target)] rfl rfl (by intro j u hj; match j, hj with | 0, hj => simp at hj; subst hj; first | (simp [Addr.add]; done) | exact alloc_one rfl) (by intro u hu; simp at hu; subst hu; rfl) (by unfold maxLen; omega) (by omega) (by first | (simp; done) | (simp; omega) | omega) ?_; intro va wa howna hgra _)))
          have ba := New.grown (hb.alloc _) hgra (fun q hq => by have := (own_block_lt hown q hq).1; simpa using this)
          go_roundw
          case rel => exact ⟨k + 1, by omega, by go_num, HA, ba, by rw [HTT.out k hlt, List.map_append]; exact howna⟩
          case measure => simp [intOf]; omega
      · obtain rfl : k = ps.length := by omega
        have HTE := Lib.hid (show (targetsP p).take ps.length = targetsP p by rw [← HPL.out, ← HTL.out, List.take_length])
        have H3 := Lib.hid (show (targetsP p).any (out3 p) = false by have := hpre.out; rwa [HTE.out] at this)
        have HOW := Lib.hid (show RdS wr _ (targetsP p) by rw [RdS, HTL.out, HPL.out]; have := own_rd hown; rwa [HTE.out] at this)
        obtain ⟨ta, tc, rfl⟩ := own_slice hown
        clear hown
        have hww : w.heap.size < wr.heap.size := by omega
        rcases Bool.eq_false_or_eq_true (twB (targetsP p)) with h4 | h4
        · go_wp2_with fail
          refine (sTwice_any _ (targetsP p) _ HOW.out).mono ?_; rintro e w6 ⟨rfl, b6⟩
          try with_reducible replace b6 := New.undrawN b6
          try with_reducible replace b6 := New.undraw b6
          obtain ⟨c6, f6⟩ := b6.rules
          have z6 := b6.size
          try simp only [World.size_alloc, World.size_drew, World.heap_drewN, World.size_setCell] at z6
          have z6_0 : w.heap.size < w6.heap.size := by omega
          go_wp2_with fail
          go_ret
          exact ⟨ret_int (faultS_4 h12.out.1 h12.out.2 H3.out h4).symm, hb0.trans b6⟩
        go_wp2_with fail
        refine (sTwice_any _ (targetsP p) _ HOW.out).mono ?_; rintro e w6 ⟨rfl, b6⟩
        try with_reducible replace b6 := New.undrawN b6
        try with_reducible replace b6 := New.undraw b6
        obtain ⟨c6, f6⟩ := b6.rules
        have z6 := b6.size
        try simp only [World.size_alloc, World.size_drew, World.heap_drewN, World.size_setCell] at z6
        have z6_0 : w.heap.size < w6.heap.size := by omega
        go_wp2_with fail
        · have h5 : ps.length < p.vars.length + p.outputs.length := by omega
          go_ret
          exact ⟨ret_int (faultS_5 h12.out.1 h12.out.2 H3.out h4 (by rw [HTL.out, HPL.out]; exact h5)).symm, hb0.trans b6⟩
        have H5 := Lib.hid (show ¬ (targetsP p).length < p.vars.length + p.outputs.length by rw [HTL.out, HPL.out]; omega)
        have H4 := Lib.hid h4; clear h4
        have hb6 := hb.trans b6
        go_loopw [6] (fun i wr1 => ∃ k : Nat, k ≤ ps.length ∧ i = .int .i64 k ∧ Hid ((p.lines.take k).any (unkL p) = false) ∧ New (w.alloc (.cells #[.string p.name, .slice ia p.inputs.length ic, .slice ja p.vars.length jc, .slice oa p.outputs.length oc, .string p.guard, .slice la ps.length lc] 29)) wr1) (fun i _ => ps.length - (intOf i).toNat)
        case atStart => exact ⟨0, Nat.zero_le _, rfl, rfl, hb6⟩
        case round =>
          rename World => wr1
          obtain ⟨k, hk, rfl, hpre2, hd⟩ := hrel
          clear c6 f6 b6 hb6 cc f' hb hb0 hbz z6
          obtain ⟨cc, f'⟩ := hd.rules
          have hbz := hd.size
          simp only [World.size_alloc] at hbz
          have hd0 : New w wr1 := ((New.refl w).alloc _).trans hd
          by_cases hlt : k < ps.length
          · obtain ⟨b, off, rfl, hbl, hx⟩ := HC.out k hlt
            replace hx := Lib.hid hx
            have hbw : b < wr1.heap.size := by omega
            have hbw1 : b < w.heap.size + 1 := by omega
            have hww1 : w.heap.size < wr1.heap.size := by omega
            obtain ⟨ea, ec, hev, hem, HE⟩ := Rd.flat encTerm_len (by omega) (HT.out ps[k] (List.getElem_mem hlt))
            have hfl : ps[k].1.terms.length ≤ 1048576 := (HF.out.lines ps[k].1 (by rw [← HPS.out]; exact List.mem_map_of_mem (List.getElem_mem hlt))).2.2
            rw [show encLV ps[k] = [.string ps[k].1.target, ps[k].2] from rfl, hev] at hx
            have x1 : w.cell? ⟨b, off + k * 2 + 1, none⟩ = some (.slice ea ps[k].1.terms.length ec) := hx.out 1 _ (by omega) rfl
            have HL := Lib.hid (show p.lines[k]'(by rw [HPL.out]; exact hlt) = ps[k].1 by simp [← HPS.out])
            have HTK := Lib.hid (show (p.lines.take (k + 1)).any (unkL p) = ((p.lines.take k).any (unkL p) || unkL p ps[k].1) by rw [List.take_succ_eq_append_getElem (by rw [HPL.out]; exact hlt), any_snoc, HL.out])
            clear hev
            generalize ps[k].1 = X at *
            go_wp2_with fail
            go_loopw [7] (fun i wr2 => ∃ j : Nat, j ≤ X.terms.length ∧ i = .int .i64 j ∧ Hid ((X.terms.take j).any (unkT p) = false) ∧ New wr1 wr2) (fun i _ => X.terms.length - (intOf i).toNat)
            case atStart => exact ⟨0, Nat.zero_le _, rfl, rfl, New.refl _⟩
            case round =>
              rename World => wr2
              obtain ⟨j, hj, rfl, hpre3, he2⟩ := hrel
              obtain ⟨c3, f3⟩ := he2.rules
              have hz2 := he2.size
              have he0 : New w wr2 := hd0.trans he2
              by_cases hlj : j < X.terms.length
              · obtain ⟨b', off', rfl, hbl', hy⟩ := HE.out j hlj
                have y0 := hy 0 _ (by omega) rfl
                have y1 := hy 1 _ (by omega) rfl
                have y2 := hy 2 _ (by omega) rfl
                rw [Nat.add_zero] at y0
                replace hy := Lib.hid hy
                have hbw2 : b' < wr2.heap.size := by omega
                have hbw3 : b' < wr1.heap.size := by omega
                have hbw4 : b' < w.heap.size + 1 := by omega
                have hbw5 : b < wr2.heap.size := by omega
                have hww2 : w.heap.size < wr2.heap.size := by omega
                have hww3 : w.heap.size < wr2.heap.size + 1 := by omega
                have HTJ := Lib.hid (show (X.terms.take (j + 1)).any (unkT p) = unkT p X.terms[j] by rw [List.take_succ_eq_append_getElem hlj, any_snoc, hpre3.out, Bool.false_or])
                by_cases hk : X.terms[j].kind = 1
                · have hk' : (X.terms[j].kind == 1) = true := by simp [hk]
                  have HU := Lib.hid (show unkT p X.terms[j] = !readB p X.terms[j].name by rw [unkT, hk]; simp)
                  clear hk
                  rcases Bool.eq_false_or_eq_true (readB p X.terms[j].name) with g1 | g1
                  · have HA := Lib.hid (show (X.terms.take (j + 1)).any (unkT p) = false by rw [HTJ.out, HU.out, g1]; rfl)
                    go_wp2_with fail
                    refine (sRead_any p _ _ _ _ X.terms[j].name _ (HP.out.new (by repeat (first | with_reducible exact New.refl _ | with_reducible assumption | with_reducible refine New.drew ?_ | with_reducible refine New.drewN ?_ _ | with_reducible refine New.alloc ?_ _ | with_reducible refine New.setCell ?_ (by first | (simp; done) | (simp; omega) | omega) _ | with_reducible refine New.trans ?_ (by with_reducible assumption))))).mono ?_; rintro e w9 ⟨rfl, b9⟩
                    try with_reducible replace b9 := New.undrawN b9
                    try with_reducible replace b9 := New.undraw b9
                    obtain ⟨c9, f9⟩ := b9.rules
                    have z9 := b9.size
                    try simp only [World.size_alloc, World.size_drew, World.heap_drewN, World.size_setCell] at z9
                    have z9_0 : w.heap.size < w9.heap.size := by omega
                    go_wp2_with fail
                    go_roundw
                    case rel => exact ⟨j + 1, by omega, by go_num, HA, (by repeat (first | with_reducible exact New.refl _ | with_reducible assumption | with_reducible refine New.drew ?_ | with_reducible refine New.drewN ?_ _ | with_reducible refine New.alloc ?_ _ | with_reducible refine New.setCell ?_ (by first | (simp; done) | (simp; omega) | omega) _ | with_reducible refine New.trans ?_ (by with_reducible assumption)))⟩
                    case measure => simp [intOf]; omega
                  · have HA := Lib.hid (show p.lines.any (unkL p) = true from any_prefix (xs := p.lines.take (k + 1)) (by rw [HTK.out, show unkL p X = true from any_prefix (xs := X.terms.take (j + 1)) (by rw [HTJ.out, HU.out, g1]; rfl) ⟨_, List.take_append_drop _ _⟩, Bool.or_true]) ⟨_, List.take_append_drop _ _⟩)
                    go_wp2_with fail
                    refine (sRead_any p _ _ _ _ X.terms[j].name _ (HP.out.new (by repeat (first | with_reducible exact New.refl _ | with_reducible assumption | with_reducible refine New.drew ?_ | with_reducible refine New.drewN ?_ _ | with_reducible refine New.alloc ?_ _ | with_reducible refine New.setCell ?_ (by first | (simp; done) | (simp; omega) | omega) _ | with_reducible refine New.trans ?_ (by with_reducible assumption))))).mono ?_; rintro e w9 ⟨rfl, b9⟩
                    try with_reducible replace b9 := New.undrawN b9
                    try with_reducible replace b9 := New.undraw b9
                    obtain ⟨c9, f9⟩ := b9.rules
                    have z9 := b9.size
                    try simp only [World.size_alloc, World.size_drew, World.heap_drewN, World.size_setCell] at z9
                    have z9_0 : w.heap.size < w9.heap.size := by omega
                    go_wp2_with fail
                    go_ret
                    exact ⟨ret_int (faultS_6 h12.out.1 h12.out.2 H3.out H4.out H5.out HA.out).symm, (by repeat (first | with_reducible exact New.refl _ | with_reducible assumption | with_reducible refine New.drew ?_ | with_reducible refine New.drewN ?_ _ | with_reducible refine New.alloc ?_ _ | with_reducible refine New.setCell ?_ (by first | (simp; done) | (simp; omega) | omega) _ | with_reducible refine New.trans ?_ (by with_reducible assumption)))⟩
                · have hk' : (X.terms[j].kind == 1) = false := by simp [hk]
                  have HA := Lib.hid (show (X.terms.take (j + 1)).any (unkT p) = false by rw [HTJ.out, unkT]; simp [hk])
                  clear hk
                  go_wp2_with fail
                  go_roundw
                  case rel => exact ⟨j + 1, by omega, by go_num, HA, (by repeat (first | with_reducible exact New.refl _ | with_reducible assumption | with_reducible refine New.drew ?_ | with_reducible refine New.drewN ?_ _ | with_reducible refine New.alloc ?_ _ | with_reducible refine New.setCell ?_ (by first | (simp; done) | (simp; omega) | omega) _ | with_reducible refine New.trans ?_ (by with_reducible assumption)))⟩
                  case measure => simp [intOf]; omega
              · obtain rfl : j = X.terms.length := by omega
                have HA := Lib.hid (show (p.lines.take (k + 1)).any (unkL p) = false by rw [HTK.out, hpre2.out, Bool.false_or, unkL]; have := hpre3.out; rwa [List.take_length] at this)
                go_wp2_with fail
                go_roundw
                case rel => exact ⟨k + 1, by omega, by go_num, HA, hd.trans he2⟩
                case measure => simp [intOf]; omega
          · obtain rfl : k = ps.length := by omega
            have H6 := Lib.hid (show p.lines.any (unkL p) = false by have := hpre2.out; rw [← HPL.out, List.take_length] at this; exact this)
            go_wp2_with fail
            go_ret
            exact ⟨ret_int (faultS_0 h12.out.1 h12.out.2 H3.out H4.out H5.out H6.out).symm, hd0⟩
  · rcases Bool.eq_false_or_eq_true (readB p p.guard) with hr | hr
    · have h2 : bad2 p = false := by rw [bad2, he, hr]; rfl
      go_enter Tryd.func69, Tryd.ntmps69
      go_wp2_with fail
      refine (sAll_any p _ _ _ _ _ (HP.out.new (by repeat (first | with_reducible exact New.refl _ | with_reducible assumption | with_reducible refine New.drew ?_ | with_reducible refine New.drewN ?_ _ | with_reducible refine New.alloc ?_ _ | with_reducible refine New.setCell ?_ (by first | (simp; done) | (simp; omega) | omega) _ | with_reducible refine New.trans ?_ (by with_reducible assumption)))) HF.out).mono ?_; rintro e w1 ⟨r1, rfl, b1, own1⟩
      obtain ⟨c1, f1⟩ := b1.rules
      have z1 := b1.size
      try simp only [World.size_alloc, World.size_drew, World.heap_drewN, World.size_setCell] at z1
      have z1_0 : w.heap.size < w1.heap.size := by omega
      go_wp2_with fail
      refine (sTwice_any _ (allP p) _ (own_rd own1)).mono ?_; rintro e w2 ⟨rfl, b2⟩
      try with_reducible replace b2 := New.undrawN b2
      try with_reducible replace b2 := New.undraw b2
      obtain ⟨c2, f2⟩ := b2.rules
      have z2 := b2.size
      try simp only [World.size_alloc, World.size_drew, World.heap_drewN, World.size_setCell] at z2
      have z2_0 : w.heap.size < w2.heap.size := by omega
      go_wp2_with fail
      refine (sRead_any p _ _ _ _ p.guard _ (HP.out.new (by repeat (first | with_reducible exact New.refl _ | with_reducible assumption | with_reducible refine New.drew ?_ | with_reducible refine New.drewN ?_ _ | with_reducible refine New.alloc ?_ _ | with_reducible refine New.setCell ?_ (by first | (simp; done) | (simp; omega) | omega) _ | with_reducible refine New.trans ?_ (by with_reducible assumption))))).mono ?_; rintro e w3 ⟨rfl, b3⟩
      try with_reducible replace b3 := New.undrawN b3
      try with_reducible replace b3 := New.undraw b3
      obtain ⟨c3, f3⟩ := b3.rules
      have z3 := b3.size
      try simp only [World.size_alloc, World.size_drew, World.heap_drewN, World.size_setCell] at z3
      have z3_0 : w.heap.size < w3.heap.size := by omega
      go_wp2_with fail
      have h12 := Lib.hid (And.intro h1 h2)
      go_loopw [3, 4] (fun t i wr => ∃ k : Nat, k ≤ ps.length ∧ i = .int .i64 k ∧ Hid (((targetsP p).take k).any (out3 p) = false) ∧ New (w.alloc (.cells #[.string p.name, .slice ia p.inputs.length ic, .slice ja p.vars.length jc, .slice oa p.outputs.length oc, .string p.guard, .slice la ps.length lc] 29)) wr ∧ wr.ownsRow (w.heap.size + 1) 9 1 t k (((targetsP p).take k).map Value.string)) (fun _ i _ => ps.length - (intOf i).toNat)
      case atStart => exact ⟨0, Nat.zero_le _, rfl, rfl, (by repeat (first | with_reducible exact New.refl _ | with_reducible assumption | with_reducible refine New.drew ?_ | with_reducible refine New.drewN ?_ _ | with_reducible refine New.alloc ?_ _ | with_reducible refine New.setCell ?_ (by first | (simp; done) | (simp; omega) | omega) _ | with_reducible refine New.trans ?_ (by with_reducible assumption))), own_empty (by omega)⟩
      case round =>
        obtain ⟨k, hk, rfl, hpre, hb, hown⟩ := hrel
        clear c1 f1 c2 f2 b1 b2
        try clear c3 f3 b3
        obtain ⟨cc, f'⟩ := hb.rules
        have hbz := hb.size
        simp only [World.size_alloc] at hbz
        have hb0 : New w wr := ((New.refl w).alloc _).trans hb
        by_cases hlt : k < ps.length
        · obtain ⟨b, off, rfl, hbl, hx⟩ := HC.out k hlt
          have x0 := hx 0 _ (by omega) rfl
          have x1 := hx 1 _ (by omega) rfl
          rw [Nat.add_zero] at x0
          replace hx := Lib.hid hx
          have hbw : b < wr.heap.size := by omega
          have hbw1 : b < w.heap.size + 1 := by omega
          have hww : w.heap.size < wr.heap.size := by omega
          have HM1 := Lib.hid (idx_memN ps[k].1.target p.vars)
          have HM2 := Lib.hid (idx_memN ps[k].1.target p.outputs)
          have HO := Lib.hid (show out3 p ps[k].1.target = !(memS p.vars ps[k].1.target || memS p.outputs ps[k].1.target) by rw [out3, madeP, memS_append])
          have HS := Lib.hid (show ((targetsP p).take (k + 1)).any (out3 p) = out3 p ps[k].1.target by rw [HTT.out k hlt, any_snoc, hpre.out]; rfl)
          rcases Bool.eq_false_or_eq_true (decide (idx (fun y => ps[k].1.target.toList == y.toList) p.vars < 0)) with g1 | g1
          · rcases Bool.eq_false_or_eq_true (decide (idx (fun y => ps[k].1.target.toList == y.toList) p.outputs < 0)) with g2 | g2
            · have HA := Lib.hid (show (targetsP p).any (out3 p) = true from any_prefix (xs := (targetsP p).take (k + 1)) (by rw [HS.out, HO.out, Bool.not_or, ← HM1.out, ← HM2.out, g1, g2]; rfl) ⟨_, List.take_append_drop _ _⟩)
              go_wp2_with fail
              refine (sIndex14_any _ _ p.vars _ (Rd.new HP.out.vars (by repeat (first | with_reducible exact New.refl _ | with_reducible assumption | with_reducible refine New.drew ?_ | with_reducible refine New.drewN ?_ _ | with_reducible refine New.alloc ?_ _ | with_reducible refine New.setCell ?_ (by first | (simp; done) | (simp; omega) | omega) _ | with_reducible refine New.trans ?_ (by with_reducible assumption))))).mono ?_; rintro e w5 ⟨rfl, rfl⟩
              go_wp2_with fail
              refine (sIndex14_any _ _ p.outputs _ (Rd.new HP.out.outs (by repeat (first | with_reducible exact New.refl _ | with_reducible assumption | with_reducible refine New.drew ?_ | with_reducible refine New.drewN ?_ _ | with_reducible refine New.alloc ?_ _ | with_reducible refine New.setCell ?_ (by first | (simp; done) | (simp; omega) | omega) _ | with_reducible refine New.trans ?_ (by with_reducible assumption))))).mono ?_; rintro e w5 ⟨rfl, rfl⟩
              go_wp2_with fail
              go_ret
              exact ⟨ret_int (faultS_3 h12.out.1 h12.out.2 HA.out).symm, hb0⟩
            · have HA := Lib.hid (show ((targetsP p).take (k + 1)).any (out3 p) = false by rw [HS.out, HO.out, Bool.not_or, ← HM2.out, g2, Bool.and_false])
              go_wp2_with fail
              refine (sIndex14_any _ _ p.vars _ (Rd.new HP.out.vars (by repeat (first | with_reducible exact New.refl _ | with_reducible assumption | with_reducible refine New.drew ?_ | with_reducible refine New.drewN ?_ _ | with_reducible refine New.alloc ?_ _ | with_reducible refine New.setCell ?_ (by first | (simp; done) | (simp; omega) | omega) _ | with_reducible refine New.trans ?_ (by with_reducible assumption))))).mono ?_; rintro e w5 ⟨rfl, rfl⟩
              go_wp2_with fail
              refine (sIndex14_any _ _ p.outputs _ (Rd.new HP.out.outs (by repeat (first | with_reducible exact New.refl _ | with_reducible assumption | with_reducible refine New.drew ?_ | with_reducible refine New.drewN ?_ _ | with_reducible refine New.alloc ?_ _ | with_reducible refine New.setCell ?_ (by first | (simp; done) | (simp; omega) | omega) _ | with_reducible refine New.trans ?_ (by with_reducible assumption))))).mono ?_; rintro e w5 ⟨rfl, rfl⟩
              go_wp2_with (first | ((at_builtin; refine wpList_append_own _ rfl _ _ 22 rfl (w.heap.size + 1) 9 i0 (.string ⟨#[]⟩) 1 16 Tryd.underlying22 hi hz0 hz1 hz2 rfl (by decide) _ _ _ rfl ((hown.alloc _)) ⟨wr.heap.size, 0, none⟩ 1 1 [.string (ps[k].1.target)] rfl rfl (by intro j u hj; match j, hj with | 0, hj => simp at hj; subst hj; first | (simp [Addr.add]; done) | exact alloc_one rfl) (by intro u hu; simp at hu; subst hu; rfl) (by unfold maxLen; omega) (by omega) (by first | (simp; done) | (simp; omega) | omega) ?_; intro va wa howna hgra _)))
              have ba := New.grown (hb.alloc _) hgra (fun q hq => by have := (own_block_lt hown q hq).1; simpa using this)
              go_roundw
              case rel => exact ⟨k + 1, by omega, by go_num, HA, ba, by rw [HTT.out k hlt, List.map_append]; exact howna⟩
              case measure => simp [intOf]; omega
          · have HA := Lib.hid (show ((targetsP p).take (k + 1)).any (out3 p) = false by rw [HS.out, HO.out, Bool.not_or, ← HM1.out, g1, Bool.false_and])
            go_wp2_with fail
            refine (sIndex14_any _ _ p.vars _ (Rd.new HP.out.vars (by repeat (first | with_reducible exact New.refl _ | with_reducible assumption | with_reducible refine New.drew ?_ | with_reducible refine New.drewN ?_ _ | with_reducible refine New.alloc ?_ _ | with_reducible refine New.setCell ?_ (by first | (simp; done) | (simp; omega) | omega) _ | with_reducible refine New.trans ?_ (by with_reducible assumption))))).mono ?_; rintro e w5 ⟨rfl, rfl⟩
            go_wp2_with (first | ((at_builtin; refine wpList_append_own _ rfl _ _ 22 rfl (w.heap.size + 1) 9 i0 (.string ⟨#[]⟩) 1 16 Tryd.underlying22 hi hz0 hz1 hz2 rfl (by decide) _ _ _ rfl ((hown.alloc _)) ⟨wr.heap.size, 0, none⟩ 1 1 [.string (ps[k].1.target)] rfl rfl (by intro j u hj; match j, hj with | 0, hj => simp at hj; subst hj; first | (simp [Addr.add]; done) | exact alloc_one rfl) (by intro u hu; simp at hu; subst hu; rfl) (by unfold maxLen; omega) (by omega) (by first | (simp; done) | (simp; omega) | omega) ?_; intro va wa howna hgra _)))
            have ba := New.grown (hb.alloc _) hgra (fun q hq => by have := (own_block_lt hown q hq).1; simpa using this)
            go_roundw
            case rel => exact ⟨k + 1, by omega, by go_num, HA, ba, by rw [HTT.out k hlt, List.map_append]; exact howna⟩
            case measure => simp [intOf]; omega
        · obtain rfl : k = ps.length := by omega
          have HTE := Lib.hid (show (targetsP p).take ps.length = targetsP p by rw [← HPL.out, ← HTL.out, List.take_length])
          have H3 := Lib.hid (show (targetsP p).any (out3 p) = false by have := hpre.out; rwa [HTE.out] at this)
          have HOW := Lib.hid (show RdS wr _ (targetsP p) by rw [RdS, HTL.out, HPL.out]; have := own_rd hown; rwa [HTE.out] at this)
          obtain ⟨ta, tc, rfl⟩ := own_slice hown
          clear hown
          have hww : w.heap.size < wr.heap.size := by omega
          rcases Bool.eq_false_or_eq_true (twB (targetsP p)) with h4 | h4
          · go_wp2_with fail
            refine (sTwice_any _ (targetsP p) _ HOW.out).mono ?_; rintro e w6 ⟨rfl, b6⟩
            try with_reducible replace b6 := New.undrawN b6
            try with_reducible replace b6 := New.undraw b6
            obtain ⟨c6, f6⟩ := b6.rules
            have z6 := b6.size
            try simp only [World.size_alloc, World.size_drew, World.heap_drewN, World.size_setCell] at z6
            have z6_0 : w.heap.size < w6.heap.size := by omega
            go_wp2_with fail
            go_ret
            exact ⟨ret_int (faultS_4 h12.out.1 h12.out.2 H3.out h4).symm, hb0.trans b6⟩
          go_wp2_with fail
          refine (sTwice_any _ (targetsP p) _ HOW.out).mono ?_; rintro e w6 ⟨rfl, b6⟩
          try with_reducible replace b6 := New.undrawN b6
          try with_reducible replace b6 := New.undraw b6
          obtain ⟨c6, f6⟩ := b6.rules
          have z6 := b6.size
          try simp only [World.size_alloc, World.size_drew, World.heap_drewN, World.size_setCell] at z6
          have z6_0 : w.heap.size < w6.heap.size := by omega
          go_wp2_with fail
          · have h5 : ps.length < p.vars.length + p.outputs.length := by omega
            go_ret
            exact ⟨ret_int (faultS_5 h12.out.1 h12.out.2 H3.out h4 (by rw [HTL.out, HPL.out]; exact h5)).symm, hb0.trans b6⟩
          have H5 := Lib.hid (show ¬ (targetsP p).length < p.vars.length + p.outputs.length by rw [HTL.out, HPL.out]; omega)
          have H4 := Lib.hid h4; clear h4
          have hb6 := hb.trans b6
          go_loopw [6] (fun i wr1 => ∃ k : Nat, k ≤ ps.length ∧ i = .int .i64 k ∧ Hid ((p.lines.take k).any (unkL p) = false) ∧ New (w.alloc (.cells #[.string p.name, .slice ia p.inputs.length ic, .slice ja p.vars.length jc, .slice oa p.outputs.length oc, .string p.guard, .slice la ps.length lc] 29)) wr1) (fun i _ => ps.length - (intOf i).toNat)
          case atStart => exact ⟨0, Nat.zero_le _, rfl, rfl, hb6⟩
          case round =>
            rename World => wr1
            obtain ⟨k, hk, rfl, hpre2, hd⟩ := hrel
            clear c6 f6 b6 hb6 cc f' hb hb0 hbz z6
            obtain ⟨cc, f'⟩ := hd.rules
            have hbz := hd.size
            simp only [World.size_alloc] at hbz
            have hd0 : New w wr1 := ((New.refl w).alloc _).trans hd
            by_cases hlt : k < ps.length
            · obtain ⟨b, off, rfl, hbl, hx⟩ := HC.out k hlt
              replace hx := Lib.hid hx
              have hbw : b < wr1.heap.size := by omega
              have hbw1 : b < w.heap.size + 1 := by omega
              have hww1 : w.heap.size < wr1.heap.size := by omega
              obtain ⟨ea, ec, hev, hem, HE⟩ := Rd.flat encTerm_len (by omega) (HT.out ps[k] (List.getElem_mem hlt))
              have hfl : ps[k].1.terms.length ≤ 1048576 := (HF.out.lines ps[k].1 (by rw [← HPS.out]; exact List.mem_map_of_mem (List.getElem_mem hlt))).2.2
              rw [show encLV ps[k] = [.string ps[k].1.target, ps[k].2] from rfl, hev] at hx
              have x1 : w.cell? ⟨b, off + k * 2 + 1, none⟩ = some (.slice ea ps[k].1.terms.length ec) := hx.out 1 _ (by omega) rfl
              have HL := Lib.hid (show p.lines[k]'(by rw [HPL.out]; exact hlt) = ps[k].1 by simp [← HPS.out])
              have HTK := Lib.hid (show (p.lines.take (k + 1)).any (unkL p) = ((p.lines.take k).any (unkL p) || unkL p ps[k].1) by rw [List.take_succ_eq_append_getElem (by rw [HPL.out]; exact hlt), any_snoc, HL.out])
              clear hev
              generalize ps[k].1 = X at *
              go_wp2_with fail
              go_loopw [7] (fun i wr2 => ∃ j : Nat, j ≤ X.terms.length ∧ i = .int .i64 j ∧ Hid ((X.terms.take j).any (unkT p) = false) ∧ New wr1 wr2) (fun i _ => X.terms.length - (intOf i).toNat)
              case atStart => exact ⟨0, Nat.zero_le _, rfl, rfl, New.refl _⟩
              case round =>
                rename World => wr2
                obtain ⟨j, hj, rfl, hpre3, he2⟩ := hrel
                obtain ⟨c3, f3⟩ := he2.rules
                have hz2 := he2.size
                have he0 : New w wr2 := hd0.trans he2
                by_cases hlj : j < X.terms.length
                · obtain ⟨b', off', rfl, hbl', hy⟩ := HE.out j hlj
                  have y0 := hy 0 _ (by omega) rfl
                  have y1 := hy 1 _ (by omega) rfl
                  have y2 := hy 2 _ (by omega) rfl
                  rw [Nat.add_zero] at y0
                  replace hy := Lib.hid hy
                  have hbw2 : b' < wr2.heap.size := by omega
                  have hbw3 : b' < wr1.heap.size := by omega
                  have hbw4 : b' < w.heap.size + 1 := by omega
                  have hbw5 : b < wr2.heap.size := by omega
                  have hww2 : w.heap.size < wr2.heap.size := by omega
                  have hww3 : w.heap.size < wr2.heap.size + 1 := by omega
                  have HTJ := Lib.hid (show (X.terms.take (j + 1)).any (unkT p) = unkT p X.terms[j] by rw [List.take_succ_eq_append_getElem hlj, any_snoc, hpre3.out, Bool.false_or])
                  by_cases hk : X.terms[j].kind = 1
                  · have hk' : (X.terms[j].kind == 1) = true := by simp [hk]
                    have HU := Lib.hid (show unkT p X.terms[j] = !readB p X.terms[j].name by rw [unkT, hk]; simp)
                    clear hk
                    rcases Bool.eq_false_or_eq_true (readB p X.terms[j].name) with g1 | g1
                    · have HA := Lib.hid (show (X.terms.take (j + 1)).any (unkT p) = false by rw [HTJ.out, HU.out, g1]; rfl)
                      go_wp2_with fail
                      refine (sRead_any p _ _ _ _ X.terms[j].name _ (HP.out.new (by repeat (first | with_reducible exact New.refl _ | with_reducible assumption | with_reducible refine New.drew ?_ | with_reducible refine New.drewN ?_ _ | with_reducible refine New.alloc ?_ _ | with_reducible refine New.setCell ?_ (by first | (simp; done) | (simp; omega) | omega) _ | with_reducible refine New.trans ?_ (by with_reducible assumption))))).mono ?_; rintro e w9 ⟨rfl, b9⟩
                      try with_reducible replace b9 := New.undrawN b9
                      try with_reducible replace b9 := New.undraw b9
                      obtain ⟨c9, f9⟩ := b9.rules
                      have z9 := b9.size
                      try simp only [World.size_alloc, World.size_drew, World.heap_drewN, World.size_setCell] at z9
                      have z9_0 : w.heap.size < w9.heap.size := by omega
                      go_wp2_with fail
                      go_roundw
                      case rel => exact ⟨j + 1, by omega, by go_num, HA, (by repeat (first | with_reducible exact New.refl _ | with_reducible assumption | with_reducible refine New.drew ?_ | with_reducible refine New.drewN ?_ _ | with_reducible refine New.alloc ?_ _ | with_reducible refine New.setCell ?_ (by first | (simp; done) | (simp; omega) | omega) _ | with_reducible refine New.trans ?_ (by with_reducible assumption)))⟩
                      case measure => simp [intOf]; omega
                    · have HA := Lib.hid (show p.lines.any (unkL p) = true from any_prefix (xs := p.lines.take (k + 1)) (by rw [HTK.out, show unkL p X = true from any_prefix (xs := X.terms.take (j + 1)) (by rw [HTJ.out, HU.out, g1]; rfl) ⟨_, List.take_append_drop _ _⟩, Bool.or_true]) ⟨_, List.take_append_drop _ _⟩)
                      go_wp2_with fail
                      refine (sRead_any p _ _ _ _ X.terms[j].name _ (HP.out.new (by repeat (first | with_reducible exact New.refl _ | with_reducible assumption | with_reducible refine New.drew ?_ | with_reducible refine New.drewN ?_ _ | with_reducible refine New.alloc ?_ _ | with_reducible refine New.setCell ?_ (by first | (simp; done) | (simp; omega) | omega) _ | with_reducible refine New.trans ?_ (by with_reducible assumption))))).mono ?_; rintro e w9 ⟨rfl, b9⟩
                      try with_reducible replace b9 := New.undrawN b9
                      try with_reducible replace b9 := New.undraw b9
                      obtain ⟨c9, f9⟩ := b9.rules
                      have z9 := b9.size
                      try simp only [World.size_alloc, World.size_drew, World.heap_drewN, World.size_setCell] at z9
                      have z9_0 : w.heap.size < w9.heap.size := by omega
                      go_wp2_with fail
                      go_ret
                      exact ⟨ret_int (faultS_6 h12.out.1 h12.out.2 H3.out H4.out H5.out HA.out).symm, (by repeat (first | with_reducible exact New.refl _ | with_reducible assumption | with_reducible refine New.drew ?_ | with_reducible refine New.drewN ?_ _ | with_reducible refine New.alloc ?_ _ | with_reducible refine New.setCell ?_ (by first | (simp; done) | (simp; omega) | omega) _ | with_reducible refine New.trans ?_ (by with_reducible assumption)))⟩
                  · have hk' : (X.terms[j].kind == 1) = false := by simp [hk]
                    have HA := Lib.hid (show (X.terms.take (j + 1)).any (unkT p) = false by rw [HTJ.out, unkT]; simp [hk])
                    clear hk
                    go_wp2_with fail
                    go_roundw
                    case rel => exact ⟨j + 1, by omega, by go_num, HA, (by repeat (first | with_reducible exact New.refl _ | with_reducible assumption | with_reducible refine New.drew ?_ | with_reducible refine New.drewN ?_ _ | with_reducible refine New.alloc ?_ _ | with_reducible refine New.setCell ?_ (by first | (simp; done) | (simp; omega) | omega) _ | with_reducible refine New.trans ?_ (by with_reducible assumption)))⟩
                    case measure => simp [intOf]; omega
                · obtain rfl : j = X.terms.length := by omega
                  have HA := Lib.hid (show (p.lines.take (k + 1)).any (unkL p) = false by rw [HTK.out, hpre2.out, Bool.false_or, unkL]; have := hpre3.out; rwa [List.take_length] at this)
                  go_wp2_with fail
                  go_roundw
                  case rel => exact ⟨k + 1, by omega, by go_num, HA, hd.trans he2⟩
                  case measure => simp [intOf]; omega
            · obtain rfl : k = ps.length := by omega
              have H6 := Lib.hid (show p.lines.any (unkL p) = false by have := hpre2.out; rw [← HPL.out, List.take_length] at this; exact this)
              go_wp2_with fail
              go_ret
              exact ⟨ret_int (faultS_0 h12.out.1 h12.out.2 H3.out H4.out H5.out H6.out).symm, hd0⟩
    · have h2 : bad2 p = true := by rw [bad2, he, hr]; rfl
      go_enter Tryd.func69, Tryd.ntmps69
      go_wp2_with fail
      refine (sAll_any p _ _ _ _ _ (HP.out.new (by repeat (first | with_reducible exact New.refl _ | with_reducible assumption | with_reducible refine New.drew ?_ | with_reducible refine New.drewN ?_ _ | with_reducible refine New.alloc ?_ _ | with_reducible refine New.setCell ?_ (by first | (simp; done) | (simp; omega) | omega) _ | with_reducible refine New.trans ?_ (by with_reducible assumption)))) HF.out).mono ?_; rintro e w1 ⟨r1, rfl, b1, own1⟩
      obtain ⟨c1, f1⟩ := b1.rules
      have z1 := b1.size
      try simp only [World.size_alloc, World.size_drew, World.heap_drewN, World.size_setCell] at z1
      have z1_0 : w.heap.size < w1.heap.size := by omega
      go_wp2_with fail
      refine (sTwice_any _ (allP p) _ (own_rd own1)).mono ?_; rintro e w2 ⟨rfl, b2⟩
      try with_reducible replace b2 := New.undrawN b2
      try with_reducible replace b2 := New.undraw b2
      obtain ⟨c2, f2⟩ := b2.rules
      have z2 := b2.size
      try simp only [World.size_alloc, World.size_drew, World.heap_drewN, World.size_setCell] at z2
      have z2_0 : w.heap.size < w2.heap.size := by omega
      go_wp2_with fail
      refine (sRead_any p _ _ _ _ p.guard _ (HP.out.new (by repeat (first | with_reducible exact New.refl _ | with_reducible assumption | with_reducible refine New.drew ?_ | with_reducible refine New.drewN ?_ _ | with_reducible refine New.alloc ?_ _ | with_reducible refine New.setCell ?_ (by first | (simp; done) | (simp; omega) | omega) _ | with_reducible refine New.trans ?_ (by with_reducible assumption))))).mono ?_; rintro e w3 ⟨rfl, b3⟩
      try with_reducible replace b3 := New.undrawN b3
      try with_reducible replace b3 := New.undraw b3
      obtain ⟨c3, f3⟩ := b3.rules
      have z3 := b3.size
      try simp only [World.size_alloc, World.size_drew, World.heap_drewN, World.size_setCell] at z3
      have z3_0 : w.heap.size < w3.heap.size := by omega
      go_wp2_with fail
      go_ret
      exact ⟨ret_int (faultS_2 h1 h2).symm, (by repeat (first | with_reducible exact New.refl _ | with_reducible assumption | with_reducible refine New.drew ?_ | with_reducible refine New.drewN ?_ _ | with_reducible refine New.alloc ?_ _ | with_reducible refine New.setCell ?_ (by first | (simp; done) | (simp; omega) | omega) _ | with_reducible refine New.trans ?_ (by with_reducible assumption)))⟩
end Go.Proofs.YtadoocadohdfcaaDoor
