/- Contracts: the rules of programs: the program's own function. -/
import Derived.Test.YtadoocadohdfcaaDoorProg
import Derived.Test.YtadoocadohdfcaaDoorSound4
namespace Go.Proofs.YtadoocadohdfcaaDoor
open Go Go.Proofs Go.RowKit
set_option linter.unusedVariables false
set_option linter.unusedSimpArgs false
set_option maxRecDepth 100000
theorem faultI_1 {p : ProgD} (h : twB (allP p) = true) : faultI p = 1 := by rw [faultI, if_pos h]
theorem faultI_2 {p : ProgD} (h : twB (allP p) = false) (h2 : bad2 p = true) : faultI p = 2 := by rw [faultI, if_neg (by simp [h]), if_pos h2]
theorem faultI_3 {p : ProgD} (h : twB (allP p) = false) (h2 : bad2 p = false) (h3 : (targetsP p).any (out3 p) = true) : faultI p = 3 := by
  rw [faultI, if_neg (by simp [h]), if_neg (by simp [h2]), if_pos h3]
theorem faultI_4 {p : ProgD} (h : twB (allP p) = false) (h2 : bad2 p = false) (h3 : (targetsP p).any (out3 p) = false) (h4 : twB (targetsP p) = true) : faultI p = 4 := by
  rw [faultI, if_neg (by simp [h]), if_neg (by simp [h2]), if_neg (by rw [h3]; simp), if_pos h4]
theorem faultI_5 {p : ProgD} (h : twB (allP p) = false) (h2 : bad2 p = false) (h3 : (targetsP p).any (out3 p) = false) (h4 : twB (targetsP p) = false) (h5 : (madeP p).any (fun s => !memS (targetsP p) s) = true) : faultI p = 5 := by
  rw [faultI, if_neg (by simp [h]), if_neg (by simp [h2]), if_neg (by rw [h3]; simp), if_neg (by simp [h4]), if_pos h5]
theorem faultI_6 {p : ProgD} (h : twB (allP p) = false) (h2 : bad2 p = false) (h3 : (targetsP p).any (out3 p) = false) (h4 : twB (targetsP p) = false) (h5 : (madeP p).any (fun s => !memS (targetsP p) s) = false) (h6 : p.lines.any (unkL p) = true) : faultI p = 6 := by
  rw [faultI, if_neg (by simp [h]), if_neg (by simp [h2]), if_neg (by rw [h3]; simp), if_neg (by simp [h4]), if_neg (by rw [h5]; simp), if_pos h6]
theorem faultI_0 {p : ProgD} (h : twB (allP p) = false) (h2 : bad2 p = false) (h3 : (targetsP p).any (out3 p) = false) (h4 : twB (targetsP p) = false) (h5 : (madeP p).any (fun s => !memS (targetsP p) s) = false) (h6 : p.lines.any (unkL p) = false) : faultI p = 0 := by
  rw [faultI, if_neg (by simp [h]), if_neg (by simp [h2]), if_neg (by rw [h3]; simp), if_neg (by simp [h4]), if_neg (by rw [h5]; simp), if_neg (by rw [h6]; simp)]
theorem frozen_past {w : World} {a : Addr} (h : w.heap.size ≤ a.block) : w.frozen? a = false := by unfold World.frozen?; rw [Array.getElem?_eq_none h]
set_option maxHeartbeats 8000000 in
theorem iFault_any (p : ProgD) (iv vv ov lv : Value) (w : World) (hp : RdP w p iv vv ov lv) (hf : FitP p) :
    Calls Tryd.prog 68 #[valP p iv vv ov lv] w fun e w' => e = .returned (.int .i64 (faultS p)) ∧ New w w' := by
  obtain ⟨i0, hi, hz0, hz1, hz2⟩ := info_parts infoStrC
  have HP := Lib.hid hp
  obtain ⟨h1, h2, h3, h4⟩ := hp
  obtain ⟨ia, ic, rfl, _⟩ := id h1
  obtain ⟨ja, jc, rfl, _⟩ := id h2
  obtain ⟨oa, oc, rfl, _⟩ := id h3
  clear h1 h2 h3
  have HLN := Lib.hid h4
  obtain ⟨ps, hps, hl1, hl2⟩ := h4
  obtain ⟨la, lc, rfl, hm, HC⟩ := Rd.flat encLV_len (by omega) hl1
  have HT := Lib.hid hl2; clear hl1 hl2
  have hpl : p.lines.length = ps.length := by rw [← hps, List.length_map]
  have hpm : ps.length ≤ 1048576 := by rw [← hpl]; exact hf.linesl
  have hvm := hf.varsl
  have hom := hf.outsl
  have HTL := Lib.hid (targets_len p)
  have HTT := Lib.hid (fun k hk => targets_take hps k hk)
  have HPL := Lib.hid hpl; clear hpl hps
  have hsz : ∀ xs ∈ [p.vars, p.outputs], xs.length ≤ 1048576 := by
    intro xs hxs
    simp only [List.mem_cons, List.not_mem_nil, or_false] at hxs
    rcases hxs with rfl | rfl
    · exact hf.varsl
    · exact hf.outsl
  have HR := Lib.hid (fun (w' : World) (n : New w w') => show ∀ k (h : k < [Value.slice ja p.vars.length jc, .slice oa p.outputs.length oc].length) (h' : k < [p.vars, p.outputs].length), RdS w' [Value.slice ja p.vars.length jc, .slice oa p.outputs.length oc][k] [p.vars, p.outputs][k] by
    intro k h h'
    rcases k with _ | _ | k
    · exact Rd.new HP.out.vars n
    · exact Rd.new HP.out.outs n
    · simp at h; omega)
  have HE := Lib.hid (show [p.vars, p.outputs].flatten = madeP p by simp [madeP])
  have HS := Lib.hid hsz; clear hsz
  have HF := Lib.hid hf; clear hf
  have zz : w.heap.size < w.heap.size + 1 := by omega
  go_enter Tryd.func68, Tryd.ntmps68
  go_wp2_with fail
  go_loopw [10] (fun i wr => ∃ (k : Nat) (t : Value), k ≤ ps.length ∧ i = .int .i64 k ∧ New (w.alloc (.cells #[.string p.name, .slice ia p.inputs.length ic, .slice ja p.vars.length jc, .slice oa p.outputs.length oc, .string p.guard, .slice la ps.length lc] 29)) wr ∧ w.heap.size + 1 < wr.heap.size ∧ wr.cell? ⟨w.heap.size + 1, 0, none⟩ = some t ∧ wr.frozen? ⟨w.heap.size + 1, 0, none⟩ = false ∧ wr.ownsRow (w.heap.size + 2) 9 1 t k (((targetsP p).take k).map Value.string)) (fun i _ => ps.length - (intOf i).toNat)
  case atStart => exact ⟨0, .slice none 0 0, Nat.zero_le _, rfl, (by repeat (first | with_reducible exact New.refl _ | with_reducible assumption | with_reducible refine New.drew ?_ | with_reducible refine New.drewN ?_ _ | with_reducible refine New.alloc ?_ _ | with_reducible refine New.setCell ?_ (by first | (simp; done) | (simp; omega) | omega) _ | with_reducible refine New.trans ?_ (by with_reducible assumption))), by simp, by simp, by rw [frozen?_alloc_cells, frozen?_alloc_cells]; exact frozen_past (by simp), World.ownsRow_nil _ _ _ _⟩
  case round =>
    obtain ⟨k, t, hk, rfl, hb, hsw, hct, hfz, hown⟩ := hrel
    obtain ⟨cc, f'⟩ := hb.rules
    have hbz := hb.size
    simp only [World.size_alloc] at hbz
    have hb0 : New w wr := ((New.refl w).alloc _).trans hb
    obtain ⟨ta, tc, rfl⟩ := own_slice hown
    by_cases hlt : k < ps.length
    · obtain ⟨b, off, rfl, hbl, hx⟩ := HC.out k hlt
      obtain ⟨ea, ec, hev, _⟩ := HT.out ps[k] (List.getElem_mem hlt)
      rw [show encLV ps[k] = [.string ps[k].1.target, ps[k].2] from rfl, hev] at hx
      have x0 := hx 0 _ (by omega) rfl
      have x1 := hx 1 _ (by omega) rfl
      rw [Nat.add_zero] at x0
      replace hx := Lib.hid hx
      clear hev
      have hbw : b < wr.heap.size := by omega
      have hbw1 : b < w.heap.size + 1 := by omega
      have hww : w.heap.size < wr.heap.size := by omega
      go_wp2_with (first | ((at_builtin; refine wpList_append_own _ rfl _ _ 22 rfl (w.heap.size + 2) 9 i0 (.string ⟨#[]⟩) 1 16 Tryd.underlying22 hi hz0 hz1 hz2 rfl (by decide) _ _ _ rfl (((hown.alloc _).alloc _)) ⟨wr.heap.size + 1, 0, none⟩ 1 1 [.string (ps[k].1.target)] rfl rfl (by intro j u hj; match j, hj with | 0, hj => simp at hj; subst hj; first | (simp [Addr.add]; done) | exact alloc_one rfl) (by intro u hu; simp at hu; subst hu; rfl) (by unfold maxLen; omega) (by omega) (by first | (simp; done) | (simp; omega) | omega) ?_; intro va wa howna hgra _); obtain ⟨xa, xc, rfl⟩ := own_slice howna; have B5 := Below.grown (Below.refl (w.heap.size + 2) _) hgra (by simp; omega) (fun q hq => (own_block_lt hown q hq).1); have k5 : wa.cell? ⟨w.heap.size + 1, 0, none⟩ = some (.slice ta k tc) := ((Below.cell B5 (p := ⟨w.heap.size + 1, 0, none⟩) (by dsimp; omega)).trans ((New.cell (((New.refl wr).alloc _).alloc _) hsw).trans hct)); have k6 : wa.frozen? ⟨w.heap.size + 1, 0, none⟩ = false := ((Below.frozen B5 (p := ⟨w.heap.size + 1, 0, none⟩) (by dsimp; omega)).trans ((New.frozen (((New.refl wr).alloc _).alloc _) hsw).trans hfz))))
      have ba := New.grown ((hb.alloc _).alloc _) hgra (fun q hq => by have := (own_block_lt hown q hq).1; simp; omega)
      have bz := ba.size
      have sz5 := hgra.size
      simp only [World.size_alloc] at bz sz5
      go_roundw
      case rel => exact ⟨k + 1, _, by omega, by go_num, ba.setCell (by simp) _, by simp only [World.size_setCell]; omega, World.cell?_setCell_same _ _ _ k5, (World.frozen?_setCell _ _ _ _).trans k6, ownsRow_setCell_below (by rw [HTT.out k hlt, List.map_append]; exact howna) (by dsimp; omega) _⟩
      case measure => simp [intOf]; omega
    · obtain rfl : k = ps.length := by omega
      have HTE := Lib.hid (show (targetsP p).take ps.length = targetsP p by rw [← HPL.out, ← HTL.out, List.take_length])
      have HOW := Lib.hid (fun w' (n : New wr w') => show RdS w' (.slice ta ps.length tc) (targetsP p) by rw [RdS, HTL.out, HPL.out]; have := (own_rd hown).new n; rwa [HTE.out] at this)
      clear hown
      have hww : w.heap.size < wr.heap.size := by omega
      go_wp2_with fail
      refine (concatS_any _ [.slice ja p.vars.length jc, .slice oa p.outputs.length oc] [p.vars, p.outputs] _ (buildRd3 _ _ (by simp) rfl (by simp)) rfl (HR.out _ (by repeat (first | with_reducible exact New.refl _ | with_reducible assumption | with_reducible refine New.drew ?_ | with_reducible refine New.drewN ?_ _ | with_reducible refine New.alloc ?_ _ | with_reducible refine New.setCell ?_ (by first | (simp; done) | (simp; omega) | omega) _ | with_reducible refine New.trans ?_ (by with_reducible assumption)))) HS.out (by simp)).mono ?_; rintro e w2 ⟨r2, rfl, b2, own2⟩
      rw [HE.out] at own2; obtain ⟨ma, mc, rfl⟩ := own_slice own2
      obtain ⟨c2, f2⟩ := b2.rules
      have z2 := b2.size
      try simp only [World.size_alloc, World.size_drew, World.heap_drewN, World.size_setCell] at z2
      have z2_0 : w.heap.size < w2.heap.size := by omega
      have z2_1 : w.heap.size + 1 < w2.heap.size := by omega
      go_wp2_with fail
      have HMD := Lib.hid (fun w' (n : New w2 w') => show RdS w' (.slice ma (madeP p).length mc) (madeP p) from (own_rd own2).new n)
      have K2' : w2.heap.size < w2.heap.size + 1 := by omega
      rcases Bool.eq_false_or_eq_true (twB (allP p)) with h1 | h1
      · skip
        refine (iNamesAll_any p _ _ _ _ _ (HP.out.new (by repeat (first | with_reducible exact New.refl _ | with_reducible assumption | with_reducible refine New.drew ?_ | with_reducible refine New.drewN ?_ _ | with_reducible refine New.alloc ?_ _ | with_reducible refine New.setCell ?_ (by first | (simp; done) | (simp; omega) | omega) _ | with_reducible refine New.trans ?_ (by with_reducible assumption)))) HF.out).mono ?_; rintro e w3 ⟨r3, rfl, b3, own3⟩
        obtain ⟨c3, f3⟩ := b3.rules
        have z3 := b3.size
        try simp only [World.size_alloc, World.size_drew, World.heap_drewN, World.size_setCell] at z3
        have z3_0 : w.heap.size < w3.heap.size := by omega
        have z3_1 : w.heap.size + 1 < w3.heap.size := by omega
        have z3_2 : w2.heap.size < w3.heap.size := by omega
        go_wp2_with fail
        refine (iTwice_any _ (allP p) _ (own_rd own3)).mono ?_; rintro e w4 ⟨rfl, b4⟩
        try with_reducible replace b4 := New.undrawN b4
        try with_reducible replace b4 := New.undraw b4
        obtain ⟨c4, f4⟩ := b4.rules
        have z4 := b4.size
        try simp only [World.size_alloc, World.size_drew, World.heap_drewN, World.size_setCell] at z4
        have z4_0 : w.heap.size < w4.heap.size := by omega
        have z4_1 : w.heap.size + 1 < w4.heap.size := by omega
        have z4_2 : w2.heap.size < w4.heap.size := by omega
        go_wp2_with fail
        go_ret
        exact ⟨ret_int (by rw [← fault_eq]; exact (faultI_1 h1).symm), (by repeat (first | with_reducible exact New.refl _ | with_reducible assumption | with_reducible refine New.drew ?_ | with_reducible refine New.drewN ?_ _ | with_reducible refine New.alloc ?_ _ | with_reducible refine New.setCell ?_ (by first | (simp; done) | (simp; omega) | omega) _ | with_reducible refine New.trans ?_ (by with_reducible assumption)))⟩
      refine (iNamesAll_any p _ _ _ _ _ (HP.out.new (by repeat (first | with_reducible exact New.refl _ | with_reducible assumption | with_reducible refine New.drew ?_ | with_reducible refine New.drewN ?_ _ | with_reducible refine New.alloc ?_ _ | with_reducible refine New.setCell ?_ (by first | (simp; done) | (simp; omega) | omega) _ | with_reducible refine New.trans ?_ (by with_reducible assumption)))) HF.out).mono ?_; rintro e w3 ⟨r3, rfl, b3, own3⟩
      obtain ⟨c3, f3⟩ := b3.rules
      have z3 := b3.size
      try simp only [World.size_alloc, World.size_drew, World.heap_drewN, World.size_setCell] at z3
      have z3_0 : w.heap.size < w3.heap.size := by omega
      have z3_1 : w.heap.size + 1 < w3.heap.size := by omega
      have z3_2 : w2.heap.size < w3.heap.size := by omega
      go_wp2_with fail
      rcases Bool.eq_false_or_eq_true (p.guard.toList.isEmpty) with he | he
      · have h2 : bad2 p = false := by rw [bad2, he]; rfl
        refine (iTwice_any _ (allP p) _ (own_rd own3)).mono ?_; rintro e w4 ⟨rfl, b4⟩
        try with_reducible replace b4 := New.undrawN b4
        try with_reducible replace b4 := New.undraw b4
        obtain ⟨c4, f4⟩ := b4.rules
        have z4 := b4.size
        try simp only [World.size_alloc, World.size_drew, World.heap_drewN, World.size_setCell] at z4
        have z4_0 : w.heap.size < w4.heap.size := by omega
        have z4_1 : w.heap.size + 1 < w4.heap.size := by omega
        have z4_2 : w2.heap.size < w4.heap.size := by omega
        go_wp2_with fail
        have K1 : w4.cell? ⟨w.heap.size + 1, 0, none⟩ = some (.slice ta ps.length tc) := by simp (disch := first | (simp only [World.size_alloc, World.size_drew, World.size_setCell]; omega) | omega | (simp; done) | (simp; omega)) only [c4, c3, c2, hct, cell_alloc_old, cell_alloc_new, World.cell?_drewN, World.cell?_drew]; first | done | rfl | (simp; done)
        have K2 : w4.cell? ⟨w2.heap.size, 0, none⟩ = some (.slice ma (madeP p).length mc) := by simp (disch := first | (simp only [World.size_alloc, World.size_drew, World.size_setCell]; omega) | omega | (simp; done) | (simp; omega)) only [c4, c3, cell_alloc_old, cell_alloc_new, World.cell?_drewN, World.cell?_drew]; first | done | rfl | (simp; done)
        rcases Bool.eq_false_or_eq_true ((targetsP p).any (out3 p)) with h3 | h3
        · refine (containsFuncS_any 104 #[.pointer (some ⟨w2.heap.size, 0, none⟩)] (out3 p) _ (targetsP p) _ (HOW.out _ (by repeat (first | with_reducible exact New.refl _ | with_reducible assumption | with_reducible refine New.drew ?_ | with_reducible refine New.drewN ?_ _ | with_reducible refine New.alloc ?_ _ | with_reducible refine New.setCell ?_ (by first | (simp; done) | (simp; omega) | omega) _ | with_reducible refine New.trans ?_ (by with_reducible assumption)))) (fun _ _ => rfl) (fun x w1 hx n => iFault1_any x _ (madeP p) w2.heap.size w1 (by have := n.size; omega) (by rw [n.cell z4_2]; exact K2) (HMD.out _ (New.trans (show New w2 _ by exact (by repeat (first | with_reducible exact New.refl _ | with_reducible assumption | with_reducible refine New.drew ?_ | with_reducible refine New.drewN ?_ _ | with_reducible refine New.alloc ?_ _ | with_reducible refine New.setCell ?_ (by first | (simp; done) | (simp; omega) | omega) _ | with_reducible refine New.trans ?_ (by with_reducible assumption)))) n)))).mono ?_; rintro e w5 ⟨rfl, b5⟩
          go_wp2_with fail
          go_ret
          exact ⟨ret_int (by rw [← fault_eq]; exact (faultI_3 h1 h2 h3).symm), (by repeat (first | with_reducible exact New.refl _ | with_reducible assumption | with_reducible refine New.drew ?_ | with_reducible refine New.drewN ?_ _ | with_reducible refine New.alloc ?_ _ | with_reducible refine New.setCell ?_ (by first | (simp; done) | (simp; omega) | omega) _ | with_reducible refine New.trans ?_ (by with_reducible assumption)))⟩
        refine (containsFuncS_any 104 #[.pointer (some ⟨w2.heap.size, 0, none⟩)] (out3 p) _ (targetsP p) _ (HOW.out _ (by repeat (first | with_reducible exact New.refl _ | with_reducible assumption | with_reducible refine New.drew ?_ | with_reducible refine New.drewN ?_ _ | with_reducible refine New.alloc ?_ _ | with_reducible refine New.setCell ?_ (by first | (simp; done) | (simp; omega) | omega) _ | with_reducible refine New.trans ?_ (by with_reducible assumption)))) (fun _ _ => rfl) (fun x w1 hx n => iFault1_any x _ (madeP p) w2.heap.size w1 (by have := n.size; omega) (by rw [n.cell z4_2]; exact K2) (HMD.out _ (New.trans (show New w2 _ by exact (by repeat (first | with_reducible exact New.refl _ | with_reducible assumption | with_reducible refine New.drew ?_ | with_reducible refine New.drewN ?_ _ | with_reducible refine New.alloc ?_ _ | with_reducible refine New.setCell ?_ (by first | (simp; done) | (simp; omega) | omega) _ | with_reducible refine New.trans ?_ (by with_reducible assumption)))) n)))).mono ?_; rintro e w5 ⟨rfl, b5⟩
        obtain ⟨c5, f5⟩ := b5.rules; have z5 := b5.size; have z5_0 : w.heap.size < w5.heap.size := (by omega); have z5_1 : w.heap.size + 1 < w5.heap.size := (by omega); have z5_2 : w2.heap.size < w5.heap.size := (by omega)
        go_wp2_with fail
        rcases Bool.eq_false_or_eq_true (twB (targetsP p)) with h4 | h4
        · skip
          refine (iTwice_any _ (targetsP p) _ (HOW.out _ (by repeat (first | with_reducible exact New.refl _ | with_reducible assumption | with_reducible refine New.drew ?_ | with_reducible refine New.drewN ?_ _ | with_reducible refine New.alloc ?_ _ | with_reducible refine New.setCell ?_ (by first | (simp; done) | (simp; omega) | omega) _ | with_reducible refine New.trans ?_ (by with_reducible assumption))))).mono ?_; rintro e w6 ⟨rfl, b6⟩
          try with_reducible replace b6 := New.undrawN b6
          try with_reducible replace b6 := New.undraw b6
          obtain ⟨c6, f6⟩ := b6.rules
          have z6 := b6.size
          try simp only [World.size_alloc, World.size_drew, World.heap_drewN, World.size_setCell] at z6
          go_wp2_with fail
          go_ret
          exact ⟨ret_int (by rw [← fault_eq]; exact (faultI_4 h1 h2 h3 h4).symm), (by repeat (first | with_reducible exact New.refl _ | with_reducible assumption | with_reducible refine New.drew ?_ | with_reducible refine New.drewN ?_ _ | with_reducible refine New.alloc ?_ _ | with_reducible refine New.setCell ?_ (by first | (simp; done) | (simp; omega) | omega) _ | with_reducible refine New.trans ?_ (by with_reducible assumption)))⟩
        refine (iTwice_any _ (targetsP p) _ (HOW.out _ (by repeat (first | with_reducible exact New.refl _ | with_reducible assumption | with_reducible refine New.drew ?_ | with_reducible refine New.drewN ?_ _ | with_reducible refine New.alloc ?_ _ | with_reducible refine New.setCell ?_ (by first | (simp; done) | (simp; omega) | omega) _ | with_reducible refine New.trans ?_ (by with_reducible assumption))))).mono ?_; rintro e w6 ⟨rfl, b6⟩
        try with_reducible replace b6 := New.undrawN b6
        try with_reducible replace b6 := New.undraw b6
        obtain ⟨c6, f6⟩ := b6.rules
        have z6 := b6.size
        try simp only [World.size_alloc, World.size_drew, World.heap_drewN, World.size_setCell] at z6
        have z6_0 : w.heap.size < w6.heap.size := by omega
        have z6_1 : w.heap.size + 1 < w6.heap.size := by omega
        have z6_2 : w2.heap.size < w6.heap.size := by omega
        go_wp2_with fail
        rcases Bool.eq_false_or_eq_true ((madeP p).any (fun s => !memS (targetsP p) s)) with h5 | h5
        · refine (containsFuncS_any 105 #[.pointer (some ⟨w.heap.size + 1, 0, none⟩)] (fun s => !memS (targetsP p) s) _ (madeP p) _ (HMD.out _ (by repeat (first | with_reducible exact New.refl _ | with_reducible assumption | with_reducible refine New.drew ?_ | with_reducible refine New.drewN ?_ _ | with_reducible refine New.alloc ?_ _ | with_reducible refine New.setCell ?_ (by first | (simp; done) | (simp; omega) | omega) _ | with_reducible refine New.trans ?_ (by with_reducible assumption)))) (fun _ _ => rfl) (fun x w1 hx n => iFault2_any x _ (targetsP p) (w.heap.size + 1) w1 (by have := n.size; omega) (by rw [n.cell z6_1, c6 _ _ z5_1, c5 _ _ z4_1]; exact K1) (HOW.out _ (New.trans (show New wr _ by exact (by repeat (first | with_reducible exact New.refl _ | with_reducible assumption | with_reducible refine New.drew ?_ | with_reducible refine New.drewN ?_ _ | with_reducible refine New.alloc ?_ _ | with_reducible refine New.setCell ?_ (by first | (simp; done) | (simp; omega) | omega) _ | with_reducible refine New.trans ?_ (by with_reducible assumption)))) n)))).mono ?_; rintro e w7 ⟨rfl, b7⟩
          go_wp2_with fail
          go_ret
          exact ⟨ret_int (by rw [← fault_eq]; exact (faultI_5 h1 h2 h3 h4 h5).symm), (by repeat (first | with_reducible exact New.refl _ | with_reducible assumption | with_reducible refine New.drew ?_ | with_reducible refine New.drewN ?_ _ | with_reducible refine New.alloc ?_ _ | with_reducible refine New.setCell ?_ (by first | (simp; done) | (simp; omega) | omega) _ | with_reducible refine New.trans ?_ (by with_reducible assumption)))⟩
        refine (containsFuncS_any 105 #[.pointer (some ⟨w.heap.size + 1, 0, none⟩)] (fun s => !memS (targetsP p) s) _ (madeP p) _ (HMD.out _ (by repeat (first | with_reducible exact New.refl _ | with_reducible assumption | with_reducible refine New.drew ?_ | with_reducible refine New.drewN ?_ _ | with_reducible refine New.alloc ?_ _ | with_reducible refine New.setCell ?_ (by first | (simp; done) | (simp; omega) | omega) _ | with_reducible refine New.trans ?_ (by with_reducible assumption)))) (fun _ _ => rfl) (fun x w1 hx n => iFault2_any x _ (targetsP p) (w.heap.size + 1) w1 (by have := n.size; omega) (by rw [n.cell z6_1, c6 _ _ z5_1, c5 _ _ z4_1]; exact K1) (HOW.out _ (New.trans (show New wr _ by exact (by repeat (first | with_reducible exact New.refl _ | with_reducible assumption | with_reducible refine New.drew ?_ | with_reducible refine New.drewN ?_ _ | with_reducible refine New.alloc ?_ _ | with_reducible refine New.setCell ?_ (by first | (simp; done) | (simp; omega) | omega) _ | with_reducible refine New.trans ?_ (by with_reducible assumption)))) n)))).mono ?_; rintro e w7 ⟨rfl, b7⟩
        obtain ⟨c7, f7⟩ := b7.rules; have z7 := b7.size; have z7_0 : w.heap.size < w7.heap.size := (by omega); have z7_1 : w.heap.size + 1 < w7.heap.size := (by omega); have z7_2 : w2.heap.size < w7.heap.size := (by omega)
        go_wp2_with fail
        rcases Bool.eq_false_or_eq_true (p.lines.any (unkL p)) with h6 | h6
        · refine (containsFuncLnB_any 106 (valP p (.slice ia p.inputs.length ic) (.slice ja p.vars.length jc) (.slice oa p.outputs.length oc) (.slice la ps.length lc)) (unkL p) _ p.lines _ (HLN.out.new (by repeat (first | with_reducible exact New.refl _ | with_reducible assumption | with_reducible refine New.drew ?_ | with_reducible refine New.drewN ?_ _ | with_reducible refine New.alloc ?_ _ | with_reducible refine New.setCell ?_ (by first | (simp; done) | (simp; omega) | omega) _ | with_reducible refine New.trans ?_ (by with_reducible assumption)))) (fun _ _ => rfl) (fun x tv w1 hx n hr => iUnknown_any p _ _ _ _ x tv w1 (HP.out.new (New.trans (show New w _ by exact (by repeat (first | with_reducible exact New.refl _ | with_reducible assumption | with_reducible refine New.drew ?_ | with_reducible refine New.drewN ?_ _ | with_reducible refine New.alloc ?_ _ | with_reducible refine New.setCell ?_ (by first | (simp; done) | (simp; omega) | omega) _ | with_reducible refine New.trans ?_ (by with_reducible assumption)))) n)) hr)).mono ?_; rintro e w8 ⟨rfl, b8⟩
          go_wp2_with fail
          go_ret
          exact ⟨ret_int (by rw [← fault_eq]; exact (faultI_6 h1 h2 h3 h4 h5 h6).symm), (by repeat (first | with_reducible exact New.refl _ | with_reducible assumption | with_reducible refine New.drew ?_ | with_reducible refine New.drewN ?_ _ | with_reducible refine New.alloc ?_ _ | with_reducible refine New.setCell ?_ (by first | (simp; done) | (simp; omega) | omega) _ | with_reducible refine New.trans ?_ (by with_reducible assumption)))⟩
        refine (containsFuncLnB_any 106 (valP p (.slice ia p.inputs.length ic) (.slice ja p.vars.length jc) (.slice oa p.outputs.length oc) (.slice la ps.length lc)) (unkL p) _ p.lines _ (HLN.out.new (by repeat (first | with_reducible exact New.refl _ | with_reducible assumption | with_reducible refine New.drew ?_ | with_reducible refine New.drewN ?_ _ | with_reducible refine New.alloc ?_ _ | with_reducible refine New.setCell ?_ (by first | (simp; done) | (simp; omega) | omega) _ | with_reducible refine New.trans ?_ (by with_reducible assumption)))) (fun _ _ => rfl) (fun x tv w1 hx n hr => iUnknown_any p _ _ _ _ x tv w1 (HP.out.new (New.trans (show New w _ by exact (by repeat (first | with_reducible exact New.refl _ | with_reducible assumption | with_reducible refine New.drew ?_ | with_reducible refine New.drewN ?_ _ | with_reducible refine New.alloc ?_ _ | with_reducible refine New.setCell ?_ (by first | (simp; done) | (simp; omega) | omega) _ | with_reducible refine New.trans ?_ (by with_reducible assumption)))) n)) hr)).mono ?_; rintro e w8 ⟨rfl, b8⟩
        go_wp2_with fail
        go_ret
        exact ⟨ret_int (by rw [← fault_eq]; exact (faultI_0 h1 h2 h3 h4 h5 h6).symm), (by repeat (first | with_reducible exact New.refl _ | with_reducible assumption | with_reducible refine New.drew ?_ | with_reducible refine New.drewN ?_ _ | with_reducible refine New.alloc ?_ _ | with_reducible refine New.setCell ?_ (by first | (simp; done) | (simp; omega) | omega) _ | with_reducible refine New.trans ?_ (by with_reducible assumption)))⟩
      · skip
        refine (iTwice_any _ (allP p) _ (own_rd own3)).mono ?_; rintro e w4 ⟨rfl, b4⟩
        try with_reducible replace b4 := New.undrawN b4
        try with_reducible replace b4 := New.undraw b4
        obtain ⟨c4, f4⟩ := b4.rules
        have z4 := b4.size
        try simp only [World.size_alloc, World.size_drew, World.heap_drewN, World.size_setCell] at z4
        have z4_0 : w.heap.size < w4.heap.size := by omega
        have z4_1 : w.heap.size + 1 < w4.heap.size := by omega
        have z4_2 : w2.heap.size < w4.heap.size := by omega
        go_wp2_with fail
        have K1 : w4.cell? ⟨w.heap.size + 1, 0, none⟩ = some (.slice ta ps.length tc) := by simp (disch := first | (simp only [World.size_alloc, World.size_drew, World.size_setCell]; omega) | omega | (simp; done) | (simp; omega)) only [c4, c3, c2, hct, cell_alloc_old, cell_alloc_new, World.cell?_drewN, World.cell?_drew]; first | done | rfl | (simp; done)
        have K2 : w4.cell? ⟨w2.heap.size, 0, none⟩ = some (.slice ma (madeP p).length mc) := by simp (disch := first | (simp only [World.size_alloc, World.size_drew, World.size_setCell]; omega) | omega | (simp; done) | (simp; omega)) only [c4, c3, cell_alloc_old, cell_alloc_new, World.cell?_drewN, World.cell?_drew]; first | done | rfl | (simp; done)
        rcases Bool.eq_false_or_eq_true (p.inputs.any fun y => p.guard.toList == y.toList) with g1 | g1
        · have h2 : bad2 p = false := by rw [bad2, readB, memS, g1]; simp
          refine (containsS_any p.guard _ p.inputs _ (Rd.new HP.out.ins (by repeat (first | with_reducible exact New.refl _ | with_reducible assumption | with_reducible refine New.drew ?_ | with_reducible refine New.drewN ?_ _ | with_reducible refine New.alloc ?_ _ | with_reducible refine New.setCell ?_ (by first | (simp; done) | (simp; omega) | omega) _ | with_reducible refine New.trans ?_ (by with_reducible assumption))))).mono ?_; rintro e wx ⟨rfl, rfl⟩
          go_wp2_with fail
          rcases Bool.eq_false_or_eq_true ((targetsP p).any (out3 p)) with h3 | h3
          · refine (containsFuncS_any 104 #[.pointer (some ⟨w2.heap.size, 0, none⟩)] (out3 p) _ (targetsP p) _ (HOW.out _ (by repeat (first | with_reducible exact New.refl _ | with_reducible assumption | with_reducible refine New.drew ?_ | with_reducible refine New.drewN ?_ _ | with_reducible refine New.alloc ?_ _ | with_reducible refine New.setCell ?_ (by first | (simp; done) | (simp; omega) | omega) _ | with_reducible refine New.trans ?_ (by with_reducible assumption)))) (fun _ _ => rfl) (fun x w1 hx n => iFault1_any x _ (madeP p) w2.heap.size w1 (by have := n.size; omega) (by rw [n.cell z4_2]; exact K2) (HMD.out _ (New.trans (show New w2 _ by exact (by repeat (first | with_reducible exact New.refl _ | with_reducible assumption | with_reducible refine New.drew ?_ | with_reducible refine New.drewN ?_ _ | with_reducible refine New.alloc ?_ _ | with_reducible refine New.setCell ?_ (by first | (simp; done) | (simp; omega) | omega) _ | with_reducible refine New.trans ?_ (by with_reducible assumption)))) n)))).mono ?_; rintro e w5 ⟨rfl, b5⟩
            go_wp2_with fail
            go_ret
            exact ⟨ret_int (by rw [← fault_eq]; exact (faultI_3 h1 h2 h3).symm), (by repeat (first | with_reducible exact New.refl _ | with_reducible assumption | with_reducible refine New.drew ?_ | with_reducible refine New.drewN ?_ _ | with_reducible refine New.alloc ?_ _ | with_reducible refine New.setCell ?_ (by first | (simp; done) | (simp; omega) | omega) _ | with_reducible refine New.trans ?_ (by with_reducible assumption)))⟩
          refine (containsFuncS_any 104 #[.pointer (some ⟨w2.heap.size, 0, none⟩)] (out3 p) _ (targetsP p) _ (HOW.out _ (by repeat (first | with_reducible exact New.refl _ | with_reducible assumption | with_reducible refine New.drew ?_ | with_reducible refine New.drewN ?_ _ | with_reducible refine New.alloc ?_ _ | with_reducible refine New.setCell ?_ (by first | (simp; done) | (simp; omega) | omega) _ | with_reducible refine New.trans ?_ (by with_reducible assumption)))) (fun _ _ => rfl) (fun x w1 hx n => iFault1_any x _ (madeP p) w2.heap.size w1 (by have := n.size; omega) (by rw [n.cell z4_2]; exact K2) (HMD.out _ (New.trans (show New w2 _ by exact (by repeat (first | with_reducible exact New.refl _ | with_reducible assumption | with_reducible refine New.drew ?_ | with_reducible refine New.drewN ?_ _ | with_reducible refine New.alloc ?_ _ | with_reducible refine New.setCell ?_ (by first | (simp; done) | (simp; omega) | omega) _ | with_reducible refine New.trans ?_ (by with_reducible assumption)))) n)))).mono ?_; rintro e w5 ⟨rfl, b5⟩
          obtain ⟨c5, f5⟩ := b5.rules; have z5 := b5.size; have z5_0 : w.heap.size < w5.heap.size := (by omega); have z5_1 : w.heap.size + 1 < w5.heap.size := (by omega); have z5_2 : w2.heap.size < w5.heap.size := (by omega)
          go_wp2_with fail
          rcases Bool.eq_false_or_eq_true (twB (targetsP p)) with h4 | h4
          · skip
            refine (iTwice_any _ (targetsP p) _ (HOW.out _ (by repeat (first | with_reducible exact New.refl _ | with_reducible assumption | with_reducible refine New.drew ?_ | with_reducible refine New.drewN ?_ _ | with_reducible refine New.alloc ?_ _ | with_reducible refine New.setCell ?_ (by first | (simp; done) | (simp; omega) | omega) _ | with_reducible refine New.trans ?_ (by with_reducible assumption))))).mono ?_; rintro e w6 ⟨rfl, b6⟩
            try with_reducible replace b6 := New.undrawN b6
            try with_reducible replace b6 := New.undraw b6
            obtain ⟨c6, f6⟩ := b6.rules
            have z6 := b6.size
            try simp only [World.size_alloc, World.size_drew, World.heap_drewN, World.size_setCell] at z6
            go_wp2_with fail
            go_ret
            exact ⟨ret_int (by rw [← fault_eq]; exact (faultI_4 h1 h2 h3 h4).symm), (by repeat (first | with_reducible exact New.refl _ | with_reducible assumption | with_reducible refine New.drew ?_ | with_reducible refine New.drewN ?_ _ | with_reducible refine New.alloc ?_ _ | with_reducible refine New.setCell ?_ (by first | (simp; done) | (simp; omega) | omega) _ | with_reducible refine New.trans ?_ (by with_reducible assumption)))⟩
          refine (iTwice_any _ (targetsP p) _ (HOW.out _ (by repeat (first | with_reducible exact New.refl _ | with_reducible assumption | with_reducible refine New.drew ?_ | with_reducible refine New.drewN ?_ _ | with_reducible refine New.alloc ?_ _ | with_reducible refine New.setCell ?_ (by first | (simp; done) | (simp; omega) | omega) _ | with_reducible refine New.trans ?_ (by with_reducible assumption))))).mono ?_; rintro e w6 ⟨rfl, b6⟩
          try with_reducible replace b6 := New.undrawN b6
          try with_reducible replace b6 := New.undraw b6
          obtain ⟨c6, f6⟩ := b6.rules
          have z6 := b6.size
          try simp only [World.size_alloc, World.size_drew, World.heap_drewN, World.size_setCell] at z6
          have z6_0 : w.heap.size < w6.heap.size := by omega
          have z6_1 : w.heap.size + 1 < w6.heap.size := by omega
          have z6_2 : w2.heap.size < w6.heap.size := by omega
          go_wp2_with fail
          rcases Bool.eq_false_or_eq_true ((madeP p).any (fun s => !memS (targetsP p) s)) with h5 | h5
          · refine (containsFuncS_any 105 #[.pointer (some ⟨w.heap.size + 1, 0, none⟩)] (fun s => !memS (targetsP p) s) _ (madeP p) _ (HMD.out _ (by repeat (first | with_reducible exact New.refl _ | with_reducible assumption | with_reducible refine New.drew ?_ | with_reducible refine New.drewN ?_ _ | with_reducible refine New.alloc ?_ _ | with_reducible refine New.setCell ?_ (by first | (simp; done) | (simp; omega) | omega) _ | with_reducible refine New.trans ?_ (by with_reducible assumption)))) (fun _ _ => rfl) (fun x w1 hx n => iFault2_any x _ (targetsP p) (w.heap.size + 1) w1 (by have := n.size; omega) (by rw [n.cell z6_1, c6 _ _ z5_1, c5 _ _ z4_1]; exact K1) (HOW.out _ (New.trans (show New wr _ by exact (by repeat (first | with_reducible exact New.refl _ | with_reducible assumption | with_reducible refine New.drew ?_ | with_reducible refine New.drewN ?_ _ | with_reducible refine New.alloc ?_ _ | with_reducible refine New.setCell ?_ (by first | (simp; done) | (simp; omega) | omega) _ | with_reducible refine New.trans ?_ (by with_reducible assumption)))) n)))).mono ?_; rintro e w7 ⟨rfl, b7⟩
            go_wp2_with fail
            go_ret
            exact ⟨ret_int (by rw [← fault_eq]; exact (faultI_5 h1 h2 h3 h4 h5).symm), (by repeat (first | with_reducible exact New.refl _ | with_reducible assumption | with_reducible refine New.drew ?_ | with_reducible refine New.drewN ?_ _ | with_reducible refine New.alloc ?_ _ | with_reducible refine New.setCell ?_ (by first | (simp; done) | (simp; omega) | omega) _ | with_reducible refine New.trans ?_ (by with_reducible assumption)))⟩
          refine (containsFuncS_any 105 #[.pointer (some ⟨w.heap.size + 1, 0, none⟩)] (fun s => !memS (targetsP p) s) _ (madeP p) _ (HMD.out _ (by repeat (first | with_reducible exact New.refl _ | with_reducible assumption | with_reducible refine New.drew ?_ | with_reducible refine New.drewN ?_ _ | with_reducible refine New.alloc ?_ _ | with_reducible refine New.setCell ?_ (by first | (simp; done) | (simp; omega) | omega) _ | with_reducible refine New.trans ?_ (by with_reducible assumption)))) (fun _ _ => rfl) (fun x w1 hx n => iFault2_any x _ (targetsP p) (w.heap.size + 1) w1 (by have := n.size; omega) (by rw [n.cell z6_1, c6 _ _ z5_1, c5 _ _ z4_1]; exact K1) (HOW.out _ (New.trans (show New wr _ by exact (by repeat (first | with_reducible exact New.refl _ | with_reducible assumption | with_reducible refine New.drew ?_ | with_reducible refine New.drewN ?_ _ | with_reducible refine New.alloc ?_ _ | with_reducible refine New.setCell ?_ (by first | (simp; done) | (simp; omega) | omega) _ | with_reducible refine New.trans ?_ (by with_reducible assumption)))) n)))).mono ?_; rintro e w7 ⟨rfl, b7⟩
          obtain ⟨c7, f7⟩ := b7.rules; have z7 := b7.size; have z7_0 : w.heap.size < w7.heap.size := (by omega); have z7_1 : w.heap.size + 1 < w7.heap.size := (by omega); have z7_2 : w2.heap.size < w7.heap.size := (by omega)
          go_wp2_with fail
          rcases Bool.eq_false_or_eq_true (p.lines.any (unkL p)) with h6 | h6
          · refine (containsFuncLnB_any 106 (valP p (.slice ia p.inputs.length ic) (.slice ja p.vars.length jc) (.slice oa p.outputs.length oc) (.slice la ps.length lc)) (unkL p) _ p.lines _ (HLN.out.new (by repeat (first | with_reducible exact New.refl _ | with_reducible assumption | with_reducible refine New.drew ?_ | with_reducible refine New.drewN ?_ _ | with_reducible refine New.alloc ?_ _ | with_reducible refine New.setCell ?_ (by first | (simp; done) | (simp; omega) | omega) _ | with_reducible refine New.trans ?_ (by with_reducible assumption)))) (fun _ _ => rfl) (fun x tv w1 hx n hr => iUnknown_any p _ _ _ _ x tv w1 (HP.out.new (New.trans (show New w _ by exact (by repeat (first | with_reducible exact New.refl _ | with_reducible assumption | with_reducible refine New.drew ?_ | with_reducible refine New.drewN ?_ _ | with_reducible refine New.alloc ?_ _ | with_reducible refine New.setCell ?_ (by first | (simp; done) | (simp; omega) | omega) _ | with_reducible refine New.trans ?_ (by with_reducible assumption)))) n)) hr)).mono ?_; rintro e w8 ⟨rfl, b8⟩
            go_wp2_with fail
            go_ret
            exact ⟨ret_int (by rw [← fault_eq]; exact (faultI_6 h1 h2 h3 h4 h5 h6).symm), (by repeat (first | with_reducible exact New.refl _ | with_reducible assumption | with_reducible refine New.drew ?_ | with_reducible refine New.drewN ?_ _ | with_reducible refine New.alloc ?_ _ | with_reducible refine New.setCell ?_ (by first | (simp; done) | (simp; omega) | omega) _ | with_reducible refine New.trans ?_ (by with_reducible assumption)))⟩
          refine (containsFuncLnB_any 106 (valP p (.slice ia p.inputs.length ic) (.slice ja p.vars.length jc) (.slice oa p.outputs.length oc) (.slice la ps.length lc)) (unkL p) _ p.lines _ (HLN.out.new (by repeat (first | with_reducible exact New.refl _ | with_reducible assumption | with_reducible refine New.drew ?_ | with_reducible refine New.drewN ?_ _ | with_reducible refine New.alloc ?_ _ | with_reducible refine New.setCell ?_ (by first | (simp; done) | (simp; omega) | omega) _ | with_reducible refine New.trans ?_ (by with_reducible assumption)))) (fun _ _ => rfl) (fun x tv w1 hx n hr => iUnknown_any p _ _ _ _ x tv w1 (HP.out.new (New.trans (show New w _ by exact (by repeat (first | with_reducible exact New.refl _ | with_reducible assumption | with_reducible refine New.drew ?_ | with_reducible refine New.drewN ?_ _ | with_reducible refine New.alloc ?_ _ | with_reducible refine New.setCell ?_ (by first | (simp; done) | (simp; omega) | omega) _ | with_reducible refine New.trans ?_ (by with_reducible assumption)))) n)) hr)).mono ?_; rintro e w8 ⟨rfl, b8⟩
          go_wp2_with fail
          go_ret
          exact ⟨ret_int (by rw [← fault_eq]; exact (faultI_0 h1 h2 h3 h4 h5 h6).symm), (by repeat (first | with_reducible exact New.refl _ | with_reducible assumption | with_reducible refine New.drew ?_ | with_reducible refine New.drewN ?_ _ | with_reducible refine New.alloc ?_ _ | with_reducible refine New.setCell ?_ (by first | (simp; done) | (simp; omega) | omega) _ | with_reducible refine New.trans ?_ (by with_reducible assumption)))⟩
        · refine (containsS_any p.guard _ p.inputs _ (Rd.new HP.out.ins (by repeat (first | with_reducible exact New.refl _ | with_reducible assumption | with_reducible refine New.drew ?_ | with_reducible refine New.drewN ?_ _ | with_reducible refine New.alloc ?_ _ | with_reducible refine New.setCell ?_ (by first | (simp; done) | (simp; omega) | omega) _ | with_reducible refine New.trans ?_ (by with_reducible assumption))))).mono ?_; rintro e wx ⟨rfl, rfl⟩
          go_wp2_with fail
          rcases Bool.eq_false_or_eq_true (p.vars.any fun y => p.guard.toList == y.toList) with g2 | g2
          · have h2 : bad2 p = false := by rw [bad2, readB, memS, memS, g2]; simp
            refine (containsS_any p.guard _ p.vars _ (Rd.new HP.out.vars (by repeat (first | with_reducible exact New.refl _ | with_reducible assumption | with_reducible refine New.drew ?_ | with_reducible refine New.drewN ?_ _ | with_reducible refine New.alloc ?_ _ | with_reducible refine New.setCell ?_ (by first | (simp; done) | (simp; omega) | omega) _ | with_reducible refine New.trans ?_ (by with_reducible assumption))))).mono ?_; rintro e wx ⟨rfl, rfl⟩
            go_wp2_with fail
            rcases Bool.eq_false_or_eq_true ((targetsP p).any (out3 p)) with h3 | h3
            · refine (containsFuncS_any 104 #[.pointer (some ⟨w2.heap.size, 0, none⟩)] (out3 p) _ (targetsP p) _ (HOW.out _ (by repeat (first | with_reducible exact New.refl _ | with_reducible assumption | with_reducible refine New.drew ?_ | with_reducible refine New.drewN ?_ _ | with_reducible refine New.alloc ?_ _ | with_reducible refine New.setCell ?_ (by first | (simp; done) | (simp; omega) | omega) _ | with_reducible refine New.trans ?_ (by with_reducible assumption)))) (fun _ _ => rfl) (fun x w1 hx n => iFault1_any x _ (madeP p) w2.heap.size w1 (by have := n.size; omega) (by rw [n.cell z4_2]; exact K2) (HMD.out _ (New.trans (show New w2 _ by exact (by repeat (first | with_reducible exact New.refl _ | with_reducible assumption | with_reducible refine New.drew ?_ | with_reducible refine New.drewN ?_ _ | with_reducible refine New.alloc ?_ _ | with_reducible refine New.setCell ?_ (by first | (simp; done) | (simp; omega) | omega) _ | with_reducible refine New.trans ?_ (by with_reducible assumption)))) n)))).mono ?_; rintro e w5 ⟨rfl, b5⟩
              go_wp2_with fail
              go_ret
              exact ⟨ret_int (by rw [← fault_eq]; exact (faultI_3 h1 h2 h3).symm), (by repeat (first | with_reducible exact New.refl _ | with_reducible assumption | with_reducible refine New.drew ?_ | with_reducible refine New.drewN ?_ _ | with_reducible refine New.alloc ?_ _ | with_reducible refine New.setCell ?_ (by first | (simp; done) | (simp; omega) | omega) _ | with_reducible refine New.trans ?_ (by with_reducible assumption)))⟩
            refine (containsFuncS_any 104 #[.pointer (some ⟨w2.heap.size, 0, none⟩)] (out3 p) _ (targetsP p) _ (HOW.out _ (by repeat (first | with_reducible exact New.refl _ | with_reducible assumption | with_reducible refine New.drew ?_ | with_reducible refine New.drewN ?_ _ | with_reducible refine New.alloc ?_ _ | with_reducible refine New.setCell ?_ (by first | (simp; done) | (simp; omega) | omega) _ | with_reducible refine New.trans ?_ (by with_reducible assumption)))) (fun _ _ => rfl) (fun x w1 hx n => iFault1_any x _ (madeP p) w2.heap.size w1 (by have := n.size; omega) (by rw [n.cell z4_2]; exact K2) (HMD.out _ (New.trans (show New w2 _ by exact (by repeat (first | with_reducible exact New.refl _ | with_reducible assumption | with_reducible refine New.drew ?_ | with_reducible refine New.drewN ?_ _ | with_reducible refine New.alloc ?_ _ | with_reducible refine New.setCell ?_ (by first | (simp; done) | (simp; omega) | omega) _ | with_reducible refine New.trans ?_ (by with_reducible assumption)))) n)))).mono ?_; rintro e w5 ⟨rfl, b5⟩
            obtain ⟨c5, f5⟩ := b5.rules; have z5 := b5.size; have z5_0 : w.heap.size < w5.heap.size := (by omega); have z5_1 : w.heap.size + 1 < w5.heap.size := (by omega); have z5_2 : w2.heap.size < w5.heap.size := (by omega)
            go_wp2_with fail
            rcases Bool.eq_false_or_eq_true (twB (targetsP p)) with h4 | h4
            · skip
              refine (iTwice_any _ (targetsP p) _ (HOW.out _ (by repeat (first | with_reducible exact New.refl _ | with_reducible assumption | with_reducible refine New.drew ?_ | with_reducible refine New.drewN ?_ _ | with_reducible refine New.alloc ?_ _ | with_reducible refine New.setCell ?_ (by first | (simp; done) | (simp; omega) | omega) _ | with_reducible refine New.trans ?_ (by with_reducible assumption))))).mono ?_; rintro e w6 ⟨rfl, b6⟩
              try with_reducible replace b6 := New.undrawN b6
              try with_reducible replace b6 := New.undraw b6
              obtain ⟨c6, f6⟩ := b6.rules
              have z6 := b6.size
              try simp only [World.size_alloc, World.size_drew, World.heap_drewN, World.size_setCell] at z6
              go_wp2_with fail
              go_ret
              exact ⟨ret_int (by rw [← fault_eq]; exact (faultI_4 h1 h2 h3 h4).symm), (by repeat (first | with_reducible exact New.refl _ | with_reducible assumption | with_reducible refine New.drew ?_ | with_reducible refine New.drewN ?_ _ | with_reducible refine New.alloc ?_ _ | with_reducible refine New.setCell ?_ (by first | (simp; done) | (simp; omega) | omega) _ | with_reducible refine New.trans ?_ (by with_reducible assumption)))⟩
            refine (iTwice_any _ (targetsP p) _ (HOW.out _ (by repeat (first | with_reducible exact New.refl _ | with_reducible assumption | with_reducible refine New.drew ?_ | with_reducible refine New.drewN ?_ _ | with_reducible refine New.alloc ?_ _ | with_reducible refine New.setCell ?_ (by first | (simp; done) | (simp; omega) | omega) _ | with_reducible refine New.trans ?_ (by with_reducible assumption))))).mono ?_; rintro e w6 ⟨rfl, b6⟩
            try with_reducible replace b6 := New.undrawN b6
            try with_reducible replace b6 := New.undraw b6
            obtain ⟨c6, f6⟩ := b6.rules
            have z6 := b6.size
            try simp only [World.size_alloc, World.size_drew, World.heap_drewN, World.size_setCell] at z6
            have z6_0 : w.heap.size < w6.heap.size := by omega
            have z6_1 : w.heap.size + 1 < w6.heap.size := by omega
            have z6_2 : w2.heap.size < w6.heap.size := by omega
            go_wp2_with fail
            rcases Bool.eq_false_or_eq_true ((madeP p).any (fun s => !memS (targetsP p) s)) with h5 | h5
            · refine (containsFuncS_any 105 #[.pointer (some ⟨w.heap.size + 1, 0, none⟩)] (fun s => !memS (targetsP p) s) _ (madeP p) _ (HMD.out _ (by repeat (first | with_reducible exact New.refl _ | with_reducible assumption | with_reducible refine New.drew ?_ | with_reducible refine New.drewN ?_ _ | with_reducible refine New.alloc ?_ _ | with_reducible refine New.setCell ?_ (by first | (simp; done) | (simp; omega) | omega) _ | with_reducible refine New.trans ?_ (by with_reducible assumption)))) (fun _ _ => rfl) (fun x w1 hx n => iFault2_any x _ (targetsP p) (w.heap.size + 1) w1 (by have := n.size; omega) (by rw [n.cell z6_1, c6 _ _ z5_1, c5 _ _ z4_1]; exact K1) (HOW.out _ (New.trans (show New wr _ by exact (by repeat (first | with_reducible exact New.refl _ | with_reducible assumption | with_reducible refine New.drew ?_ | with_reducible refine New.drewN ?_ _ | with_reducible refine New.alloc ?_ _ | with_reducible refine New.setCell ?_ (by first | (simp; done) | (simp; omega) | omega) _ | with_reducible refine New.trans ?_ (by with_reducible assumption)))) n)))).mono ?_; rintro e w7 ⟨rfl, b7⟩
              go_wp2_with fail
              go_ret
              exact ⟨ret_int (by rw [← fault_eq]; exact (faultI_5 h1 h2 h3 h4 h5).symm), (by repeat (first | with_reducible exact New.refl _ | with_reducible assumption | with_reducible refine New.drew ?_ | with_reducible refine New.drewN ?_ _ | with_reducible refine New.alloc ?_ _ | with_reducible refine New.setCell ?_ (by first | (simp; done) | (simp; omega) | omega) _ | with_reducible refine New.trans ?_ (by with_reducible assumption)))⟩
            refine (containsFuncS_any 105 #[.pointer (some ⟨w.heap.size + 1, 0, none⟩)] (fun s => !memS (targetsP p) s) _ (madeP p) _ (HMD.out _ (by repeat (first | with_reducible exact New.refl _ | with_reducible assumption | with_reducible refine New.drew ?_ | with_reducible refine New.drewN ?_ _ | with_reducible refine New.alloc ?_ _ | with_reducible refine New.setCell ?_ (by first | (simp; done) | (simp; omega) | omega) _ | with_reducible refine New.trans ?_ (by with_reducible assumption)))) (fun _ _ => rfl) (fun x w1 hx n => iFault2_any x _ (targetsP p) (w.heap.size + 1) w1 (by have := n.size; omega) (by rw [n.cell z6_1, c6 _ _ z5_1, c5 _ _ z4_1]; exact K1) (HOW.out _ (New.trans (show New wr _ by exact (by repeat (first | with_reducible exact New.refl _ | with_reducible assumption | with_reducible refine New.drew ?_ | with_reducible refine New.drewN ?_ _ | with_reducible refine New.alloc ?_ _ | with_reducible refine New.setCell ?_ (by first | (simp; done) | (simp; omega) | omega) _ | with_reducible refine New.trans ?_ (by with_reducible assumption)))) n)))).mono ?_; rintro e w7 ⟨rfl, b7⟩
            obtain ⟨c7, f7⟩ := b7.rules; have z7 := b7.size; have z7_0 : w.heap.size < w7.heap.size := (by omega); have z7_1 : w.heap.size + 1 < w7.heap.size := (by omega); have z7_2 : w2.heap.size < w7.heap.size := (by omega)
            go_wp2_with fail
            rcases Bool.eq_false_or_eq_true (p.lines.any (unkL p)) with h6 | h6
            · refine (containsFuncLnB_any 106 (valP p (.slice ia p.inputs.length ic) (.slice ja p.vars.length jc) (.slice oa p.outputs.length oc) (.slice la ps.length lc)) (unkL p) _ p.lines _ (HLN.out.new (by repeat (first | with_reducible exact New.refl _ | with_reducible assumption | with_reducible refine New.drew ?_ | with_reducible refine New.drewN ?_ _ | with_reducible refine New.alloc ?_ _ | with_reducible refine New.setCell ?_ (by first | (simp; done) | (simp; omega) | omega) _ | with_reducible refine New.trans ?_ (by with_reducible assumption)))) (fun _ _ => rfl) (fun x tv w1 hx n hr => iUnknown_any p _ _ _ _ x tv w1 (HP.out.new (New.trans (show New w _ by exact (by repeat (first | with_reducible exact New.refl _ | with_reducible assumption | with_reducible refine New.drew ?_ | with_reducible refine New.drewN ?_ _ | with_reducible refine New.alloc ?_ _ | with_reducible refine New.setCell ?_ (by first | (simp; done) | (simp; omega) | omega) _ | with_reducible refine New.trans ?_ (by with_reducible assumption)))) n)) hr)).mono ?_; rintro e w8 ⟨rfl, b8⟩
              go_wp2_with fail
              go_ret
              exact ⟨ret_int (by rw [← fault_eq]; exact (faultI_6 h1 h2 h3 h4 h5 h6).symm), (by repeat (first | with_reducible exact New.refl _ | with_reducible assumption | with_reducible refine New.drew ?_ | with_reducible refine New.drewN ?_ _ | with_reducible refine New.alloc ?_ _ | with_reducible refine New.setCell ?_ (by first | (simp; done) | (simp; omega) | omega) _ | with_reducible refine New.trans ?_ (by with_reducible assumption)))⟩
            refine (containsFuncLnB_any 106 (valP p (.slice ia p.inputs.length ic) (.slice ja p.vars.length jc) (.slice oa p.outputs.length oc) (.slice la ps.length lc)) (unkL p) _ p.lines _ (HLN.out.new (by repeat (first | with_reducible exact New.refl _ | with_reducible assumption | with_reducible refine New.drew ?_ | with_reducible refine New.drewN ?_ _ | with_reducible refine New.alloc ?_ _ | with_reducible refine New.setCell ?_ (by first | (simp; done) | (simp; omega) | omega) _ | with_reducible refine New.trans ?_ (by with_reducible assumption)))) (fun _ _ => rfl) (fun x tv w1 hx n hr => iUnknown_any p _ _ _ _ x tv w1 (HP.out.new (New.trans (show New w _ by exact (by repeat (first | with_reducible exact New.refl _ | with_reducible assumption | with_reducible refine New.drew ?_ | with_reducible refine New.drewN ?_ _ | with_reducible refine New.alloc ?_ _ | with_reducible refine New.setCell ?_ (by first | (simp; done) | (simp; omega) | omega) _ | with_reducible refine New.trans ?_ (by with_reducible assumption)))) n)) hr)).mono ?_; rintro e w8 ⟨rfl, b8⟩
            go_wp2_with fail
            go_ret
            exact ⟨ret_int (by rw [← fault_eq]; exact (faultI_0 h1 h2 h3 h4 h5 h6).symm), (by repeat (first | with_reducible exact New.refl _ | with_reducible assumption | with_reducible refine New.drew ?_ | with_reducible refine New.drewN ?_ _ | with_reducible refine New.alloc ?_ _ | with_reducible refine New.setCell ?_ (by first | (simp; done) | (simp; omega) | omega) _ | with_reducible refine New.trans ?_ (by with_reducible assumption)))⟩
          · have h2 : bad2 p = true := by rw [bad2, readB, memS, memS, g1, g2, he]; rfl
            refine (containsS_any p.guard _ p.vars _ (Rd.new HP.out.vars (by repeat (first | with_reducible exact New.refl _ | with_reducible assumption | with_reducible refine New.drew ?_ | with_reducible refine New.drewN ?_ _ | with_reducible refine New.alloc ?_ _ | with_reducible refine New.setCell ?_ (by first | (simp; done) | (simp; omega) | omega) _ | with_reducible refine New.trans ?_ (by with_reducible assumption))))).mono ?_; rintro e wx ⟨rfl, rfl⟩
            go_wp2_with fail
            go_ret
            exact ⟨ret_int (by rw [← fault_eq]; exact (faultI_2 h1 h2).symm), (by repeat (first | with_reducible exact New.refl _ | with_reducible assumption | with_reducible refine New.drew ?_ | with_reducible refine New.drewN ?_ _ | with_reducible refine New.alloc ?_ _ | with_reducible refine New.setCell ?_ (by first | (simp; done) | (simp; omega) | omega) _ | with_reducible refine New.trans ?_ (by with_reducible assumption)))⟩
end Go.Proofs.YtadoocadohdfcaaDoor
