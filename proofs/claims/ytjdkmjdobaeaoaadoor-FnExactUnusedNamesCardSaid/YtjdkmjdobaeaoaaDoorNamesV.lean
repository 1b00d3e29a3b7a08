/- Contracts: unused names: the reference's function. -/
import Derived.Test.YtjdkmjdobaeaoaaDoorProg
import Derived.Test.YtjdkmjdobaeaoaaDoorNamesU
import Derived.Test.YtjdkmjdobaeaoaaDoorAppStep
namespace Go.Proofs.YtjdkmjdobaeaoaaDoor
open Go Go.Proofs Go.RowKit
set_option linter.unusedVariables false
set_option linter.unusedSimpArgs false
set_option maxRecDepth 100000
attribute [local go_sem ↓] Go.wp_at_zero Go.wp_at_succ
theorem own_empty_drew {w : World} {base : Nat} {e : TypeId} {sz n : Nat} {b : Nat} (h : base ≤ w.heap.size) (hb : b = w.heap.size) : ((w.alloc (.cells #[] e)).drewN n).ownsRow base e sz (.slice (some ⟨b, 0, none⟩) 0 0) 0 [] := by
  subst hb; exact own_new (own_empty h) ((New.refl _).drewN n)
theorem wB_names {p : ProgD} (h : wB p = true) : p.inputs.length ≤ 20 ∧ p.vars.length ≤ 20 ∧ p.outputs.length ≤ 20 := by
  simp only [wB, headB, namesB, inB, Bool.and_eq_true, decide_eq_true_eq] at h; omega
theorem codeR_wB {p : ProgD} (h : codeR p = 0) : wB p = true := by
  rw [codeR] at h
  split at h
  · assumption
  · omega
set_option maxHeartbeats 4000000 in
theorem sUnusedNames_any (p : ProgD) (iv vv ov lv : Value) (w : World) (hp : RdP w p iv vv ov lv) (hf : FitP p) :
    Calls Tryd.prog 48 #[valP p iv vv ov lv] w (RetSC w (unR p)) := by
  obtain ⟨i0, hi, hz0, hz1, hz2⟩ := info_parts infoStrC
  have HP := Lib.hid hp
  obtain ⟨h1, h2, _, hl⟩ := hp
  obtain ⟨ia, ic, rfl, _⟩ := id h1
  obtain ⟨ja, jc, rfl, _⟩ := id h2
  obtain ⟨ps, hps, hl1, hl2⟩ := hl
  obtain ⟨la, lc, rfl, hm, HC⟩ := Rd.flat encLV_len (by omega) hl1
  have HT := Lib.hid hl2
  have HPS := Lib.hid hps
  have HPL := Lib.hid (show p.lines.length = ps.length by rw [← hps, List.length_map])
  clear h1 h2 hl1 hl2 hps
  have hvm := hf.varsl
  have him := hf.insl
  obtain ⟨N, hN⟩ : ∃ N, N = p.inputs ++ p.vars := ⟨_, rfl⟩
  have hnl : N.length ≤ 2097152 := by rw [hN, List.length_append]; omega
  have HNN := Lib.hid hN; clear hN
  have HF := Lib.hid hf; clear hf
  have zz : w.heap.size < w.heap.size + 1 := by omega
  by_cases hc : codeR p = 0
  · have hC : (codeR p != 0) = false := by simp [hc]
    have HR := Lib.hid (show unR p = (N.filter (unB p), 0) by rw [unR, if_pos hc, HNN.out])
    rw [HR.out]
    clear hc
    go_enter Tryd.func48, Tryd.ntmps48
    go_wp2_with fail
    refine (sSoundCode_any p _ _ _ _ _ (HP.out.new (by repeat (first | with_reducible exact New.refl _ | with_reducible assumption | with_reducible refine New.drew ?_ | with_reducible refine New.drewN ?_ _ | with_reducible refine New.alloc ?_ _ | with_reducible refine New.setCell ?_ (by first | (simp; done) | (simp; omega) | omega) _ | with_reducible refine New.trans ?_ (by with_reducible assumption)))) HF.out).mono ?_; rintro e w1 ⟨rfl, b1⟩
    try replace b1 := New.undrawN b1
    try replace b1 := New.undraw b1
    obtain ⟨c1, f1⟩ := b1.rules
    have z1 := b1.size
    try simp only [World.size_alloc, World.size_drew, World.heap_drewN, World.size_setCell] at z1
    have z1_0 : w.heap.size < w1.heap.size := by omega
    go_wp2_with fail
    have k1 : w1.cell? ⟨w.heap.size, 1, none⟩ = some (.slice ia p.inputs.length ic) := by
      rw [c1 _ _ (by simp), cell_alloc_new _ _ _ _ _ rfl]; rfl
    have k2 : w1.cell? ⟨w.heap.size, 2, none⟩ = some (.slice ja p.vars.length jc) := by
      rw [c1 _ _ (by simp), cell_alloc_new _ _ _ _ _ rfl]; rfl
    have own0 : (w1.alloc (.cells #[] 9)).ownsRow (w.heap.size + 1) 9 1 (.slice (some ⟨w1.heap.size, 0, none⟩) 0 0) 0 [] := own_empty (by omega)
    go_region_held3 (fun w' => w'.cell? ⟨w.heap.size, 1, none⟩ = some (.slice ia p.inputs.length ic) ∧ w'.cell? ⟨w.heap.size, 2, none⟩ = some (.slice ja p.vars.length jc)) (first | go_keep | exact ⟨q2, q2'⟩ | exact ⟨q1, q1'⟩) ((first | (refine step_append_rd (by rfl) _ _ _ (by rfl) (w.heap.size + 1) 9 i0 (.string ⟨#[]⟩) 1 16 Tryd.underlying22 hi hz0 hz1 hz2 rfl (by decide) _ _ _ (by rfl) (own0) _ (p.inputs.length) (p.inputs.map Value.string) (by rfl) (Rd.new HP.out.ins (by repeat (first | with_reducible exact New.refl _ | with_reducible assumption | with_reducible refine New.drew ?_ | with_reducible refine New.drewN ?_ _ | with_reducible refine New.alloc ?_ _ | with_reducible refine New.setCell ?_ (by first | (simp; done) | (simp; omega) | omega) _ | with_reducible refine New.trans ?_ (by with_reducible assumption)))) (by simp) (by intro u hu; obtain ⟨y, _, rfl⟩ := List.mem_map.1 hu; rfl) (by unfold maxLen; omega) (by omega) (by first | (simp; done) | (simp; omega) | omega) ?_; intro va wa howna hgra; have B1 := Below.grown (Below.refl (w.heap.size + 1) _) hgra (by first | (simp; omega) | omega) (fun q hq => (own_block_lt own0 q hq).1); have q1 : wa.cell? ⟨w.heap.size, 1, none⟩ = some (.slice ia p.inputs.length ic) := ((Below.cell B1 (p := ⟨w.heap.size, 1, none⟩) (by dsimp; omega)).trans (by first | exact (cell_alloc_old _ _ _ _ (by first | omega | (simp; omega))).trans k1 | (simp; exact k1))); have q1' : wa.cell? ⟨w.heap.size, 2, none⟩ = some (.slice ja p.vars.length jc) := ((Below.cell B1 (p := ⟨w.heap.size, 2, none⟩) (by dsimp; omega)).trans (by first | exact (cell_alloc_old _ _ _ _ (by first | omega | (simp; omega))).trans k2 | (simp; exact k2))); have bn1 : New (w.alloc (.cells #[.string p.name, .slice ia p.inputs.length ic, .slice ja p.vars.length jc, ov, .string p.guard, .slice la ps.length lc] 30)) wa := New.grown (show New (w.alloc (.cells #[.string p.name, .slice ia p.inputs.length ic, .slice ja p.vars.length jc, ov, .string p.guard, .slice la ps.length lc] 30)) _ by exact (by repeat (first | with_reducible exact New.refl _ | with_reducible assumption | with_reducible refine New.drew ?_ | with_reducible refine New.drewN ?_ _ | with_reducible refine New.alloc ?_ _ | with_reducible refine New.setCell ?_ (by first | (simp; done) | (simp; omega) | omega) _ | with_reducible refine New.trans ?_ (by with_reducible assumption)))) hgra (fun q hq => by have := (own_block_lt own0 q hq).1; simp; omega); have z1a : w1.heap.size + 1 ≤ wa.heap.size := (by have := hgra.size; simpa using this); have own1 := howna; clear howna hgra own0) | (refine step_append_rd (by rfl) _ _ _ (by rfl) (w.heap.size + 1) 9 i0 (.string ⟨#[]⟩) 1 16 Tryd.underlying22 hi hz0 hz1 hz2 rfl (by decide) _ _ _ (by rfl) (own1) _ (p.vars.length) (p.vars.map Value.string) (by rfl) (Rd.new HP.out.vars (((New.refl w).alloc _).trans bn1)) (by simp) (by intro u hu; obtain ⟨y, _, rfl⟩ := List.mem_map.1 hu; rfl) (by unfold maxLen; omega) (by omega) (by first | (simp; done) | (simp; omega) | omega) ?_; intro va wa howna hgra; have B2 := Below.grown (Below.refl (w.heap.size + 1) _) hgra (by first | (simp; omega) | omega) (fun q hq => (own_block_lt own1 q hq).1); have q2 : wa.cell? ⟨w.heap.size, 1, none⟩ = some (.slice ia p.inputs.length ic) := ((Below.cell B2 (p := ⟨w.heap.size, 1, none⟩) (by dsimp; omega)).trans q1); have q2' : wa.cell? ⟨w.heap.size, 2, none⟩ = some (.slice ja p.vars.length jc) := ((Below.cell B2 (p := ⟨w.heap.size, 2, none⟩) (by dsimp; omega)).trans q1'); have bn2 : New (w.alloc (.cells #[.string p.name, .slice ia p.inputs.length ic, .slice ja p.vars.length jc, ov, .string p.guard, .slice la ps.length lc] 30)) wa := New.grown bn1 hgra (fun q hq => by have := (own_block_lt own1 q hq).1; simp; omega); have z2a : w1.heap.size + 1 ≤ wa.heap.size := (by have := hgra.size; omega); have own2 := howna; clear howna hgra)))
    have hN : wa.ownsRow (w.heap.size + 1) 9 1 va N.length (N.map Value.string) := by rw [HNN.out]; simpa using own2
    obtain ⟨na, nc, hne, hnm, HCN⟩ := RdS.open (own_rd hN)
    subst hne
    have hw2 := bn2.size
    simp only [World.size_alloc] at hw2
    clear own1 own2 hN bn1 B1 B2 q1 q1' q2 q2' k1 k2 c1 f1 b1
    go_wp2_with fail
    go_loopw [6, 7] (fun o i wr => ∃ k : Nat, k ≤ N.length ∧ i = .int .i64 k ∧ New wa wr ∧ wr.ownsRow wa.heap.size 9 1 o ((N.take k).filter (unB p)).length (((N.take k).filter (unB p)).map Value.string)) (fun _ i _ => N.length - (intOf i).toNat)
    case atStart => exact ⟨0, Nat.zero_le _, rfl, (by repeat (first | with_reducible exact New.refl _ | with_reducible assumption | with_reducible refine New.drew ?_ | with_reducible refine New.drewN ?_ _ | with_reducible refine New.alloc ?_ _ | with_reducible refine New.setCell ?_ (by first | (simp; done) | (simp; omega) | omega) _ | with_reducible refine New.trans ?_ (by with_reducible assumption))), own_empty (Nat.le_refl _)⟩
    case round =>
      rename World => wr1
      obtain ⟨k, hk, rfl, hb, hown⟩ := hrel
      have hbz := hb.size
      have hb1 := bn2.trans hb
      have hb0 : New w wr1 := ((New.refl w).alloc _).trans hb1
      obtain ⟨cc, f'⟩ := hb1.rules
      have hww : w.heap.size < wr1.heap.size := by omega
      by_cases hlt : k < N.length
      · obtain ⟨b, off, rfl, hbl, hx⟩ := HCN.out wr1 hb k hlt
        have HX := Lib.hid (fun wr2 (n : New wr1 wr2) => show wr2.cell? ⟨b, off + k, none⟩ = some (.string N[k]) by obtain ⟨b', off', e, _, h⟩ := HCN.out wr2 (hb.trans n) k hlt; cases e; exact h)
        have hbw : b < wr1.heap.size := by omega
        have hfl := filter_len (unB p) N k
        have HY := Lib.hid (fun h => filter_yes (f := unB p) hlt h)
        have HN := Lib.hid (fun h => filter_no (f := unB p) hlt h)
        generalize N[k] = x at *
        go_wp2_with fail
        go_quiet (fail)
        go_wp2_with fail
        go_loopw [8, 9] (fun u i wr2 => ∃ (j : Nat) (ub : Bool), j ≤ ps.length ∧ i = .int .i64 j ∧ u = .bool ub ∧ Hid (ub = ((x.toList == p.guard.toList) || (p.lines.take j).any (useL x))) ∧ New wr1 wr2) (fun _ i _ => ps.length - (intOf i).toNat)
        case atStart => exact ⟨0, _, Nat.zero_le _, rfl, rfl, Lib.hid (by simp), (by repeat (first | with_reducible exact New.refl _ | with_reducible assumption | with_reducible refine New.drew ?_ | with_reducible refine New.drewN ?_ _ | with_reducible refine New.alloc ?_ _ | with_reducible refine New.setCell ?_ (by first | (simp; done) | (simp; omega) | omega) _ | with_reducible refine New.trans ?_ (by with_reducible assumption)))⟩
        case round =>
          rename World => wr2
          obtain ⟨j, ub, hj, rfl, rfl, hu, he2⟩ := hrel
          obtain ⟨c3, f3⟩ := he2.rules
          have hz3 := he2.size
          have hxx := HX.out wr2 he2
          have he0 : New w wr2 := hb0.trans he2
          have hww2 : w.heap.size < wr2.heap.size := by omega
          have hbw2 : b < wr2.heap.size := by omega
          by_cases hlj : j < ps.length
          · obtain ⟨b', off', rfl, hbl', hy⟩ := HC.out j hlj
            obtain ⟨ea, ec, hev, _⟩ := HT.out ps[j] (List.getElem_mem hlj)
            rw [show encLV ps[j] = [.string ps[j].1.target, ps[j].2] from rfl, hev] at hy
            have HTK := Lib.hid (HT.out ps[j] (List.getElem_mem hlj))
            rw [hev] at HTK
            have y1 := hy 1 _ (by omega) rfl
            replace hy := Lib.hid hy
            clear hev
            have hbw3 : b' < wr1.heap.size := by omega
            have hbw4 : b' < wr2.heap.size := by omega
            have hbw5 : b' < w.heap.size + 1 := by omega
            obtain ⟨hlp, hle⟩ := lines_get HPS.out j hlj
            have HU := Lib.hid (show (p.lines.take (j + 1)).any (useL x) = ((p.lines.take j).any (useL x) || useL x ps[j].1) by rw [List.take_succ_eq_append_getElem hlp, any_snoc, hle])
            clear hle
            cases ub with
            | true =>
              have HA := Lib.hid (show true = ((x.toList == p.guard.toList) || (p.lines.take (j + 1)).any (useL x)) by rw [HU.out, ← Bool.or_assoc, ← hu.out]; rfl)
              go_wp2_with fail
              have hq2 := fun (n : NewOf wr2) b o => NewOf.cell n b o
              refine wp_region_new (by kernel_rfl) (by kernel_rfl) ?_
              repeat (first | go_big_quiet_skip | go_big_quiet_step ((fail)) | quiet_step ((fail)))
              refine wpQuiet_nil ?_
              rintro ⟨w5, b5⟩
              dsimp only
              try replace b5 := New.undrawN b5
              try replace b5 := New.undraw b5
              obtain ⟨c5, f5⟩ := b5.rules
              have z5 := b5.size
              try simp only [World.size_alloc, World.size_drew, World.heap_drewN, World.size_setCell] at z5
              go_wp2_with fail
              go_roundw
              case rel => exact ⟨j + 1, _, by omega, by go_num, rfl, HA, he2.trans b5⟩
              case measure => simp [intOf]; omega
            | false =>
              have HA := Lib.hid (show ps[j].1.terms.any (useT x) = ((x.toList == p.guard.toList) || (p.lines.take (j + 1)).any (useL x)) by rw [HU.out, ← Bool.or_assoc, ← hu.out]; rfl)
              go_wp2_with fail
              have hq2 := fun (n : NewOf wr2) b o => NewOf.cell n b o
              refine wp_region_new (by kernel_rfl) (by kernel_rfl) ?_
              repeat (first | go_big_quiet_skip | go_big_quiet_step ((first | exact newq_eq (sUses_any ps[j].1.terms _ x _ (HTK.out.new (he0.trans (NewOf.property _)))))) | quiet_step ((first | exact newq_eq (sUses_any ps[j].1.terms _ x _ (HTK.out.new (he0.trans (NewOf.property _)))))))
              refine wpQuiet_nil ?_
              rintro ⟨w5, b5⟩
              dsimp only
              try replace b5 := New.undrawN b5
              try replace b5 := New.undraw b5
              obtain ⟨c5, f5⟩ := b5.rules
              have z5 := b5.size
              try simp only [World.size_alloc, World.size_drew, World.heap_drewN, World.size_setCell] at z5
              go_wp2_with fail
              go_roundw
              case rel => exact ⟨j + 1, _, by omega, by go_num, rfl, HA, he2.trans b5⟩
              case measure => simp [intOf]; omega
          · obtain rfl : j = ps.length := by omega
            have HUN := Lib.hid (show unB p x = !ub by rw [unB, hu.out, ← HPL.out, List.take_length, Bool.not_or])
            cases ub with
            | true =>
              have HNR := Lib.hid (HN.out (by rw [HUN.out]; rfl))
              go_wp2_with fail
              go_roundw
              case rel => exact ⟨k + 1, by omega, by go_num, hb.trans he2, by rw [HNR.out]; exact own_new hown he2⟩
              case measure => simp [intOf]; omega
            | false =>
              have HYR := Lib.hid (HY.out (by rw [HUN.out]; rfl))
              go_wp2_with (first | ((at_builtin; refine wpList_append_own _ rfl _ _ 22 rfl (wa.heap.size) 9 i0 (.string ⟨#[]⟩) 1 16 Tryd.underlying22 hi hz0 hz1 hz2 rfl (by decide) _ _ _ rfl ((own_new hown he2).alloc _) ⟨wr2.heap.size, 0, none⟩ 1 1 [.string (x)] rfl rfl (by intro j u hj; match j, hj with | 0, hj => simp at hj; subst hj; first | (simp [Addr.add]; done) | exact alloc_one rfl) (by intro u hu; simp at hu; subst hu; rfl) (by unfold maxLen; omega) (by omega) (by first | (simp; done) | (simp; omega) | omega) ?_; intro va wa howna hgra _)))
              have ba := New.grown ((hb.trans he2).alloc _) hgra (fun q hq => by have := (own_block_lt hown q hq).1; simpa using this)
              go_roundw
              case rel => exact ⟨k + 1, by omega, by go_num, ba, by rw [HYR.out, List.length_append, List.map_append]; exact howna⟩
              case measure => simp [intOf]; omega
      · obtain rfl : k = N.length := by omega
        go_wp2_with fail
        go_ret2
        refine ⟨_, rfl, hb0, own_base (base := wa.heap.size) ?_ (by omega)⟩
        rw [List.take_length] at hown; exact hown
  · have hC : (codeR p != 0) = true := by simp [hc]
    rw [show unR p = ([], codeR p) by rw [unR, if_neg hc]]
    clear hc
    go_enter Tryd.func48, Tryd.ntmps48
    go_wp2_with fail
    refine (sSoundCode_any p _ _ _ _ _ (HP.out.new (by repeat (first | with_reducible exact New.refl _ | with_reducible assumption | with_reducible refine New.drew ?_ | with_reducible refine New.drewN ?_ _ | with_reducible refine New.alloc ?_ _ | with_reducible refine New.setCell ?_ (by first | (simp; done) | (simp; omega) | omega) _ | with_reducible refine New.trans ?_ (by with_reducible assumption)))) HF.out).mono ?_; rintro e w1 ⟨rfl, b1⟩
    try replace b1 := New.undrawN b1
    try replace b1 := New.undraw b1
    obtain ⟨c1, f1⟩ := b1.rules
    have z1 := b1.size
    try simp only [World.size_alloc, World.size_drew, World.heap_drewN, World.size_setCell] at z1
    have z1_0 : w.heap.size < w1.heap.size := by omega
    go_wp2_with fail
    go_ret2
    exact ⟨_, rfl, (by repeat (first | with_reducible exact New.refl _ | with_reducible assumption | with_reducible refine New.drew ?_ | with_reducible refine New.drewN ?_ _ | with_reducible refine New.alloc ?_ _ | with_reducible refine New.setCell ?_ (by first | (simp; done) | (simp; omega) | omega) _ | with_reducible refine New.trans ?_ (by with_reducible assumption))), World.ownsRow_nil _ _ _ _⟩
end Go.Proofs.YtjdkmjdobaeaoaaDoor
