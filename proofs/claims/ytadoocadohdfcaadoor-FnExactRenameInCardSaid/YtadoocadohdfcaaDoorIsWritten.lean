/- Contracts: is a program written: the two functions. -/
import Derived.Test.YtadoocadohdfcaaDoorProg
import Derived.Test.YtadoocadohdfcaaDoorWritten
namespace Go.Proofs.YtadoocadohdfcaaDoor
open Go Go.Proofs Go.RowKit
set_option linter.unusedVariables false
set_option linter.unusedSimpArgs false
set_option maxRecDepth 100000
theorem buildRd {w w' : World} {b : Nat} {vs : List Value} {n : Nat} (h : w'.heap.size > b) (hn : vs.length = n) (hm : n ≤ 1000) (hc : ∀ j (hj : j < vs.length), w'.cell? ⟨b, j, none⟩ = some vs[j]) : Rd w' (.slice (some ⟨b, 0, none⟩) n n) vs.length vs := by
  subst hn
  refine ⟨_, _, rfl, by omega, ⟨(fun h => by cases h), Nat.le_refl _⟩, fun j u hu => ⟨b, 0, rfl, h, ?_⟩⟩
  obtain ⟨hj, rfl⟩ := List.getElem?_eq_some_iff.1 hu
  rw [Nat.zero_add]; exact hc j hj
set_option maxHeartbeats 4000000 in
theorem sIsWritten_any (p : ProgD) (iv vv ov lv : Value) (w : World) (hp : RdP w p iv vv ov lv) (hf : FitP p) : Calls Tryd.prog 60 #[valP p iv vv ov lv] w fun e w' => e = .returned (.bool (wB p)) ∧ New w w' := by
  obtain ⟨hi, hv, ho, hl⟩ := hp
  obtain ⟨ia, ic, rfl, _⟩ := id hi
  obtain ⟨va, vc, rfl, _⟩ := id hv
  obtain ⟨oa, oc, rfl, _⟩ := id ho
  have HI := Lib.hid hi; have HV := Lib.hid hv; have HO := Lib.hid ho
  clear hi hv ho
  obtain ⟨ps, hps, hl1, hl2⟩ := hl
  obtain ⟨la, lc, rfl, hm, HC⟩ := Rd.flat encLV_len (by omega) hl1
  have HT := Lib.hid hl2; clear hl1 hl2
  have hpl : p.lines.length = ps.length := by rw [← hps, List.length_map]
  have HPS := Lib.hid hps; clear hps
  have zz : w.heap.size < w.heap.size + 1 := by omega
  rcases Bool.eq_false_or_eq_true (isNameB p.name) with h1 | h1
  · skip
    rcases Bool.eq_false_or_eq_true (namesB p.inputs 1) with h2 | h2
    · skip
      rcases Bool.eq_false_or_eq_true (namesB p.vars 0) with h3 | h3
      · skip
        rcases Bool.eq_false_or_eq_true (namesB p.outputs 1) with h4 | h4
        · skip
          rcases Bool.eq_false_or_eq_true (p.guard.toList.isEmpty) with h5 | h5
          · skip
            go_enter Tryd.func60, Tryd.ntmps60
            go_wp2_with fail
            refine (sName_any _ _ hf.name).mono ?_; rintro e w1 ⟨rfl, b1⟩
            try with_reducible replace b1 := New.undrawN b1
            try with_reducible replace b1 := New.undraw b1
            obtain ⟨c1, f1⟩ := b1.rules
            have z1 := b1.size
            try simp only [World.size_alloc, World.size_drew, World.heap_drewN, World.size_setCell] at z1
            have z1_0 : w.heap.size < w1.heap.size := by omega
            go_wp2_with fail
            refine (sNames_any _ p.inputs 1 _ (Rd.new HI.out (by repeat (first | with_reducible exact New.refl _ | with_reducible assumption | with_reducible refine New.drew ?_ | with_reducible refine New.drewN ?_ _ | with_reducible refine New.alloc ?_ _ | with_reducible refine New.setCell ?_ (by first | (simp; done) | (simp; omega) | omega) _ | with_reducible refine New.trans ?_ (by with_reducible assumption)))) hf.ins).mono ?_; rintro e w2 ⟨rfl, b2⟩
            try with_reducible replace b2 := New.undrawN b2
            try with_reducible replace b2 := New.undraw b2
            obtain ⟨c2, f2⟩ := b2.rules
            have z2 := b2.size
            try simp only [World.size_alloc, World.size_drew, World.heap_drewN, World.size_setCell] at z2
            have z2_0 : w.heap.size < w2.heap.size := by omega
            go_wp2_with fail
            refine (sNames_any _ p.vars 0 _ (Rd.new HV.out (by repeat (first | with_reducible exact New.refl _ | with_reducible assumption | with_reducible refine New.drew ?_ | with_reducible refine New.drewN ?_ _ | with_reducible refine New.alloc ?_ _ | with_reducible refine New.setCell ?_ (by first | (simp; done) | (simp; omega) | omega) _ | with_reducible refine New.trans ?_ (by with_reducible assumption)))) hf.vars).mono ?_; rintro e w3 ⟨rfl, b3⟩
            try with_reducible replace b3 := New.undrawN b3
            try with_reducible replace b3 := New.undraw b3
            obtain ⟨c3, f3⟩ := b3.rules
            have z3 := b3.size
            try simp only [World.size_alloc, World.size_drew, World.heap_drewN, World.size_setCell] at z3
            have z3_0 : w.heap.size < w3.heap.size := by omega
            go_wp2_with fail
            refine (sNames_any _ p.outputs 1 _ (Rd.new HO.out (by repeat (first | with_reducible exact New.refl _ | with_reducible assumption | with_reducible refine New.drew ?_ | with_reducible refine New.drewN ?_ _ | with_reducible refine New.alloc ?_ _ | with_reducible refine New.setCell ?_ (by first | (simp; done) | (simp; omega) | omega) _ | with_reducible refine New.trans ?_ (by with_reducible assumption)))) hf.outs).mono ?_; rintro e w4 ⟨rfl, b4⟩
            try with_reducible replace b4 := New.undrawN b4
            try with_reducible replace b4 := New.undraw b4
            obtain ⟨c4, f4⟩ := b4.rules
            have z4 := b4.size
            try simp only [World.size_alloc, World.size_drew, World.heap_drewN, World.size_setCell] at z4
            have z4_0 : w.heap.size < w4.heap.size := by omega
            go_wp2_with fail
            have HH := Lib.hid (show headB p = true by rw [headB, guardB]; simp [h1, h2, h3, h4, h5])
            go_loopw [3] (fun i wr => ∃ k : Nat, k ≤ ps.length ∧ i = .int .i64 k ∧ Hid ((ps.take k).all (fun q => lineB q.1) = true) ∧ New w wr ∧ wr.cell? ⟨w.heap.size, 5, none⟩ = some (.slice la ps.length lc) ∧ w.heap.size < wr.heap.size) (fun i _ => ps.length - (intOf i).toNat)
            case atStart => exact ⟨0, Nat.zero_le _, rfl, Lib.hid rfl, (by repeat (first | with_reducible exact New.refl _ | with_reducible assumption | with_reducible refine New.drew ?_ | with_reducible refine New.drewN ?_ _ | with_reducible refine New.alloc ?_ _ | with_reducible refine New.setCell ?_ (by first | (simp; done) | (simp; omega) | omega) _ | with_reducible refine New.trans ?_ (by with_reducible assumption))), by simp [c4, c3, c2, c1, z4_0, z3_0, z2_0, z1_0], by omega⟩
            case round =>
              obtain ⟨k, hk, rfl, hpre, hb, x5, hbs⟩ := hrel
              clear c4 c3 c2 c1 f4 f3 f2 f1
              obtain ⟨cc, f'⟩ := hb.rules
              by_cases hlt : k < ps.length
              · obtain ⟨b, off, rfl, hbl, hx⟩ := HC.out k hlt
                have x0 := hx 0 _ (by omega) rfl
                have x1 := hx 1 _ (by omega) rfl
                rw [Nat.add_zero] at x0
                replace hx := Lib.hid hx
                have hbw : b < wr.heap.size := by have := hb.size; omega
                have HY := Lib.hid (HT.out ps[k] (List.getElem_mem hlt))
                have HF := Lib.hid (hf.lines ps[k].1 (by rw [← HPS.out]; exact List.mem_map_of_mem (List.getElem_mem hlt)))
                have HA := Lib.hid (show (ps.take (k + 1)).all (fun q => lineB q.1) = ((ps.take k).all (fun q => lineB q.1) && lineB ps[k].1) by rw [List.take_succ_eq_append_getElem hlt, List.all_append]; simp)
                have HN := Lib.hid (fun (h : lineB ps[k].1 = false) => show p.lines.all lineB = false by rw [List.all_eq_false, ← HPS.out]; exact ⟨ps[k].1, List.mem_map_of_mem (List.getElem_mem hlt), by simp [h]⟩)
                rcases Bool.eq_false_or_eq_true (isNameB ps[k].1.target) with g1 | g1
                · rcases Bool.eq_false_or_eq_true (okH ps[k].1.terms) with g2 | g2
                  · go_wp2_with fail
                    refine (sName_any _ _ HF.out.1).mono ?_; rintro e w7 ⟨rfl, b7⟩
                    try with_reducible replace b7 := New.undrawN b7
                    try with_reducible replace b7 := New.undraw b7
                    obtain ⟨c7, f7⟩ := b7.rules
                    have z7 := b7.size
                    try simp only [World.size_alloc, World.size_drew, World.heap_drewN, World.size_setCell] at z7
                    have z7_0 : b < w7.heap.size := by omega
                    have z7_1 : w.heap.size < w7.heap.size := by omega
                    go_wp2_with fail
                    refine (sIsExpression_any _ _ _ (HY.out.new (show New w _ by exact hb.trans b7)) HF.out.2.1 HF.out.2.2).mono ?_; rintro e w8 ⟨rfl, b8⟩
                    try with_reducible replace b8 := New.undrawN b8
                    try with_reducible replace b8 := New.undraw b8
                    obtain ⟨c8, f8⟩ := b8.rules
                    have z8 := b8.size
                    try simp only [World.size_alloc, World.size_drew, World.heap_drewN, World.size_setCell] at z8
                    have z8_0 : b < w8.heap.size := by omega
                    have z8_1 : w.heap.size < w8.heap.size := by omega
                    go_wp2_with fail
                    go_roundw
                    case rel => exact ⟨k + 1, by omega, by go_num, Lib.hid (by rw [HA.out, hpre.out, lineB, g1, g2]; rfl), hb.trans (b7.trans b8), by simp [c8, c7, z7_1, z8_1, hbs, x5], by omega⟩
                    case measure => simp [intOf]; omega
                  · go_wp2_with fail
                    refine (sName_any _ _ HF.out.1).mono ?_; rintro e w7 ⟨rfl, b7⟩
                    try with_reducible replace b7 := New.undrawN b7
                    try with_reducible replace b7 := New.undraw b7
                    obtain ⟨c7, f7⟩ := b7.rules
                    have z7 := b7.size
                    try simp only [World.size_alloc, World.size_drew, World.heap_drewN, World.size_setCell] at z7
                    have z7_0 : b < w7.heap.size := by omega
                    have z7_1 : w.heap.size < w7.heap.size := by omega
                    go_wp2_with fail
                    refine (sIsExpression_any _ _ _ (HY.out.new (show New w _ by exact hb.trans b7)) HF.out.2.1 HF.out.2.2).mono ?_; rintro e w8 ⟨rfl, b8⟩
                    try with_reducible replace b8 := New.undrawN b8
                    try with_reducible replace b8 := New.undraw b8
                    obtain ⟨c8, f8⟩ := b8.rules
                    have z8 := b8.size
                    try simp only [World.size_alloc, World.size_drew, World.heap_drewN, World.size_setCell] at z8
                    have z8_0 : b < w8.heap.size := by omega
                    have z8_1 : w.heap.size < w8.heap.size := by omega
                    go_wp2_with fail
                    go_ret
                    refine ⟨ret_bool ?_, (by repeat (first | with_reducible exact New.refl _ | with_reducible assumption | with_reducible refine New.drew ?_ | with_reducible refine New.drewN ?_ _ | with_reducible refine New.alloc ?_ _ | with_reducible refine New.setCell ?_ (by first | (simp; done) | (simp; omega) | omega) _ | with_reducible refine New.trans ?_ (by with_reducible assumption)))⟩
                    rw [wB, HN.out (by rw [lineB, g2]; simp)]; simp
                · go_wp2_with fail
                  refine (sName_any _ _ HF.out.1).mono ?_; rintro e w7 ⟨rfl, b7⟩
                  try with_reducible replace b7 := New.undrawN b7
                  try with_reducible replace b7 := New.undraw b7
                  obtain ⟨c7, f7⟩ := b7.rules
                  have z7 := b7.size
                  try simp only [World.size_alloc, World.size_drew, World.heap_drewN, World.size_setCell] at z7
                  have z7_0 : b < w7.heap.size := by omega
                  have z7_1 : w.heap.size < w7.heap.size := by omega
                  go_wp2_with fail
                  go_ret
                  refine ⟨ret_bool ?_, (by repeat (first | with_reducible exact New.refl _ | with_reducible assumption | with_reducible refine New.drew ?_ | with_reducible refine New.drewN ?_ _ | with_reducible refine New.alloc ?_ _ | with_reducible refine New.setCell ?_ (by first | (simp; done) | (simp; omega) | omega) _ | with_reducible refine New.trans ?_ (by with_reducible assumption)))⟩
                  rw [wB, HN.out (by rw [lineB, g1]; simp)]; simp
              · obtain rfl : k = ps.length := by omega
                have HA := Lib.hid (show p.lines.all lineB = true by have := hpre.out; rw [List.take_length] at this; rw [← HPS.out, List.all_map]; exact this)
                go_wp2_with (first | (go_at_call 96; refine (l01In_any _ _ _ _).mono ?_; rintro e _ ⟨rfl, rfl⟩))
                go_ret
                refine ⟨ret_bool ?_, (by repeat (first | with_reducible exact New.refl _ | with_reducible assumption | with_reducible refine New.drew ?_ | with_reducible refine New.drewN ?_ _ | with_reducible refine New.alloc ?_ _ | with_reducible refine New.setCell ?_ (by first | (simp; done) | (simp; omega) | omega) _ | with_reducible refine New.trans ?_ (by with_reducible assumption)))⟩
                rw [wB, HH.out, HA.out, hpl]; simp
          · rcases Bool.eq_false_or_eq_true (isNameB p.guard) with h6 | h6
            · skip
              go_enter Tryd.func60, Tryd.ntmps60
              go_wp2_with fail
              refine (sName_any _ _ hf.name).mono ?_; rintro e w1 ⟨rfl, b1⟩
              try with_reducible replace b1 := New.undrawN b1
              try with_reducible replace b1 := New.undraw b1
              obtain ⟨c1, f1⟩ := b1.rules
              have z1 := b1.size
              try simp only [World.size_alloc, World.size_drew, World.heap_drewN, World.size_setCell] at z1
              have z1_0 : w.heap.size < w1.heap.size := by omega
              go_wp2_with fail
              refine (sNames_any _ p.inputs 1 _ (Rd.new HI.out (by repeat (first | with_reducible exact New.refl _ | with_reducible assumption | with_reducible refine New.drew ?_ | with_reducible refine New.drewN ?_ _ | with_reducible refine New.alloc ?_ _ | with_reducible refine New.setCell ?_ (by first | (simp; done) | (simp; omega) | omega) _ | with_reducible refine New.trans ?_ (by with_reducible assumption)))) hf.ins).mono ?_; rintro e w2 ⟨rfl, b2⟩
              try with_reducible replace b2 := New.undrawN b2
              try with_reducible replace b2 := New.undraw b2
              obtain ⟨c2, f2⟩ := b2.rules
              have z2 := b2.size
              try simp only [World.size_alloc, World.size_drew, World.heap_drewN, World.size_setCell] at z2
              have z2_0 : w.heap.size < w2.heap.size := by omega
              go_wp2_with fail
              refine (sNames_any _ p.vars 0 _ (Rd.new HV.out (by repeat (first | with_reducible exact New.refl _ | with_reducible assumption | with_reducible refine New.drew ?_ | with_reducible refine New.drewN ?_ _ | with_reducible refine New.alloc ?_ _ | with_reducible refine New.setCell ?_ (by first | (simp; done) | (simp; omega) | omega) _ | with_reducible refine New.trans ?_ (by with_reducible assumption)))) hf.vars).mono ?_; rintro e w3 ⟨rfl, b3⟩
              try with_reducible replace b3 := New.undrawN b3
              try with_reducible replace b3 := New.undraw b3
              obtain ⟨c3, f3⟩ := b3.rules
              have z3 := b3.size
              try simp only [World.size_alloc, World.size_drew, World.heap_drewN, World.size_setCell] at z3
              have z3_0 : w.heap.size < w3.heap.size := by omega
              go_wp2_with fail
              refine (sNames_any _ p.outputs 1 _ (Rd.new HO.out (by repeat (first | with_reducible exact New.refl _ | with_reducible assumption | with_reducible refine New.drew ?_ | with_reducible refine New.drewN ?_ _ | with_reducible refine New.alloc ?_ _ | with_reducible refine New.setCell ?_ (by first | (simp; done) | (simp; omega) | omega) _ | with_reducible refine New.trans ?_ (by with_reducible assumption)))) hf.outs).mono ?_; rintro e w4 ⟨rfl, b4⟩
              try with_reducible replace b4 := New.undrawN b4
              try with_reducible replace b4 := New.undraw b4
              obtain ⟨c4, f4⟩ := b4.rules
              have z4 := b4.size
              try simp only [World.size_alloc, World.size_drew, World.heap_drewN, World.size_setCell] at z4
              have z4_0 : w.heap.size < w4.heap.size := by omega
              go_wp2_with fail
              refine (sName_any _ _ hf.guard).mono ?_; rintro e w5 ⟨rfl, b5⟩
              try with_reducible replace b5 := New.undrawN b5
              try with_reducible replace b5 := New.undraw b5
              obtain ⟨c5, f5⟩ := b5.rules
              have z5 := b5.size
              try simp only [World.size_alloc, World.size_drew, World.heap_drewN, World.size_setCell] at z5
              have z5_0 : w.heap.size < w5.heap.size := by omega
              go_wp2_with fail
              have HH := Lib.hid (show headB p = true by rw [headB, guardB]; simp [h1, h2, h3, h4, h5, h6])
              go_loopw [3] (fun i wr => ∃ k : Nat, k ≤ ps.length ∧ i = .int .i64 k ∧ Hid ((ps.take k).all (fun q => lineB q.1) = true) ∧ New w wr ∧ wr.cell? ⟨w.heap.size, 5, none⟩ = some (.slice la ps.length lc) ∧ w.heap.size < wr.heap.size) (fun i _ => ps.length - (intOf i).toNat)
              case atStart => exact ⟨0, Nat.zero_le _, rfl, Lib.hid rfl, (by repeat (first | with_reducible exact New.refl _ | with_reducible assumption | with_reducible refine New.drew ?_ | with_reducible refine New.drewN ?_ _ | with_reducible refine New.alloc ?_ _ | with_reducible refine New.setCell ?_ (by first | (simp; done) | (simp; omega) | omega) _ | with_reducible refine New.trans ?_ (by with_reducible assumption))), by simp [c5, c4, c3, c2, c1, z5_0, z4_0, z3_0, z2_0, z1_0], by omega⟩
              case round =>
                obtain ⟨k, hk, rfl, hpre, hb, x5, hbs⟩ := hrel
                clear c5 c4 c3 c2 c1 f5 f4 f3 f2 f1
                obtain ⟨cc, f'⟩ := hb.rules
                by_cases hlt : k < ps.length
                · obtain ⟨b, off, rfl, hbl, hx⟩ := HC.out k hlt
                  have x0 := hx 0 _ (by omega) rfl
                  have x1 := hx 1 _ (by omega) rfl
                  rw [Nat.add_zero] at x0
                  replace hx := Lib.hid hx
                  have hbw : b < wr.heap.size := by have := hb.size; omega
                  have HY := Lib.hid (HT.out ps[k] (List.getElem_mem hlt))
                  have HF := Lib.hid (hf.lines ps[k].1 (by rw [← HPS.out]; exact List.mem_map_of_mem (List.getElem_mem hlt)))
                  have HA := Lib.hid (show (ps.take (k + 1)).all (fun q => lineB q.1) = ((ps.take k).all (fun q => lineB q.1) && lineB ps[k].1) by rw [List.take_succ_eq_append_getElem hlt, List.all_append]; simp)
                  have HN := Lib.hid (fun (h : lineB ps[k].1 = false) => show p.lines.all lineB = false by rw [List.all_eq_false, ← HPS.out]; exact ⟨ps[k].1, List.mem_map_of_mem (List.getElem_mem hlt), by simp [h]⟩)
                  rcases Bool.eq_false_or_eq_true (isNameB ps[k].1.target) with g1 | g1
                  · rcases Bool.eq_false_or_eq_true (okH ps[k].1.terms) with g2 | g2
                    · go_wp2_with fail
                      refine (sName_any _ _ HF.out.1).mono ?_; rintro e w7 ⟨rfl, b7⟩
                      try with_reducible replace b7 := New.undrawN b7
                      try with_reducible replace b7 := New.undraw b7
                      obtain ⟨c7, f7⟩ := b7.rules
                      have z7 := b7.size
                      try simp only [World.size_alloc, World.size_drew, World.heap_drewN, World.size_setCell] at z7
                      have z7_0 : b < w7.heap.size := by omega
                      have z7_1 : w.heap.size < w7.heap.size := by omega
                      go_wp2_with fail
                      refine (sIsExpression_any _ _ _ (HY.out.new (show New w _ by exact hb.trans b7)) HF.out.2.1 HF.out.2.2).mono ?_; rintro e w8 ⟨rfl, b8⟩
                      try with_reducible replace b8 := New.undrawN b8
                      try with_reducible replace b8 := New.undraw b8
                      obtain ⟨c8, f8⟩ := b8.rules
                      have z8 := b8.size
                      try simp only [World.size_alloc, World.size_drew, World.heap_drewN, World.size_setCell] at z8
                      have z8_0 : b < w8.heap.size := by omega
                      have z8_1 : w.heap.size < w8.heap.size := by omega
                      go_wp2_with fail
                      go_roundw
                      case rel => exact ⟨k + 1, by omega, by go_num, Lib.hid (by rw [HA.out, hpre.out, lineB, g1, g2]; rfl), hb.trans (b7.trans b8), by simp [c8, c7, z7_1, z8_1, hbs, x5], by omega⟩
                      case measure => simp [intOf]; omega
                    · go_wp2_with fail
                      refine (sName_any _ _ HF.out.1).mono ?_; rintro e w7 ⟨rfl, b7⟩
                      try with_reducible replace b7 := New.undrawN b7
                      try with_reducible replace b7 := New.undraw b7
                      obtain ⟨c7, f7⟩ := b7.rules
                      have z7 := b7.size
                      try simp only [World.size_alloc, World.size_drew, World.heap_drewN, World.size_setCell] at z7
                      have z7_0 : b < w7.heap.size := by omega
                      have z7_1 : w.heap.size < w7.heap.size := by omega
                      go_wp2_with fail
                      refine (sIsExpression_any _ _ _ (HY.out.new (show New w _ by exact hb.trans b7)) HF.out.2.1 HF.out.2.2).mono ?_; rintro e w8 ⟨rfl, b8⟩
                      try with_reducible replace b8 := New.undrawN b8
                      try with_reducible replace b8 := New.undraw b8
                      obtain ⟨c8, f8⟩ := b8.rules
                      have z8 := b8.size
                      try simp only [World.size_alloc, World.size_drew, World.heap_drewN, World.size_setCell] at z8
                      have z8_0 : b < w8.heap.size := by omega
                      have z8_1 : w.heap.size < w8.heap.size := by omega
                      go_wp2_with fail
                      go_ret
                      refine ⟨ret_bool ?_, (by repeat (first | with_reducible exact New.refl _ | with_reducible assumption | with_reducible refine New.drew ?_ | with_reducible refine New.drewN ?_ _ | with_reducible refine New.alloc ?_ _ | with_reducible refine New.setCell ?_ (by first | (simp; done) | (simp; omega) | omega) _ | with_reducible refine New.trans ?_ (by with_reducible assumption)))⟩
                      rw [wB, HN.out (by rw [lineB, g2]; simp)]; simp
                  · go_wp2_with fail
                    refine (sName_any _ _ HF.out.1).mono ?_; rintro e w7 ⟨rfl, b7⟩
                    try with_reducible replace b7 := New.undrawN b7
                    try with_reducible replace b7 := New.undraw b7
                    obtain ⟨c7, f7⟩ := b7.rules
                    have z7 := b7.size
                    try simp only [World.size_alloc, World.size_drew, World.heap_drewN, World.size_setCell] at z7
                    have z7_0 : b < w7.heap.size := by omega
                    have z7_1 : w.heap.size < w7.heap.size := by omega
                    go_wp2_with fail
                    go_ret
                    refine ⟨ret_bool ?_, (by repeat (first | with_reducible exact New.refl _ | with_reducible assumption | with_reducible refine New.drew ?_ | with_reducible refine New.drewN ?_ _ | with_reducible refine New.alloc ?_ _ | with_reducible refine New.setCell ?_ (by first | (simp; done) | (simp; omega) | omega) _ | with_reducible refine New.trans ?_ (by with_reducible assumption)))⟩
                    rw [wB, HN.out (by rw [lineB, g1]; simp)]; simp
                · obtain rfl : k = ps.length := by omega
                  have HA := Lib.hid (show p.lines.all lineB = true by have := hpre.out; rw [List.take_length] at this; rw [← HPS.out, List.all_map]; exact this)
                  go_wp2_with (first | (go_at_call 96; refine (l01In_any _ _ _ _).mono ?_; rintro e _ ⟨rfl, rfl⟩))
                  go_ret
                  refine ⟨ret_bool ?_, (by repeat (first | with_reducible exact New.refl _ | with_reducible assumption | with_reducible refine New.drew ?_ | with_reducible refine New.drewN ?_ _ | with_reducible refine New.alloc ?_ _ | with_reducible refine New.setCell ?_ (by first | (simp; done) | (simp; omega) | omega) _ | with_reducible refine New.trans ?_ (by with_reducible assumption)))⟩
                  rw [wB, HH.out, HA.out, hpl]; simp
            · skip
              go_enter Tryd.func60, Tryd.ntmps60
              go_wp2_with fail
              refine (sName_any _ _ hf.name).mono ?_; rintro e w1 ⟨rfl, b1⟩
              try with_reducible replace b1 := New.undrawN b1
              try with_reducible replace b1 := New.undraw b1
              obtain ⟨c1, f1⟩ := b1.rules
              have z1 := b1.size
              try simp only [World.size_alloc, World.size_drew, World.heap_drewN, World.size_setCell] at z1
              have z1_0 : w.heap.size < w1.heap.size := by omega
              go_wp2_with fail
              refine (sNames_any _ p.inputs 1 _ (Rd.new HI.out (by repeat (first | with_reducible exact New.refl _ | with_reducible assumption | with_reducible refine New.drew ?_ | with_reducible refine New.drewN ?_ _ | with_reducible refine New.alloc ?_ _ | with_reducible refine New.setCell ?_ (by first | (simp; done) | (simp; omega) | omega) _ | with_reducible refine New.trans ?_ (by with_reducible assumption)))) hf.ins).mono ?_; rintro e w2 ⟨rfl, b2⟩
              try with_reducible replace b2 := New.undrawN b2
              try with_reducible replace b2 := New.undraw b2
              obtain ⟨c2, f2⟩ := b2.rules
              have z2 := b2.size
              try simp only [World.size_alloc, World.size_drew, World.heap_drewN, World.size_setCell] at z2
              have z2_0 : w.heap.size < w2.heap.size := by omega
              go_wp2_with fail
              refine (sNames_any _ p.vars 0 _ (Rd.new HV.out (by repeat (first | with_reducible exact New.refl _ | with_reducible assumption | with_reducible refine New.drew ?_ | with_reducible refine New.drewN ?_ _ | with_reducible refine New.alloc ?_ _ | with_reducible refine New.setCell ?_ (by first | (simp; done) | (simp; omega) | omega) _ | with_reducible refine New.trans ?_ (by with_reducible assumption)))) hf.vars).mono ?_; rintro e w3 ⟨rfl, b3⟩
              try with_reducible replace b3 := New.undrawN b3
              try with_reducible replace b3 := New.undraw b3
              obtain ⟨c3, f3⟩ := b3.rules
              have z3 := b3.size
              try simp only [World.size_alloc, World.size_drew, World.heap_drewN, World.size_setCell] at z3
              have z3_0 : w.heap.size < w3.heap.size := by omega
              go_wp2_with fail
              refine (sNames_any _ p.outputs 1 _ (Rd.new HO.out (by repeat (first | with_reducible exact New.refl _ | with_reducible assumption | with_reducible refine New.drew ?_ | with_reducible refine New.drewN ?_ _ | with_reducible refine New.alloc ?_ _ | with_reducible refine New.setCell ?_ (by first | (simp; done) | (simp; omega) | omega) _ | with_reducible refine New.trans ?_ (by with_reducible assumption)))) hf.outs).mono ?_; rintro e w4 ⟨rfl, b4⟩
              try with_reducible replace b4 := New.undrawN b4
              try with_reducible replace b4 := New.undraw b4
              obtain ⟨c4, f4⟩ := b4.rules
              have z4 := b4.size
              try simp only [World.size_alloc, World.size_drew, World.heap_drewN, World.size_setCell] at z4
              have z4_0 : w.heap.size < w4.heap.size := by omega
              go_wp2_with fail
              refine (sName_any _ _ hf.guard).mono ?_; rintro e w5 ⟨rfl, b5⟩
              try with_reducible replace b5 := New.undrawN b5
              try with_reducible replace b5 := New.undraw b5
              obtain ⟨c5, f5⟩ := b5.rules
              have z5 := b5.size
              try simp only [World.size_alloc, World.size_drew, World.heap_drewN, World.size_setCell] at z5
              have z5_0 : w.heap.size < w5.heap.size := by omega
              go_wp2_with fail
              go_ret
              refine ⟨ret_bool ?_, (by repeat (first | with_reducible exact New.refl _ | with_reducible assumption | with_reducible refine New.drew ?_ | with_reducible refine New.drewN ?_ _ | with_reducible refine New.alloc ?_ _ | with_reducible refine New.setCell ?_ (by first | (simp; done) | (simp; omega) | omega) _ | with_reducible refine New.trans ?_ (by with_reducible assumption)))⟩
              rw [wB, headB, guardB]; simp [h1, h2, h3, h4, h5, h6]
        · skip
          go_enter Tryd.func60, Tryd.ntmps60
          go_wp2_with fail
          refine (sName_any _ _ hf.name).mono ?_; rintro e w1 ⟨rfl, b1⟩
          try with_reducible replace b1 := New.undrawN b1
          try with_reducible replace b1 := New.undraw b1
          obtain ⟨c1, f1⟩ := b1.rules
          have z1 := b1.size
          try simp only [World.size_alloc, World.size_drew, World.heap_drewN, World.size_setCell] at z1
          have z1_0 : w.heap.size < w1.heap.size := by omega
          go_wp2_with fail
          refine (sNames_any _ p.inputs 1 _ (Rd.new HI.out (by repeat (first | with_reducible exact New.refl _ | with_reducible assumption | with_reducible refine New.drew ?_ | with_reducible refine New.drewN ?_ _ | with_reducible refine New.alloc ?_ _ | with_reducible refine New.setCell ?_ (by first | (simp; done) | (simp; omega) | omega) _ | with_reducible refine New.trans ?_ (by with_reducible assumption)))) hf.ins).mono ?_; rintro e w2 ⟨rfl, b2⟩
          try with_reducible replace b2 := New.undrawN b2
          try with_reducible replace b2 := New.undraw b2
          obtain ⟨c2, f2⟩ := b2.rules
          have z2 := b2.size
          try simp only [World.size_alloc, World.size_drew, World.heap_drewN, World.size_setCell] at z2
          have z2_0 : w.heap.size < w2.heap.size := by omega
          go_wp2_with fail
          refine (sNames_any _ p.vars 0 _ (Rd.new HV.out (by repeat (first | with_reducible exact New.refl _ | with_reducible assumption | with_reducible refine New.drew ?_ | with_reducible refine New.drewN ?_ _ | with_reducible refine New.alloc ?_ _ | with_reducible refine New.setCell ?_ (by first | (simp; done) | (simp; omega) | omega) _ | with_reducible refine New.trans ?_ (by with_reducible assumption)))) hf.vars).mono ?_; rintro e w3 ⟨rfl, b3⟩
          try with_reducible replace b3 := New.undrawN b3
          try with_reducible replace b3 := New.undraw b3
          obtain ⟨c3, f3⟩ := b3.rules
          have z3 := b3.size
          try simp only [World.size_alloc, World.size_drew, World.heap_drewN, World.size_setCell] at z3
          have z3_0 : w.heap.size < w3.heap.size := by omega
          go_wp2_with fail
          refine (sNames_any _ p.outputs 1 _ (Rd.new HO.out (by repeat (first | with_reducible exact New.refl _ | with_reducible assumption | with_reducible refine New.drew ?_ | with_reducible refine New.drewN ?_ _ | with_reducible refine New.alloc ?_ _ | with_reducible refine New.setCell ?_ (by first | (simp; done) | (simp; omega) | omega) _ | with_reducible refine New.trans ?_ (by with_reducible assumption)))) hf.outs).mono ?_; rintro e w4 ⟨rfl, b4⟩
          try with_reducible replace b4 := New.undrawN b4
          try with_reducible replace b4 := New.undraw b4
          obtain ⟨c4, f4⟩ := b4.rules
          have z4 := b4.size
          try simp only [World.size_alloc, World.size_drew, World.heap_drewN, World.size_setCell] at z4
          have z4_0 : w.heap.size < w4.heap.size := by omega
          go_wp2_with fail
          go_ret
          refine ⟨ret_bool ?_, (by repeat (first | with_reducible exact New.refl _ | with_reducible assumption | with_reducible refine New.drew ?_ | with_reducible refine New.drewN ?_ _ | with_reducible refine New.alloc ?_ _ | with_reducible refine New.setCell ?_ (by first | (simp; done) | (simp; omega) | omega) _ | with_reducible refine New.trans ?_ (by with_reducible assumption)))⟩
          rw [wB, headB]; simp [h1, h2, h3, h4]
      · skip
        go_enter Tryd.func60, Tryd.ntmps60
        go_wp2_with fail
        refine (sName_any _ _ hf.name).mono ?_; rintro e w1 ⟨rfl, b1⟩
        try with_reducible replace b1 := New.undrawN b1
        try with_reducible replace b1 := New.undraw b1
        obtain ⟨c1, f1⟩ := b1.rules
        have z1 := b1.size
        try simp only [World.size_alloc, World.size_drew, World.heap_drewN, World.size_setCell] at z1
        have z1_0 : w.heap.size < w1.heap.size := by omega
        go_wp2_with fail
        refine (sNames_any _ p.inputs 1 _ (Rd.new HI.out (by repeat (first | with_reducible exact New.refl _ | with_reducible assumption | with_reducible refine New.drew ?_ | with_reducible refine New.drewN ?_ _ | with_reducible refine New.alloc ?_ _ | with_reducible refine New.setCell ?_ (by first | (simp; done) | (simp; omega) | omega) _ | with_reducible refine New.trans ?_ (by with_reducible assumption)))) hf.ins).mono ?_; rintro e w2 ⟨rfl, b2⟩
        try with_reducible replace b2 := New.undrawN b2
        try with_reducible replace b2 := New.undraw b2
        obtain ⟨c2, f2⟩ := b2.rules
        have z2 := b2.size
        try simp only [World.size_alloc, World.size_drew, World.heap_drewN, World.size_setCell] at z2
        have z2_0 : w.heap.size < w2.heap.size := by omega
        go_wp2_with fail
        refine (sNames_any _ p.vars 0 _ (Rd.new HV.out (by repeat (first | with_reducible exact New.refl _ | with_reducible assumption | with_reducible refine New.drew ?_ | with_reducible refine New.drewN ?_ _ | with_reducible refine New.alloc ?_ _ | with_reducible refine New.setCell ?_ (by first | (simp; done) | (simp; omega) | omega) _ | with_reducible refine New.trans ?_ (by with_reducible assumption)))) hf.vars).mono ?_; rintro e w3 ⟨rfl, b3⟩
        try with_reducible replace b3 := New.undrawN b3
        try with_reducible replace b3 := New.undraw b3
        obtain ⟨c3, f3⟩ := b3.rules
        have z3 := b3.size
        try simp only [World.size_alloc, World.size_drew, World.heap_drewN, World.size_setCell] at z3
        have z3_0 : w.heap.size < w3.heap.size := by omega
        go_wp2_with fail
        go_ret
        refine ⟨ret_bool ?_, (by repeat (first | with_reducible exact New.refl _ | with_reducible assumption | with_reducible refine New.drew ?_ | with_reducible refine New.drewN ?_ _ | with_reducible refine New.alloc ?_ _ | with_reducible refine New.setCell ?_ (by first | (simp; done) | (simp; omega) | omega) _ | with_reducible refine New.trans ?_ (by with_reducible assumption)))⟩
        rw [wB, headB]; simp [h1, h2, h3]
    · skip
      go_enter Tryd.func60, Tryd.ntmps60
      go_wp2_with fail
      refine (sName_any _ _ hf.name).mono ?_; rintro e w1 ⟨rfl, b1⟩
      try with_reducible replace b1 := New.undrawN b1
      try with_reducible replace b1 := New.undraw b1
      obtain ⟨c1, f1⟩ := b1.rules
      have z1 := b1.size
      try simp only [World.size_alloc, World.size_drew, World.heap_drewN, World.size_setCell] at z1
      have z1_0 : w.heap.size < w1.heap.size := by omega
      go_wp2_with fail
      refine (sNames_any _ p.inputs 1 _ (Rd.new HI.out (by repeat (first | with_reducible exact New.refl _ | with_reducible assumption | with_reducible refine New.drew ?_ | with_reducible refine New.drewN ?_ _ | with_reducible refine New.alloc ?_ _ | with_reducible refine New.setCell ?_ (by first | (simp; done) | (simp; omega) | omega) _ | with_reducible refine New.trans ?_ (by with_reducible assumption)))) hf.ins).mono ?_; rintro e w2 ⟨rfl, b2⟩
      try with_reducible replace b2 := New.undrawN b2
      try with_reducible replace b2 := New.undraw b2
      obtain ⟨c2, f2⟩ := b2.rules
      have z2 := b2.size
      try simp only [World.size_alloc, World.size_drew, World.heap_drewN, World.size_setCell] at z2
      have z2_0 : w.heap.size < w2.heap.size := by omega
      go_wp2_with fail
      go_ret
      refine ⟨ret_bool ?_, (by repeat (first | with_reducible exact New.refl _ | with_reducible assumption | with_reducible refine New.drew ?_ | with_reducible refine New.drewN ?_ _ | with_reducible refine New.alloc ?_ _ | with_reducible refine New.setCell ?_ (by first | (simp; done) | (simp; omega) | omega) _ | with_reducible refine New.trans ?_ (by with_reducible assumption)))⟩
      rw [wB, headB]; simp [h1, h2]
  · skip
    go_enter Tryd.func60, Tryd.ntmps60
    go_wp2_with fail
    refine (sName_any _ _ hf.name).mono ?_; rintro e w1 ⟨rfl, b1⟩
    try with_reducible replace b1 := New.undrawN b1
    try with_reducible replace b1 := New.undraw b1
    obtain ⟨c1, f1⟩ := b1.rules
    have z1 := b1.size
    try simp only [World.size_alloc, World.size_drew, World.heap_drewN, World.size_setCell] at z1
    have z1_0 : w.heap.size < w1.heap.size := by omega
    go_wp2_with fail
    go_ret
    refine ⟨ret_bool ?_, (by repeat (first | with_reducible exact New.refl _ | with_reducible assumption | with_reducible refine New.drew ?_ | with_reducible refine New.drewN ?_ _ | with_reducible refine New.alloc ?_ _ | with_reducible refine New.setCell ?_ (by first | (simp; done) | (simp; omega) | omega) _ | with_reducible refine New.trans ?_ (by with_reducible assumption)))⟩
    rw [wB, headB]; simp [h1]
end Go.Proofs.YtadoocadohdfcaaDoor
