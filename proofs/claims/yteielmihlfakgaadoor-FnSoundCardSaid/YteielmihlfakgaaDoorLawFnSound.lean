/- A sound program keeps all rules, and a remembered variable is one that is used before its line or in it, for every code. No condition but the row's own: the table of keywords holds what the program's text lays. -/
import Derived.Test.YteielmihlfakgaaDoorRows
import Derived.Test.YteielmihlfakgaaDoorCards
import Derived.Test.YteielmihlfakgaaDoorTie
import Derived.Test.YteielmihlfakgaaDoorShape
import Derived.Test.YteielmihlfakgaaDoorUA
import Derived.Test.YteielmihlfakgaaDoorKeys
import Derived.Test.YteielmihlfakgaaDoorDrL14
import Derived.Test.YteielmihlfakgaaDoorNamesU
import Derived.Test.YteielmihlfakgaaDoorLikeC
import Derived.Test.YteielmihlfakgaaDoorUG
namespace Go.Proofs.YteielmihlfakgaaDoor
open Go Go.Proofs Go.RowKit Go.ChangeShapes Go.WideShapes Go.ChangeAt
set_option linter.unusedVariables false
set_option linter.unusedSimpArgs false
set_option maxRecDepth 100000
theorem pf_facts (q : ProgD) : ((pfR q).2 = 0 ∧ soundB q = ((pfR q).1 == 0)) ∨ ((pfR q).2 = 1 ∧ soundB q = false) := by
  rcases Bool.eq_false_or_eq_true (wB q) with h | h
  · rw [pfR_1 h, soundB, h]
    exact .inl ⟨rfl, by rw [Bool.true_and, Bool.eq_iff_iff, decide_eq_true_eq, beq_iff_eq]⟩
  · rw [pfR_0 h, soundB, h]; exact .inr ⟨rfl, rfl⟩
/-- A variable of a sound program has a line. -/
theorem var_line {p : ProgD} (h : codeR p = 0) {s : ByteArray} (hs : s ∈ p.vars) : wB p = true ∧ ¬ lineIdx p s < 0 := by
  rcases Bool.eq_false_or_eq_true (wB p) with hw | hw
  · refine ⟨hw, ?_⟩
    have hf : faultS p = 0 := by
      by_cases h0 : faultS p = 0
      · exact h0
      · rw [codeR_5 hw h0] at h; cases h
    rcases Bool.eq_false_or_eq_true (twB (allP p)) with h1 | h1
    · rw [faultS_1 h1] at hf; cases hf
    rcases Bool.eq_false_or_eq_true (bad2 p) with h2 | h2
    · rw [faultS_2 h1 h2] at hf; cases hf
    rcases Bool.eq_false_or_eq_true ((targetsP p).any (out3 p)) with h3 | h3
    · rw [faultS_3 h1 h2 h3] at hf; cases hf
    rcases Bool.eq_false_or_eq_true (twB (targetsP p)) with h4 | h4
    · rw [faultS_4 h1 h2 h3 h4] at hf; cases hf
    by_cases h5 : (targetsP p).length < p.vars.length + p.outputs.length
    · rw [faultS_5 h1 h2 h3 h4 h5] at hf; cases hf
    rw [five p h1 h3 h4, List.any_eq_true] at h5
    have hm : memS (targetsP p) s = true := by
      cases hh : memS (targetsP p) s with
      | true => rfl
      | false => exact absurd ⟨s, by rw [madeP]; exact List.mem_append_left _ hs, by rw [hh]; rfl⟩ h5
    rw [memS_iff, targetsP] at hm
    obtain ⟨l, hl, e⟩ := List.mem_map.1 hm
    have ha : (p.lines.any fun l => l.target.toList == s.toList) = true := List.any_eq_true.2 ⟨l, hl, by rw [e]; simp⟩
    have := idx_any (fun l : LineD => l.target.toList == s.toList) p.lines
    rw [ha, decide_eq_true_eq] at this
    show ¬ lineIdx p s < 0
    rw [lineIdx]; omega
  · rw [codeR_0 hw] at h; cases h
/-- What is left of the remembered names, at a variable. -/
theorem rem_at {f : ByteArray → Bool} {N V : List ByteArray} {at' i : Nat} (h : N.drop at' = (V.drop i).filter f) (hi : i < V.length) :
    (f V[i] = true ∧ ∃ ha : at' < N.length, N[at'] = V[i] ∧ N.drop (at' + 1) = (V.drop (i + 1)).filter f) ∨
    (f V[i] = false ∧ (∀ ha : at' < N.length, (N[at'].toList == V[i].toList) = false) ∧ N.drop at' = (V.drop (i + 1)).filter f) := by
  rw [List.drop_eq_getElem_cons hi] at h
  rcases Bool.eq_false_or_eq_true (f V[i]) with hf | hf
  · refine .inl ⟨hf, ?_⟩
    rw [List.filter_cons_of_pos hf] at h
    have ha : at' < N.length := by
      rcases Nat.lt_or_ge at' N.length with h1 | h1
      · exact h1
      · rw [List.drop_eq_nil_of_le h1] at h; cases h
    rw [List.drop_eq_getElem_cons ha] at h
    exact ⟨ha, (List.cons.inj h).1, (List.cons.inj h).2⟩
  · refine .inr ⟨hf, ?_, ?_⟩
    · intro ha
      rw [List.filter_cons_of_neg (by rw [hf]; simp), List.drop_eq_getElem_cons ha] at h
      have hm : N[at'] ∈ (V.drop (i + 1)).filter f := by rw [← h]; exact List.mem_cons_self
      have := (List.mem_filter.1 hm).2
      rw [beq_eq_false_iff_ne]
      intro e
      rw [bytes_eq] at e
      rw [e, hf] at this; cases this
    · rw [List.filter_cons_of_neg (by rw [hf]; simp)] at h; exact h
theorem rem_facts (p : ProgD) : ((remR p).2 = 0 ∧ codeR p = 0 ∧ (remR p).1 = p.vars.filter (remB p)) ∨ (remR p).2 = 1 ∨ (remR p).2 = 5 := by
  by_cases h : codeR p = 0
  · rw [remR, if_pos h]; exact .inl ⟨rfl, h, rfl⟩
  · rw [remR, if_neg h]
    refine .inr ?_
    show codeR p = 1 ∨ codeR p = 5
    rw [codeR] at h ⊢
    split at h
    · rename_i h1
      rw [if_pos h1]
      split at h
      · exact absurd rfl h
      · rename_i h2; rw [if_neg h2]; exact .inr rfl
    · rename_i h1; rw [if_neg h1]; exact .inl rfl
set_option maxHeartbeats 4000000 in
theorem fnSound_any (v : Value) (bs : List Int) (w : World) (hv : Rd w v bs.length (bs.map (Value.int .u8))) (hb : ∀ c ∈ bs, 0 ≤ c ∧ c ≤ 255) (hk : KW w) :
    Calls Tryd.prog 4 #[v] w fun e w' => e = .returned (.bool true) ∧ New w w' := by
  have HV := Lib.hid hv
  have HB := Lib.hid hb
  have HK := Lib.hid hk
  clear hv hb hk
  by_cases hl : (4096 : Int) < (bs.length : Int)
  · go_enter Tryd.func4, Tryd.ntmps4
    go_wp2_with fail
    refine (big_any v bs.length _ _ HV.out).mono ?_; rintro e w1 ⟨rfl, rfl⟩
    go_wp2_with fail
    go_ret
    exact ⟨rfl, New.refl _⟩
  · have hl' : bs.length ≤ 4096 := by omega
    have HL := Lib.hid hl'; clear hl'
    go_enter Tryd.func4, Tryd.ntmps4
    go_wp2_with fail
    refine (big_any v bs.length _ _ HV.out).mono ?_; rintro e w1 ⟨rfl, rfl⟩
    go_wp2_with fail
    refine (DrawIsSound_any v bs _ HV.out HL.out HB.out).mono ?_; rintro e w1 ⟨p, iv, vv, ov, lv, rfl, b1, RP, hsm⟩
    obtain ⟨qa, qc, rfl, _⟩ := id RP.ins; obtain ⟨qv, qd, rfl, _⟩ := id RP.vars; obtain ⟨qo, qe, rfl, _⟩ := id RP.outs; obtain ⟨ql, qf, rfl⟩ := RP.lines.slice; replace RP := Lib.hid RP; have hfp := Lib.hid hsm.fit; clear hsm
    obtain ⟨c1, f1⟩ := b1.rules
    have z1 := b1.size
    try simp only [World.size_alloc, World.size_drew, World.heap_drewN, World.size_setCell] at z1
    go_wp2_with fail
    refine (DrawProgramFault_any v bs _ (HV.out.new (by repeat (first | with_reducible exact New.refl _ | with_reducible assumption | with_reducible refine New.drew ?_ | with_reducible refine New.drewN ?_ _ | with_reducible refine New.alloc ?_ _ | with_reducible refine New.setCell ?_ (by first | (simp; done) | (simp; omega) | omega) _ | with_reducible refine New.trans ?_ (by with_reducible assumption)))) HL.out HB.out).mono ?_; rintro e w2 ⟨q, iv2, vv2, ov2, lv2, rfl, b2, RQ, hsm2⟩
    obtain ⟨ra, rc, rfl, _⟩ := id RQ.ins; obtain ⟨rv, rd, rfl, _⟩ := id RQ.vars; obtain ⟨ro, re, rfl, _⟩ := id RQ.outs; obtain ⟨rl, rf, rfl⟩ := RQ.lines.slice; replace RQ := Lib.hid RQ; have hfq := Lib.hid hsm2.fit; clear hsm2
    obtain ⟨c2, f2⟩ := b2.rules
    have z2 := b2.size
    try simp only [World.size_alloc, World.size_drew, World.heap_drewN, World.size_setCell] at z2
    have z2_0 : w1.heap.size < w2.heap.size := by omega
    go_wp2_with fail
    have hPF := pf_facts q
    have HPI := Lib.hid (fun (w0 : World) (h : RdP w0 q (.slice ra q.inputs.length rc) (.slice rv q.vars.length rd) (.slice ro q.outputs.length re) (.slice rl q.lines.length rf)) (k : KW w0) => iProgramFault_any q _ _ _ _ w0 h hfq.out k)
    have HPS := Lib.hid (fun (w0 : World) (h : RdP w0 q (.slice ra q.inputs.length rc) (.slice rv q.vars.length rd) (.slice ro q.outputs.length re) (.slice rl q.lines.length rf)) => sProgramFault_any q _ _ _ _ w0 h hfq.out)
    obtain ⟨m, hm⟩ : ∃ m, m = (pfR q).1 := ⟨_, rfl⟩
    obtain ⟨c, hc⟩ : ∃ c, c = (pfR q).2 := ⟨_, rfl⟩
    rw [← hm, ← hc] at HPI HPS hPF
    clear hm hc
    replace hPF := Lib.hid hPF
    have hmm : (m != m) = false := by simp
    have hcc : (c != c) = false := by simp
    refine (HPI.out _ (RQ.out.new (by repeat (first | with_reducible exact New.refl _ | with_reducible assumption | with_reducible refine New.drew ?_ | with_reducible refine New.drewN ?_ _ | with_reducible refine New.alloc ?_ _ | with_reducible refine New.setCell ?_ (by first | (simp; done) | (simp; omega) | omega) _ | with_reducible refine New.trans ?_ (by with_reducible assumption)))) (HK.out.new (by repeat (first | with_reducible exact New.refl _ | with_reducible assumption | with_reducible refine New.drew ?_ | with_reducible refine New.drewN ?_ _ | with_reducible refine New.alloc ?_ _ | with_reducible refine New.setCell ?_ (by first | (simp; done) | (simp; omega) | omega) _ | with_reducible refine New.trans ?_ (by with_reducible assumption))))).mono ?_; rintro e w3 ⟨rfl, b3⟩
    try with_reducible replace b3 := New.undrawN b3
    try with_reducible replace b3 := New.undraw b3
    obtain ⟨c3, f3⟩ := b3.rules
    have z3 := b3.size
    try simp only [World.size_alloc, World.size_drew, World.heap_drewN, World.size_setCell] at z3
    have z3_0 : w1.heap.size < w3.heap.size := by omega
    have z3_1 : w2.heap.size < w3.heap.size := by omega
    go_wp2_with fail
    refine (HPS.out _ (RQ.out.new (by repeat (first | with_reducible exact New.refl _ | with_reducible assumption | with_reducible refine New.drew ?_ | with_reducible refine New.drewN ?_ _ | with_reducible refine New.alloc ?_ _ | with_reducible refine New.setCell ?_ (by first | (simp; done) | (simp; omega) | omega) _ | with_reducible refine New.trans ?_ (by with_reducible assumption))))).mono ?_; rintro e w4 ⟨rfl, b4⟩
    try with_reducible replace b4 := New.undrawN b4
    try with_reducible replace b4 := New.undraw b4
    obtain ⟨c4, f4⟩ := b4.rules
    have z4 := b4.size
    try simp only [World.size_alloc, World.size_drew, World.heap_drewN, World.size_setCell] at z4
    have z4_0 : w1.heap.size < w4.heap.size := by omega
    have z4_1 : w2.heap.size < w4.heap.size := by omega
    go_wp2_with fail
    have hRN := rem_facts p
    have HRI := Lib.hid (fun (w0 : World) (h : RdP w0 p (.slice qa p.inputs.length qc) (.slice qv p.vars.length qd) (.slice qo p.outputs.length qe) (.slice ql p.lines.length qf)) (k : KW w0) => iRememberedVars_any p _ _ _ _ w0 h hfp.out k)
    have HRS := Lib.hid (fun (w0 : World) (h : RdP w0 p (.slice qa p.inputs.length qc) (.slice qv p.vars.length qd) (.slice qo p.outputs.length qe) (.slice ql p.lines.length qf)) => sRememberedVars_any p _ _ _ _ w0 h hfp.out)
    have HSI := Lib.hid (fun (w0 : World) (h : RdP w0 p (.slice qa p.inputs.length qc) (.slice qv p.vars.length qd) (.slice qo p.outputs.length qe) (.slice ql p.lines.length qf)) (k : KW w0) => iIsSound_any p _ _ _ _ w0 h hfp.out k)
    have HSS := Lib.hid (fun (w0 : World) (h : RdP w0 p (.slice qa p.inputs.length qc) (.slice qv p.vars.length qd) (.slice qo p.outputs.length qe) (.slice ql p.lines.length qf)) => sIsSound_any p _ _ _ _ w0 h hfp.out)
    have HQS := Lib.hid (fun (w0 : World) (h : RdP w0 q (.slice ra q.inputs.length rc) (.slice rv q.vars.length rd) (.slice ro q.outputs.length re) (.slice rl q.lines.length rf)) (k : KW w0) => iIsSound_any q _ _ _ _ w0 h hfq.out k)
    generalize remR p = RR at hRN HRI HRS
    obtain ⟨N, d⟩ := RR
    generalize soundB p = sp at HSI HSS
    replace hRN := Lib.hid hRN
    have hdd : (d != d) = false := by simp
    refine (HRI.out _ (RP.out.new (by repeat (first | with_reducible exact New.refl _ | with_reducible assumption | with_reducible refine New.drew ?_ | with_reducible refine New.drewN ?_ _ | with_reducible refine New.alloc ?_ _ | with_reducible refine New.setCell ?_ (by first | (simp; done) | (simp; omega) | omega) _ | with_reducible refine New.trans ?_ (by with_reducible assumption)))) (HK.out.new (by repeat (first | with_reducible exact New.refl _ | with_reducible assumption | with_reducible refine New.drew ?_ | with_reducible refine New.drewN ?_ _ | with_reducible refine New.alloc ?_ _ | with_reducible refine New.setCell ?_ (by first | (simp; done) | (simp; omega) | omega) _ | with_reducible refine New.trans ?_ (by with_reducible assumption))))).mono ?_; rintro e w5 ⟨v5, rfl, b5, o5⟩
    obtain ⟨a5, k5, rfl⟩ := own_slice o5; replace o5 := Lib.hid o5
    obtain ⟨c5, f5⟩ := b5.rules
    have z5 := b5.size
    try simp only [World.size_alloc, World.size_drew, World.heap_drewN, World.size_setCell] at z5
    have z5_0 : w1.heap.size < w5.heap.size := by omega
    have z5_1 : w2.heap.size < w5.heap.size := by omega
    go_wp2_with fail
    refine (HRS.out _ (RP.out.new (by repeat (first | with_reducible exact New.refl _ | with_reducible assumption | with_reducible refine New.drew ?_ | with_reducible refine New.drewN ?_ _ | with_reducible refine New.alloc ?_ _ | with_reducible refine New.setCell ?_ (by first | (simp; done) | (simp; omega) | omega) _ | with_reducible refine New.trans ?_ (by with_reducible assumption))))).mono ?_; rintro e w6 ⟨v6, rfl, b6, o6⟩
    obtain ⟨a6, k6, rfl⟩ := own_slice o6; replace o6 := Lib.hid o6
    obtain ⟨c6, f6⟩ := b6.rules
    have z6 := b6.size
    try simp only [World.size_alloc, World.size_drew, World.heap_drewN, World.size_setCell] at z6
    have z6_0 : w1.heap.size < w6.heap.size := by omega
    have z6_1 : w2.heap.size < w6.heap.size := by omega
    go_wp2_with fail
    have R5 := Lib.hid (show RdS w6 (.slice a5 N.length k5) N from Rd.new (own_rd o5.out) (by repeat (first | with_reducible exact New.refl _ | with_reducible assumption | with_reducible refine New.drew ?_ | with_reducible refine New.drewN ?_ _ | with_reducible refine New.alloc ?_ _ | with_reducible refine New.setCell ?_ (by first | (simp; done) | (simp; omega) | omega) _ | with_reducible refine New.trans ?_ (by with_reducible assumption))))
    have R6 := Lib.hid (show RdS w6 (.slice a6 N.length k6) N from own_rd o6.out)
    have KP6 : Blk w6 w1.heap.size #[.string p.name, .slice qa p.inputs.length qc, .slice qv p.vars.length qd, .slice qo p.outputs.length qe, .string p.guard, .slice ql p.lines.length qf] 27 := (by repeat (first | with_reducible assumption | with_reducible exact Blk.alloc_at (by first | rfl | (simp; done) | (simp; omega)) | with_reducible apply Blk.alloc | with_reducible apply Blk.drew | with_reducible apply Blk.drewN | with_reducible apply Blk.set | ((with_reducible apply Blk.set_ne); rotate_left; (focus omega)) | ((with_reducible apply Blk.dr); rotate_left; (focus (with_reducible assumption)); (focus omega)) | ((with_reducible apply Blk.new); rotate_left; (focus (with_reducible assumption)))))
    have KQ6 : Blk w6 w2.heap.size #[.string q.name, .slice ra q.inputs.length rc, .slice rv q.vars.length rd, .slice ro q.outputs.length re, .string q.guard, .slice rl q.lines.length rf] 27 := (by repeat (first | with_reducible assumption | with_reducible exact Blk.alloc_at (by first | rfl | (simp; done) | (simp; omega)) | with_reducible apply Blk.alloc | with_reducible apply Blk.drew | with_reducible apply Blk.drewN | with_reducible apply Blk.set | ((with_reducible apply Blk.set_ne); rotate_left; (focus omega)) | ((with_reducible apply Blk.dr); rotate_left; (focus (with_reducible assumption)); (focus omega)) | ((with_reducible apply Blk.new); rotate_left; (focus (with_reducible assumption)))))
    have K6 := HK.out.new (show New w w6 by exact (by repeat (first | with_reducible exact New.refl _ | with_reducible assumption | with_reducible refine New.drew ?_ | with_reducible refine New.drewN ?_ _ | with_reducible refine New.alloc ?_ _ | with_reducible refine New.setCell ?_ (by first | (simp; done) | (simp; omega) | omega) _ | with_reducible refine New.trans ?_ (by with_reducible assumption))))
    have N26 : New w2 w6 := New.trans (New.alloc (New.refl w2) _) (New.trans b3 (New.trans b4 (New.trans b5 b6)))
    have N16 : New w1 w6 := New.trans (New.alloc (New.refl w1) _) (New.trans b2 N26)
    have Nw6 : New w w6 := New.trans b1 N16
    have hP6 := KP6.lt
    have hQ6 := KQ6.lt
    clear c1 c2 c3 c4 c5 c6 f1 f2 f3 f4 f5 f6 b1 b2 b3 b4 b5 b6 o5 o6
    obtain ⟨cP, fP⟩ := KP6.rules
    obtain ⟨cQ, fQ⟩ := KQ6.rules
    rcases hPF.out with ⟨rfl, hsq⟩ | ⟨rfl, hsq⟩
    · rw [hsq] at HQS
      refine RG.wp_facts [fun X _ => X = .agg #[.string p.name, .slice qa p.inputs.length qc, .slice qv p.vars.length qd, .slice qo p.outputs.length qe, .string p.guard, .slice ql p.lines.length qf], fun X _ => X = .bool sp, fun X _ => X = .agg #[.string p.name, .slice qa p.inputs.length qc, .slice qv p.vars.length qd, .slice qo p.outputs.length qe, .string p.guard, .slice ql p.lines.length qf], fun X _ => X = .bool sp, fun X _ => X = .bool false, fun X _ => X = .bool false, fun X _ => X = .int .i64 0, fun X _ => X = .int .i64 0, fun X _ => X = .bool false, fun X _ => X = .bool false, fun X _ => X = .bool false, fun X _ => X = .int .i64 m, fun X _ => X = .int .i64 m, fun X _ => X = .bool false, fun X _ => X = .bool false, fun X _ => X = .bool false, fun X _ => X = .int .i64 d, fun X _ => X = .int .i64 d, fun X _ => X = .bool false, fun X _ => X = .bool false, fun X _ => X = .bool false, fun X _ => X = .slice a5 N.length k5, fun X _ => X = .slice a6 N.length k6, fun X _ => X = .bool true, fun X _ => X = .bool false, fun X _ => X = .bool false, fun X _ => X = .bool false, fun X _ => X = .agg #[.string q.name, .slice ra q.inputs.length rc, .slice rv q.vars.length rd, .slice ro q.outputs.length re, .string q.guard, .slice rl q.lines.length rf], fun X _ => X = .bool (m == 0), fun X _ => X = .int .i64 0, fun X _ => X = .bool true, fun X _ => X = .bool true, fun X _ => X = .int .i64 m, fun X _ => X = .bool (m == 0), fun X _ => X = .bool (m == 0), fun X _ => X = .bool false, fun X _ => X = .bool false] (by kernel_rfl) (by kernel_rfl) ⟨RG.stable_eq _, RG.stable_eq _, RG.stable_eq _, RG.stable_eq _, RG.stable_eq _, RG.stable_eq _, RG.stable_eq _, RG.stable_eq _, RG.stable_eq _, RG.stable_eq _, RG.stable_eq _, RG.stable_eq _, RG.stable_eq _, RG.stable_eq _, RG.stable_eq _, RG.stable_eq _, RG.stable_eq _, RG.stable_eq _, RG.stable_eq _, RG.stable_eq _, RG.stable_eq _, RG.stable_eq _, RG.stable_eq _, RG.stable_eq _, RG.stable_eq _, RG.stable_eq _, RG.stable_eq _, RG.stable_eq _, RG.stable_eq _, RG.stable_eq _, RG.stable_eq _, RG.stable_eq _, RG.stable_eq _, RG.stable_eq _, RG.stable_eq _, RG.stable_eq _, RG.stable_eq _, trivial⟩ ?_ ?_
      · refine ⟨?_, ?_, ?_, ?_, ?_, ?_, ?_, ?_, ?_, ?_, ?_, ?_, ?_, ?_, ?_, ?_, ?_, ?_, ?_, ?_, ?_, ?_, ?_, ?_, ?_, ?_, ?_, ?_, ?_, ?_, ?_, ?_, ?_, ?_, ?_, ?_, ?_, trivial⟩
        · intro a w9 hw ho hk
          refine .inl ⟨by rfl, ?_⟩
          have t2 := ho 3 rfl
          dsimp at t2
          try with_reducible replace hw := New.undrawN hw
          try with_reducible replace hw := New.undraw hw
          obtain ⟨c, f'⟩ := hw.rules
          go_simp
          exact New.refl _
        · intro a w9 hw ho hk
          refine .inl ⟨by rfl, ?_⟩
          have t46 : a.tmps[46]?.getD undef = .agg #[.string p.name, .slice qa p.inputs.length qc, .slice qv p.vars.length qd, .slice qo p.outputs.length qe, .string p.guard, .slice ql p.lines.length qf] := hk 0 46 (by kernel_rfl) rfl
          go_simp
          refine (HSI.out _ (RP.out.new (New.trans (show New w1 w6 by exact N16) hw)) (K6.new hw)).mono ?_; rintro e w2 ⟨rfl, hb⟩
          first | exact ⟨hb, _, rfl, by simp⟩ | exact ⟨hb, by simp⟩
        · intro a w9 hw ho hk
          refine .inl ⟨by rfl, ?_⟩
          have t2 := ho 3 rfl
          dsimp at t2
          try with_reducible replace hw := New.undrawN hw
          try with_reducible replace hw := New.undraw hw
          obtain ⟨c, f'⟩ := hw.rules
          go_simp
          exact New.refl _
        · intro a w9 hw ho hk
          refine .inl ⟨by rfl, ?_⟩
          have t48 : a.tmps[48]?.getD undef = .agg #[.string p.name, .slice qa p.inputs.length qc, .slice qv p.vars.length qd, .slice qo p.outputs.length qe, .string p.guard, .slice ql p.lines.length qf] := hk 2 48 (by kernel_rfl) rfl
          go_simp
          refine (HSS.out _ (RP.out.new (New.trans N16 hw))).mono ?_; rintro e w2 ⟨rfl, hb⟩
          first | exact ⟨hb, _, rfl, by simp⟩ | exact ⟨hb, by simp⟩
        · intro a w9 hw ho hk
          refine .inl ⟨by rfl, ?_⟩
          have t47 : a.tmps[47]?.getD undef = .bool sp := hk 1 47 (by kernel_rfl) rfl
          have t49 : a.tmps[49]?.getD undef = .bool sp := hk 3 49 (by kernel_rfl) rfl
          go_simp
          exact New.refl _
        · intro a w9 hw ho hk
          refine .inl ⟨by rfl, ?_⟩
          have t50 : a.tmps[50]?.getD undef = .bool false := hk 4 50 (by kernel_rfl) rfl
          go_simp
          exact New.refl _
        · intro a w9 hw ho hk
          have t51 : a.tmps[51]?.getD undef = .bool false := hk 5 51 (by kernel_rfl) rfl
          refine .inl ⟨by simp [Region.wanted, yielded, RG.look t51], ?_⟩
          have t2 := ho 6 rfl
          dsimp at t2
          try with_reducible replace hw := New.undrawN hw
          try with_reducible replace hw := New.undraw hw
          obtain ⟨c, f'⟩ := hw.rules
          go_simp
          exact New.refl _
        · intro a w9 hw ho hk
          have t51 : a.tmps[51]?.getD undef = .bool false := hk 5 51 (by kernel_rfl) rfl
          refine .inl ⟨by simp [Region.wanted, yielded, RG.look t51], ?_⟩
          have t2 := ho 8 rfl
          dsimp at t2
          try with_reducible replace hw := New.undrawN hw
          try with_reducible replace hw := New.undraw hw
          obtain ⟨c, f'⟩ := hw.rules
          go_simp
          exact New.refl _
        · intro a w9 hw ho hk
          have t51 : a.tmps[51]?.getD undef = .bool false := hk 5 51 (by kernel_rfl) rfl
          refine .inl ⟨by simp [Region.wanted, yielded, RG.look t51], ?_⟩
          have t52 : a.tmps[52]?.getD undef = .int .i64 0 := hk 6 52 (by kernel_rfl) rfl
          have t53 : a.tmps[53]?.getD undef = .int .i64 0 := hk 7 53 (by kernel_rfl) rfl
          go_simp
          exact New.refl _
        · intro a w9 hw ho hk
          refine .inl ⟨by rfl, ?_⟩
          have t51 : a.tmps[51]?.getD undef = .bool false := hk 5 51 (by kernel_rfl) rfl
          have t54 : a.tmps[54]?.getD undef = .bool false := hk 8 54 (by kernel_rfl) rfl
          go_simp
          exact New.refl _
        · intro a w9 hw ho hk
          refine .inl ⟨by rfl, ?_⟩
          have t55 : a.tmps[55]?.getD undef = .bool false := hk 9 55 (by kernel_rfl) rfl
          go_simp
          exact New.refl _
        · intro a w9 hw ho hk
          have t56 : a.tmps[56]?.getD undef = .bool false := hk 10 56 (by kernel_rfl) rfl
          refine .inl ⟨by simp [Region.wanted, yielded, RG.look t56], ?_⟩
          have t2 := ho 5 rfl
          dsimp at t2
          try with_reducible replace hw := New.undrawN hw
          try with_reducible replace hw := New.undraw hw
          obtain ⟨c, f'⟩ := hw.rules
          go_simp
          exact New.refl _
        · intro a w9 hw ho hk
          have t56 : a.tmps[56]?.getD undef = .bool false := hk 10 56 (by kernel_rfl) rfl
          refine .inl ⟨by simp [Region.wanted, yielded, RG.look t56], ?_⟩
          have t2 := ho 7 rfl
          dsimp at t2
          try with_reducible replace hw := New.undrawN hw
          try with_reducible replace hw := New.undraw hw
          obtain ⟨c, f'⟩ := hw.rules
          go_simp
          exact New.refl _
        · intro a w9 hw ho hk
          have t56 : a.tmps[56]?.getD undef = .bool false := hk 10 56 (by kernel_rfl) rfl
          refine .inl ⟨by simp [Region.wanted, yielded, RG.look t56], ?_⟩
          have t57 : a.tmps[57]?.getD undef = .int .i64 m := hk 11 57 (by kernel_rfl) rfl
          have t58 : a.tmps[58]?.getD undef = .int .i64 m := hk 12 58 (by kernel_rfl) rfl
          go_simp
          exact New.refl _
        · intro a w9 hw ho hk
          refine .inl ⟨by rfl, ?_⟩
          have t56 : a.tmps[56]?.getD undef = .bool false := hk 10 56 (by kernel_rfl) rfl
          have t59 : a.tmps[59]?.getD undef = .bool false := hk 13 59 (by kernel_rfl) rfl
          go_simp
          exact New.refl _
        · intro a w9 hw ho hk
          refine .inl ⟨by rfl, ?_⟩
          have t60 : a.tmps[60]?.getD undef = .bool false := hk 14 60 (by kernel_rfl) rfl
          go_simp
          exact New.refl _
        · intro a w9 hw ho hk
          have t61 : a.tmps[61]?.getD undef = .bool false := hk 15 61 (by kernel_rfl) rfl
          refine .inl ⟨by simp [Region.wanted, yielded, RG.look t61], ?_⟩
          have t2 := ho 10 rfl
          dsimp at t2
          try with_reducible replace hw := New.undrawN hw
          try with_reducible replace hw := New.undraw hw
          obtain ⟨c, f'⟩ := hw.rules
          go_simp
          exact New.refl _
        · intro a w9 hw ho hk
          have t61 : a.tmps[61]?.getD undef = .bool false := hk 15 61 (by kernel_rfl) rfl
          refine .inl ⟨by simp [Region.wanted, yielded, RG.look t61], ?_⟩
          have t2 := ho 12 rfl
          dsimp at t2
          try with_reducible replace hw := New.undrawN hw
          try with_reducible replace hw := New.undraw hw
          obtain ⟨c, f'⟩ := hw.rules
          go_simp
          exact New.refl _
        · intro a w9 hw ho hk
          have t61 : a.tmps[61]?.getD undef = .bool false := hk 15 61 (by kernel_rfl) rfl
          refine .inl ⟨by simp [Region.wanted, yielded, RG.look t61], ?_⟩
          have t62 : a.tmps[62]?.getD undef = .int .i64 d := hk 16 62 (by kernel_rfl) rfl
          have t63 : a.tmps[63]?.getD undef = .int .i64 d := hk 17 63 (by kernel_rfl) rfl
          go_simp
          exact New.refl _
        · intro a w9 hw ho hk
          refine .inl ⟨by rfl, ?_⟩
          have t61 : a.tmps[61]?.getD undef = .bool false := hk 15 61 (by kernel_rfl) rfl
          have t64 : a.tmps[64]?.getD undef = .bool false := hk 18 64 (by kernel_rfl) rfl
          go_simp
          exact New.refl _
        · intro a w9 hw ho hk
          refine .inl ⟨by rfl, ?_⟩
          have t65 : a.tmps[65]?.getD undef = .bool false := hk 19 65 (by kernel_rfl) rfl
          go_simp
          exact New.refl _
        · intro a w9 hw ho hk
          have t66 : a.tmps[66]?.getD undef = .bool false := hk 20 66 (by kernel_rfl) rfl
          refine .inl ⟨by simp [Region.wanted, yielded, RG.look t66], ?_⟩
          have t2 := ho 9 rfl
          dsimp at t2
          try with_reducible replace hw := New.undrawN hw
          try with_reducible replace hw := New.undraw hw
          obtain ⟨c, f'⟩ := hw.rules
          go_simp
          exact New.refl _
        · intro a w9 hw ho hk
          have t66 : a.tmps[66]?.getD undef = .bool false := hk 20 66 (by kernel_rfl) rfl
          refine .inl ⟨by simp [Region.wanted, yielded, RG.look t66], ?_⟩
          have t2 := ho 11 rfl
          dsimp at t2
          try with_reducible replace hw := New.undrawN hw
          try with_reducible replace hw := New.undraw hw
          obtain ⟨c, f'⟩ := hw.rules
          go_simp
          exact New.refl _
        · intro a w9 hw ho hk
          have t66 : a.tmps[66]?.getD undef = .bool false := hk 20 66 (by kernel_rfl) rfl
          refine .inl ⟨by simp [Region.wanted, yielded, RG.look t66], ?_⟩
          have t67 : a.tmps[67]?.getD undef = .slice a5 N.length k5 := hk 21 67 (by kernel_rfl) rfl
          have t68 : a.tmps[68]?.getD undef = .slice a6 N.length k6 := hk 22 68 (by kernel_rfl) rfl
          go_simp
          refine (likeNames_same _ _ N _ (Rd.new R5.out hw) (Rd.new R6.out hw)).mono ?_; rintro e w2 ⟨rfl, hb⟩
          first | exact ⟨hb, _, rfl, by simp⟩ | exact ⟨hb, by simp⟩
        · intro a w9 hw ho hk
          have t66 : a.tmps[66]?.getD undef = .bool false := hk 20 66 (by kernel_rfl) rfl
          refine .inl ⟨by simp [Region.wanted, yielded, RG.look t66], ?_⟩
          have t69 : a.tmps[69]?.getD undef = .bool true := hk 23 69 (by kernel_rfl) rfl
          go_simp
          exact New.refl _
        · intro a w9 hw ho hk
          refine .inl ⟨by rfl, ?_⟩
          have t66 : a.tmps[66]?.getD undef = .bool false := hk 20 66 (by kernel_rfl) rfl
          have t70 : a.tmps[70]?.getD undef = .bool false := hk 24 70 (by kernel_rfl) rfl
          go_simp
          exact New.refl _
        · intro a w9 hw ho hk
          refine .inl ⟨by rfl, ?_⟩
          have t71 : a.tmps[71]?.getD undef = .bool false := hk 25 71 (by kernel_rfl) rfl
          go_simp
          exact New.refl _
        · intro a w9 hw ho hk
          have t72 : a.tmps[72]?.getD undef = .bool false := hk 26 72 (by kernel_rfl) rfl
          refine .inl ⟨by simp [Region.wanted, yielded, RG.look t72], ?_⟩
          have t2 := ho 4 rfl
          dsimp at t2
          try with_reducible replace hw := New.undrawN hw
          try with_reducible replace hw := New.undraw hw
          obtain ⟨c, f'⟩ := hw.rules
          go_simp
          exact New.refl _
        · intro a w9 hw ho hk
          have t72 : a.tmps[72]?.getD undef = .bool false := hk 26 72 (by kernel_rfl) rfl
          refine .inl ⟨by simp [Region.wanted, yielded, RG.look t72], ?_⟩
          have t73 : a.tmps[73]?.getD undef = .agg #[.string q.name, .slice ra q.inputs.length rc, .slice rv q.vars.length rd, .slice ro q.outputs.length re, .string q.guard, .slice rl q.lines.length rf] := hk 27 73 (by kernel_rfl) rfl
          go_simp
          refine (HQS.out _ (RQ.out.new (New.trans N26 hw)) (K6.new hw)).mono ?_; rintro e w2 ⟨rfl, hb⟩
          first | exact ⟨hb, _, rfl, by simp⟩ | exact ⟨hb, by simp⟩
        · intro a w9 hw ho hk
          have t72 : a.tmps[72]?.getD undef = .bool false := hk 26 72 (by kernel_rfl) rfl
          refine .inl ⟨by simp [Region.wanted, yielded, RG.look t72], ?_⟩
          have t2 := ho 8 rfl
          dsimp at t2
          try with_reducible replace hw := New.undrawN hw
          try with_reducible replace hw := New.undraw hw
          obtain ⟨c, f'⟩ := hw.rules
          go_simp
          exact New.refl _
        · intro a w9 hw ho hk
          have t72 : a.tmps[72]?.getD undef = .bool false := hk 26 72 (by kernel_rfl) rfl
          refine .inl ⟨by simp [Region.wanted, yielded, RG.look t72], ?_⟩
          have t75 : a.tmps[75]?.getD undef = .int .i64 0 := hk 29 75 (by kernel_rfl) rfl
          go_simp
          exact New.refl _
        · intro a w9 hw ho hk
          have t72 : a.tmps[72]?.getD undef = .bool false := hk 26 72 (by kernel_rfl) rfl
          refine .inl ⟨by simp [Region.wanted, yielded, RG.look t72], ?_⟩
          have t76 : a.tmps[76]?.getD undef = .bool true := hk 30 76 (by kernel_rfl) rfl
          go_simp
          exact New.refl _
        · intro a w9 hw ho hk
          have t77 : a.tmps[77]?.getD undef = .bool true := hk 31 77 (by kernel_rfl) rfl
          refine .inl ⟨by simp [Region.wanted, yielded, RG.look t77], ?_⟩
          have t2 := ho 7 rfl
          dsimp at t2
          try with_reducible replace hw := New.undrawN hw
          try with_reducible replace hw := New.undraw hw
          obtain ⟨c, f'⟩ := hw.rules
          go_simp
          exact New.refl _
        · intro a w9 hw ho hk
          have t77 : a.tmps[77]?.getD undef = .bool true := hk 31 77 (by kernel_rfl) rfl
          refine .inl ⟨by simp [Region.wanted, yielded, RG.look t77], ?_⟩
          have t78 : a.tmps[78]?.getD undef = .int .i64 m := hk 32 78 (by kernel_rfl) rfl
          go_simp
          exact New.refl _
        · intro a w9 hw ho hk
          have t72 : a.tmps[72]?.getD undef = .bool false := hk 26 72 (by kernel_rfl) rfl
          refine .inl ⟨by simp [Region.wanted, yielded, RG.look t72], ?_⟩
          have t77 : a.tmps[77]?.getD undef = .bool true := hk 31 77 (by kernel_rfl) rfl
          have t79 : a.tmps[79]?.getD undef = .bool (m == 0) := hk 33 79 (by kernel_rfl) rfl
          go_simp
          exact New.refl _
        · intro a w9 hw ho hk
          have t72 : a.tmps[72]?.getD undef = .bool false := hk 26 72 (by kernel_rfl) rfl
          refine .inl ⟨by simp [Region.wanted, yielded, RG.look t72], ?_⟩
          have t74 : a.tmps[74]?.getD undef = .bool (m == 0) := hk 28 74 (by kernel_rfl) rfl
          have t80 : a.tmps[80]?.getD undef = .bool (m == 0) := hk 34 80 (by kernel_rfl) rfl
          go_simp
          exact New.refl _
        · intro a w9 hw ho hk
          refine .inl ⟨by rfl, ?_⟩
          have t72 : a.tmps[72]?.getD undef = .bool false := hk 26 72 (by kernel_rfl) rfl
          have t81 : a.tmps[81]?.getD undef = .bool false := hk 35 81 (by kernel_rfl) rfl
          go_simp
          exact New.refl _
      intro w7 b7
      rintro _ rfl _ rfl _ rfl _ rfl _ rfl _ rfl _ rfl _ rfl _ rfl _ rfl _ rfl _ rfl _ rfl _ rfl _ rfl _ rfl _ rfl _ rfl _ rfl _ rfl _ rfl _ rfl _ rfl _ rfl _ rfl _ rfl _ rfl _ rfl _ rfl _ rfl _ rfl _ rfl _ rfl _ rfl _ rfl _ rfl _ rfl
      try with_reducible replace b7 := New.undrawN b7
      try with_reducible replace b7 := New.undraw b7
      obtain ⟨c7, f7⟩ := b7.rules
      have z7 := b7.size
      try simp only [World.size_alloc, World.size_drew, World.heap_drewN, World.size_setCell] at z7
      have z7_0 : w1.heap.size < w7.heap.size := by omega
      have z7_1 : w2.heap.size < w7.heap.size := by omega
      simp only [RG.EndAll, List.nil_append, List.cons_append, List.length_cons, List.length_nil, Nat.zero_add, Nat.reduceAdd, List.take_succ_cons, List.take_zero, List.drop_succ_cons, List.drop_zero, RG.putAll, Act.put, List.setIfInBounds_toArray, List.set_cons_succ, List.set_cons_zero]
      have hRN' := hRN.out
      rcases hRN' with ⟨rfl, hcode, hN⟩ | rfl | rfl
      · obtain ⟨qv', qd', e, hvl, HVR⟩ := RdS.open RP.out.vars
        injection e with e1 e2 e3
        subst e1 e3
        clear e2
        obtain ⟨a6', k6', e, hnl6, HNR⟩ := RdS.open R6.out
        injection e with e1 e2 e3
        subst e1 e3
        clear e2
        replace hcode := Lib.hid hcode
        replace hN := Lib.hid hN
        have HLI := Lib.hid (fun (s : ByteArray) (w0 : World) (h : RdP w0 p (.slice qa p.inputs.length qc) (.slice qv p.vars.length qd) (.slice qo p.outputs.length qe) (.slice ql p.lines.length qf)) (k : KW w0) => iLineOf_any p _ _ _ _ s w0 h hfp.out k)
        have HUI := Lib.hid (fun (s : ByteArray) (w0 : World) (h : RdP w0 p (.slice qa p.inputs.length qc) (.slice qv p.vars.length qd) (.slice qo p.outputs.length qe) (.slice ql p.lines.length qf)) (k : KW w0) => iUsesOf_any p _ _ _ _ s w0 h hfp.out k)
        go_wp2_with fail
        go_loopw [13, 14, 15, 16, 17, 18, 19] (fun s13 s14 s15 s16 s17 s18 s19 wr => ∃ at' k : Nat, k ≤ p.vars.length ∧ s13 = .int .i64 at' ∧ s14 = .int .i64 k ∧ at' ≤ k ∧ Hid (N.drop at' = (p.vars.drop k).filter (remB p)) ∧ New w7 wr) (fun s13 s14 s15 s16 s17 s18 s19 _ => p.vars.length - (intOf s14).toNat)
        case atStart => exact ⟨0, 0, Nat.zero_le _, rfl, rfl, Nat.le_refl _, Lib.hid (by rw [hN.out]; simp), New.refl _⟩
        case round =>
          obtain ⟨at', k, hk, rfl, rfl, hak, hst, hb⟩ := hrel
          have N6r : New w6 wr := b7.trans hb
          have N1r : New w1 wr := N16.trans N6r
          have Nwr : New w wr := Nw6.trans N6r
          obtain ⟨cc, f'⟩ := hb.rules
          have hbz := hb.size
          have hPr : w1.heap.size < wr.heap.size := by omega
          obtain ⟨cPr, fPr⟩ := (KP6.new N6r).rules
          by_cases hlt : k < p.vars.length
          · obtain ⟨b, off, rfl, hbl, hx⟩ := HVR.out wr N1r k hlt
            have hbw : b < wr.heap.size := by omega
            obtain ⟨hwB, hXL⟩ := var_line hcode.out (List.getElem_mem hlt)
            have HL1 := Lib.hid (fun (w0 : World) (h : New wr w0) => HLI.out p.vars[k] w0 (RP.out.new (N1r.trans h)) (HK.out.new (Nwr.trans h)))
            rw [lineR_1 hwB hXL] at HL1
            have HU1 := Lib.hid (fun (w0 : World) (h : New wr w0) => HUI.out p.vars[k] w0 (RP.out.new (N1r.trans h)) (HK.out.new (Nwr.trans h)))
            rw [show usesR p p.vars[k] = (usesP p p.vars[k], 0) by rw [usesR, if_pos hwB]] at HU1
            have HAT := Lib.hid (rem_at hst.out hlt)
            have HRE : Hid ((usesP p p.vars[k] = [] ∧ remB p p.vars[k] = false) ∨ ∃ u rest, usesP p p.vars[k] = u :: rest ∧ remB p p.vars[k] = decide (u ≤ lineIdx p p.vars[k])) := Lib.hid (by
              cases hu : usesP p p.vars[k] with
              | nil => exact .inl ⟨rfl, remB_nil hu⟩
              | cons u rest => exact .inr ⟨u, rest, rfl, remB_cons hu⟩)
            generalize remB p p.vars[k] = rb at HAT HRE
            generalize lineIdx p p.vars[k] = L at HL1 HRE hXL
            generalize usesP p p.vars[k] = U at HU1 HRE
            generalize p.vars[k] = x at HL1 HU1 hx HAT
            have kv : wr.cell? ⟨w1.heap.size, 2, none⟩ = some (.slice (some ⟨b, off, none⟩) p.vars.length qd) := by rw [cPr]; rfl
            go_wp2_with fail
            refine RG.wp_facts [fun X _ => X = .agg #[.string p.name, .slice qa p.inputs.length qc, .slice (some ⟨b, off, none⟩) p.vars.length qd, .slice qo p.outputs.length qe, .string p.guard, .slice ql p.lines.length qf], fun X _ => X = .pointer (some ⟨w1.heap.size, 2, none⟩), fun X _ => X = .slice (some ⟨b, off, none⟩) p.vars.length qd, fun X _ => X = .int .i64 k, fun X _ => X = .pointer (some ⟨b, off + k, none⟩), fun X _ => X = .string x, fun X _ => X = .tuple #[.int .i64 L, .int .i64 0], fun X _ => X = .tuple #[.int .i64 L, .int .i64 0], fun X _ => X = .int .i64 L, fun X _ => X = .int .i64 0, fun X _ => X = .int .i64 L, fun X _ => X = .int .i64 0] (by kernel_rfl) (by kernel_rfl) ⟨RG.stable_eq _, RG.stable_eq _, RG.stable_eq _, RG.stable_eq _, RG.stable_eq _, RG.stable_eq _, RG.stable_eq _, RG.stable_eq _, RG.stable_eq _, RG.stable_eq _, RG.stable_eq _, RG.stable_eq _, trivial⟩ ?_ ?_
            · refine ⟨?_, ?_, ?_, ?_, ?_, ?_, ?_, ?_, ?_, ?_, ?_, ?_, trivial⟩
              · intro a w9 hw ho hk
                refine .inl ⟨by rfl, ?_⟩
                have t2 := ho 3 rfl
                dsimp at t2
                try with_reducible replace hw := New.undrawN hw
                try with_reducible replace hw := New.undraw hw
                obtain ⟨c, f'⟩ := hw.rules
                go_simp
                exact New.refl _
              · intro a w9 hw ho hk
                refine .inl ⟨by rfl, ?_⟩
                have t2 := ho 3 rfl
                dsimp at t2
                try with_reducible replace hw := New.undrawN hw
                try with_reducible replace hw := New.undraw hw
                obtain ⟨c, f'⟩ := hw.rules
                go_simp
                exact New.refl _
              · intro a w9 hw ho hk
                refine .inl ⟨by rfl, ?_⟩
                have t94 : a.tmps[94]?.getD undef = .pointer (some ⟨w1.heap.size, 2, none⟩) := hk 1 94 (by kernel_rfl) rfl
                try with_reducible replace hw := New.undrawN hw
                try with_reducible replace hw := New.undraw hw
                obtain ⟨c, f'⟩ := hw.rules
                go_simp
                exact New.refl _
              · intro a w9 hw ho hk
                refine .inl ⟨by rfl, ?_⟩
                have t2 := ho 14 rfl
                dsimp at t2
                try with_reducible replace hw := New.undrawN hw
                try with_reducible replace hw := New.undraw hw
                obtain ⟨c, f'⟩ := hw.rules
                go_simp
                exact New.refl _
              · intro a w9 hw ho hk
                refine .inl ⟨by rfl, ?_⟩
                have t95 : a.tmps[95]?.getD undef = .slice (some ⟨b, off, none⟩) p.vars.length qd := hk 2 95 (by kernel_rfl) rfl
                have t96 : a.tmps[96]?.getD undef = .int .i64 k := hk 3 96 (by kernel_rfl) rfl
                go_simp
                exact New.refl _
              · intro a w9 hw ho hk
                refine .inl ⟨by rfl, ?_⟩
                have t97 : a.tmps[97]?.getD undef = .pointer (some ⟨b, off + k, none⟩) := hk 4 97 (by kernel_rfl) rfl
                try with_reducible replace hw := New.undrawN hw
                try with_reducible replace hw := New.undraw hw
                obtain ⟨c, f'⟩ := hw.rules
                go_simp
                exact New.refl _
              · intro a w9 hw ho hk
                refine .inl ⟨by rfl, ?_⟩
                have t93 : a.tmps[93]?.getD undef = .agg #[.string p.name, .slice qa p.inputs.length qc, .slice (some ⟨b, off, none⟩) p.vars.length qd, .slice qo p.outputs.length qe, .string p.guard, .slice ql p.lines.length qf] := hk 0 93 (by kernel_rfl) rfl
                have t98 : a.tmps[98]?.getD undef = .string x := hk 5 98 (by kernel_rfl) rfl
                go_simp
                refine (HL1.out _ hw).mono ?_; rintro e w2 ⟨rfl, hb⟩
                first | exact ⟨hb, _, rfl, by simp⟩ | exact ⟨hb, by simp⟩
              · intro a w9 hw ho hk
                refine .inl ⟨by rfl, ?_⟩
                have t99 : a.tmps[99]?.getD undef = .tuple #[.int .i64 L, .int .i64 0] := hk 6 99 (by kernel_rfl) rfl
                go_simp
                exact New.refl _
              · intro a w9 hw ho hk
                refine .inl ⟨by rfl, ?_⟩
                have t92 : a.tmps[92]?.getD undef = .tuple #[.int .i64 L, .int .i64 0] := hk 7 92 (by kernel_rfl) rfl
                go_simp
                exact New.refl _
              · intro a w9 hw ho hk
                refine .inl ⟨by rfl, ?_⟩
                have t92 : a.tmps[92]?.getD undef = .tuple #[.int .i64 L, .int .i64 0] := hk 7 92 (by kernel_rfl) rfl
                go_simp
                exact New.refl _
              · intro a w9 hw ho hk
                refine .inl ⟨by rfl, ?_⟩
                have t100 : a.tmps[100]?.getD undef = .int .i64 L := hk 8 100 (by kernel_rfl) rfl
                go_simp
                exact New.refl _
              · intro a w9 hw ho hk
                refine .inl ⟨by rfl, ?_⟩
                have t101 : a.tmps[101]?.getD undef = .int .i64 0 := hk 9 101 (by kernel_rfl) rfl
                go_simp
                exact New.refl _
            intro w8 b8
            rintro _ rfl _ rfl _ rfl _ rfl _ rfl _ rfl _ rfl _ rfl _ rfl _ rfl _ rfl _ rfl
            try with_reducible replace b8 := New.undrawN b8
            try with_reducible replace b8 := New.undraw b8
            obtain ⟨c8, f8⟩ := b8.rules
            have z8 := b8.size
            try simp only [World.size_alloc, World.size_drew, World.heap_drewN, World.size_setCell] at z8
            have z8_0 : w1.heap.size < w8.heap.size := by omega
            have z8_1 : b < w8.heap.size := by omega
            simp only [RG.EndAll, List.nil_append, List.cons_append, List.length_cons, List.length_nil, Nat.zero_add, Nat.reduceAdd, List.take_succ_cons, List.take_zero, List.drop_succ_cons, List.drop_zero, RG.putAll, Act.put, List.setIfInBounds_toArray, List.set_cons_succ, List.set_cons_zero]
            have N68 : New w6 w8 := N6r.trans b8
            obtain ⟨cP8, fP8⟩ := (KP6.new N68).rules
            have kv8 : w8.cell? ⟨w1.heap.size, 2, none⟩ = some (.slice (some ⟨b, off, none⟩) p.vars.length qd) := by rw [cP8]; rfl
            have hx8 : w8.cell? ⟨b, off + k, none⟩ = some (.string x) := (b8.cell hbw).trans hx
            go_wp2_with fail
            refine RG.wp_facts [fun X _ => X = .agg #[.string p.name, .slice qa p.inputs.length qc, .slice (some ⟨b, off, none⟩) p.vars.length qd, .slice qo p.outputs.length qe, .string p.guard, .slice ql p.lines.length qf], fun X _ => X = .pointer (some ⟨w1.heap.size, 2, none⟩), fun X _ => X = .slice (some ⟨b, off, none⟩) p.vars.length qd, fun X _ => X = .int .i64 k, fun X _ => X = .pointer (some ⟨b, off + k, none⟩), fun X _ => X = .string x, fun X W' => ∃ r, X = .tuple #[r, .int .i64 0] ∧ RdI W' r U, fun X W' => ∃ r, X = .tuple #[r, .int .i64 0] ∧ RdI W' r U, fun X W' => ∃ r, X = r ∧ RdI W' r U, fun X _ => X = .int .i64 0, fun X W' => ∃ r, X = r ∧ RdI W' r U, fun X _ => X = .int .i64 0] (by kernel_rfl) (by kernel_rfl) ⟨RG.stable_eq _, RG.stable_eq _, RG.stable_eq _, RG.stable_eq _, RG.stable_eq _, RG.stable_eq _, fun X w0 w1 hn ⟨q109, t109, r109⟩ => ⟨q109, t109, r109.new hn⟩, fun X w0 w1 hn ⟨q102, t102, r102⟩ => ⟨q102, t102, r102.new hn⟩, fun X w0 w1 hn ⟨q110, t110, r110⟩ => ⟨q110, t110, r110.new hn⟩, RG.stable_eq _, fun X w0 w1 hn ⟨q17, t17, r17⟩ => ⟨q17, t17, r17.new hn⟩, RG.stable_eq _, trivial⟩ ?_ ?_
            · refine ⟨?_, ?_, ?_, ?_, ?_, ?_, ?_, ?_, ?_, ?_, ?_, ?_, trivial⟩
              · intro a w9 hw ho hk
                refine .inl ⟨by rfl, ?_⟩
                have t2 := ho 3 rfl
                dsimp at t2
                try with_reducible replace hw := New.undrawN hw
                try with_reducible replace hw := New.undraw hw
                obtain ⟨c, f'⟩ := hw.rules
                go_simp
                exact New.refl _
              · intro a w9 hw ho hk
                refine .inl ⟨by rfl, ?_⟩
                have t2 := ho 3 rfl
                dsimp at t2
                try with_reducible replace hw := New.undrawN hw
                try with_reducible replace hw := New.undraw hw
                obtain ⟨c, f'⟩ := hw.rules
                go_simp
                exact New.refl _
              · intro a w9 hw ho hk
                refine .inl ⟨by rfl, ?_⟩
                have t104 : a.tmps[104]?.getD undef = .pointer (some ⟨w1.heap.size, 2, none⟩) := hk 1 104 (by kernel_rfl) rfl
                try with_reducible replace hw := New.undrawN hw
                try with_reducible replace hw := New.undraw hw
                obtain ⟨c, f'⟩ := hw.rules
                go_simp
                exact New.refl _
              · intro a w9 hw ho hk
                refine .inl ⟨by rfl, ?_⟩
                have t2 := ho 14 rfl
                dsimp at t2
                try with_reducible replace hw := New.undrawN hw
                try with_reducible replace hw := New.undraw hw
                obtain ⟨c, f'⟩ := hw.rules
                go_simp
                exact New.refl _
              · intro a w9 hw ho hk
                refine .inl ⟨by rfl, ?_⟩
                have t105 : a.tmps[105]?.getD undef = .slice (some ⟨b, off, none⟩) p.vars.length qd := hk 2 105 (by kernel_rfl) rfl
                have t106 : a.tmps[106]?.getD undef = .int .i64 k := hk 3 106 (by kernel_rfl) rfl
                go_simp
                exact New.refl _
              · intro a w9 hw ho hk
                refine .inl ⟨by rfl, ?_⟩
                have t107 : a.tmps[107]?.getD undef = .pointer (some ⟨b, off + k, none⟩) := hk 4 107 (by kernel_rfl) rfl
                try with_reducible replace hw := New.undrawN hw
                try with_reducible replace hw := New.undraw hw
                obtain ⟨c, f'⟩ := hw.rules
                go_simp
                exact New.refl _
              · intro a w9 hw ho hk
                refine .inl ⟨by rfl, ?_⟩
                have t103 : a.tmps[103]?.getD undef = .agg #[.string p.name, .slice qa p.inputs.length qc, .slice (some ⟨b, off, none⟩) p.vars.length qd, .slice qo p.outputs.length qe, .string p.guard, .slice ql p.lines.length qf] := hk 0 103 (by kernel_rfl) rfl
                have t108 : a.tmps[108]?.getD undef = .string x := hk 5 108 (by kernel_rfl) rfl
                go_simp
                refine (HU1.out _ (b8.trans hw)).mono ?_; rintro e w2 ⟨r, rfl, hb, o1⟩
                first | exact ⟨hb, _, rfl, _, rfl, own_rd o1⟩ | exact ⟨hb, _, by simp, own_rd o1⟩
              · intro a w9 hw ho hk
                refine .inl ⟨by rfl, ?_⟩
                obtain ⟨q109, t109, r109⟩ : ∃ r, (a.tmps[109]?.getD undef) = .tuple #[r, .int .i64 0] ∧ RdI w9 r U := hk 6 109 (by kernel_rfl) rfl
                go_simp
                first | exact ⟨New.refl _, _, rfl, _, rfl, r109⟩ | exact ⟨New.refl _, _, by simp, r109⟩
              · intro a w9 hw ho hk
                refine .inl ⟨by rfl, ?_⟩
                obtain ⟨q102, t102, r102⟩ : ∃ r, (a.tmps[102]?.getD undef) = .tuple #[r, .int .i64 0] ∧ RdI w9 r U := hk 7 102 (by kernel_rfl) rfl
                go_simp
                first | exact ⟨New.refl _, _, rfl, _, rfl, r102⟩ | exact ⟨New.refl _, _, rfl, r102⟩
              · intro a w9 hw ho hk
                refine .inl ⟨by rfl, ?_⟩
                obtain ⟨q102, t102, r102⟩ : ∃ r, (a.tmps[102]?.getD undef) = .tuple #[r, .int .i64 0] ∧ RdI w9 r U := hk 7 102 (by kernel_rfl) rfl
                go_simp
                exact New.refl _
              · intro a w9 hw ho hk
                refine .inl ⟨by rfl, ?_⟩
                obtain ⟨q110, t110, r110⟩ : ∃ r, (a.tmps[110]?.getD undef) = r ∧ RdI w9 r U := hk 8 110 (by kernel_rfl) rfl
                go_simp
                first | exact ⟨New.refl _, _, rfl, _, rfl, r110⟩ | exact ⟨New.refl _, _, rfl, r110⟩
              · intro a w9 hw ho hk
                refine .inl ⟨by rfl, ?_⟩
                have t111 : a.tmps[111]?.getD undef = .int .i64 0 := hk 9 111 (by kernel_rfl) rfl
                go_simp
                exact New.refl _
            intro w9 b9
            rintro _ rfl _ rfl _ rfl _ rfl _ rfl _ rfl _ ⟨q109, rfl, r109⟩ _ ⟨q102, rfl, r102⟩ _ ⟨q110, rfl, r110⟩ _ rfl _ ⟨q17, rfl, r17⟩ _ rfl
            clear r109 r102 r110
            obtain ⟨ua, uc, rfl, hul, HU⟩ := r17.open
            clear r17
            try with_reducible replace b9 := New.undrawN b9
            try with_reducible replace b9 := New.undraw b9
            obtain ⟨c9, f9⟩ := b9.rules
            have z9 := b9.size
            try simp only [World.size_alloc, World.size_drew, World.heap_drewN, World.size_setCell] at z9
            have z9_0 : w1.heap.size < w9.heap.size := by omega
            have z9_1 : b < w9.heap.size := by omega
            simp only [RG.EndAll, List.nil_append, List.cons_append, List.length_cons, List.length_nil, Nat.zero_add, Nat.reduceAdd, List.take_succ_cons, List.take_zero, List.drop_succ_cons, List.drop_zero, RG.putAll, Act.put, List.setIfInBounds_toArray, List.set_cons_succ, List.set_cons_zero]
            have N69 : New w6 w9 := N68.trans b9
            clear HL1 HU1
            generalize hn : U.length = n
            rw [hn] at hul
            rcases HRE.out with ⟨rfl, hr⟩ | ⟨u, rest, rfl, hr⟩
            · obtain rfl : 0 = n := hn
              rcases HAT.out with ⟨ht, _⟩ | ⟨_, hne, hst2⟩
              · rw [hr] at ht; cases ht
              · go_wp2_with fail
                by_cases ha : at' < N.length
                · have hne := hne ha
                  obtain ⟨nb, nof, rfl, hnl, hy⟩ := HNR.out w9 N69 at' ha
                  have hnb9 : nb < w9.heap.size := Nat.lt_of_lt_of_le hnl N69.size
                  generalize N[at'] = y at hne hy
                  have kv9 : w9.cell? ⟨w1.heap.size, 2, none⟩ = some (.slice (some ⟨b, off, none⟩) p.vars.length qd) := by rw [(KP6.new N69).rules.1]; rfl
                  have hx9 : w9.cell? ⟨b, off + k, none⟩ = some (.string x) := (New.cell (b8.trans b9) hbw).trans hx
                  refine RG.wp_facts [fun X _ => X = .bool false, fun X _ => X = .int .i64 at', fun X _ => X = .slice (some ⟨nb, nof, none⟩) N.length k6, fun X _ => X = .int .i64 N.length, fun X _ => X = .bool true, fun X _ => X = .bool true, fun X _ => X = .slice (some ⟨nb, nof, none⟩) N.length k6, fun X _ => X = .int .i64 at', fun X _ => X = .pointer (some ⟨nb, nof + at', none⟩), fun X _ => X = .string y, fun X _ => X = .pointer (some ⟨w1.heap.size, 2, none⟩), fun X _ => X = .slice (some ⟨b, off, none⟩) p.vars.length qd, fun X _ => X = .int .i64 k, fun X _ => X = .pointer (some ⟨b, off + k, none⟩), fun X _ => X = .string x, fun X _ => X = .bool false, fun X _ => X = .bool false, fun X _ => X = .bool false] (by kernel_rfl) (by kernel_rfl) ⟨RG.stable_eq _, RG.stable_eq _, RG.stable_eq _, RG.stable_eq _, RG.stable_eq _, RG.stable_eq _, RG.stable_eq _, RG.stable_eq _, RG.stable_eq _, RG.stable_eq _, RG.stable_eq _, RG.stable_eq _, RG.stable_eq _, RG.stable_eq _, RG.stable_eq _, RG.stable_eq _, RG.stable_eq _, RG.stable_eq _, trivial⟩ ?_ ?_
                  · refine ⟨?_, ?_, ?_, ?_, ?_, ?_, ?_, ?_, ?_, ?_, ?_, ?_, ?_, ?_, ?_, ?_, ?_, ?_, trivial⟩
                    · intro a w9 hw ho hk
                      refine .inl ⟨by rfl, ?_⟩
                      have t2 := ho 19 rfl
                      dsimp at t2
                      try with_reducible replace hw := New.undrawN hw
                      try with_reducible replace hw := New.undraw hw
                      obtain ⟨c, f'⟩ := hw.rules
                      go_simp
                      exact New.refl _
                    · intro a w9 hw ho hk
                      refine .inl ⟨by rfl, ?_⟩
                      have t2 := ho 13 rfl
                      dsimp at t2
                      try with_reducible replace hw := New.undrawN hw
                      try with_reducible replace hw := New.undraw hw
                      obtain ⟨c, f'⟩ := hw.rules
                      go_simp
                      exact New.refl _
                    · intro a w9 hw ho hk
                      refine .inl ⟨by rfl, ?_⟩
                      have t2 := ho 11 rfl
                      dsimp at t2
                      try with_reducible replace hw := New.undrawN hw
                      try with_reducible replace hw := New.undraw hw
                      obtain ⟨c, f'⟩ := hw.rules
                      go_simp
                      exact New.refl _
                    · intro a w9 hw ho hk
                      refine .inl ⟨by rfl, ?_⟩
                      have t130 : a.tmps[130]?.getD undef = .slice (some ⟨nb, nof, none⟩) N.length k6 := hk 2 130 (by kernel_rfl) rfl
                      go_simp
                      exact New.refl _
                    · intro a w9 hw ho hk
                      refine .inl ⟨by rfl, ?_⟩
                      have t129 : a.tmps[129]?.getD undef = .int .i64 at' := hk 1 129 (by kernel_rfl) rfl
                      have t131 : a.tmps[131]?.getD undef = .int .i64 N.length := hk 3 131 (by kernel_rfl) rfl
                      go_simp
                      exact New.refl _
                    · intro a w9 hw ho hk
                      refine .inl ⟨by rfl, ?_⟩
                      have t132 : a.tmps[132]?.getD undef = .bool true := hk 4 132 (by kernel_rfl) rfl
                      go_simp
                      exact New.refl _
                    · intro a w9 hw ho hk
                      have t133 : a.tmps[133]?.getD undef = .bool true := hk 5 133 (by kernel_rfl) rfl
                      refine .inl ⟨by simp [Region.wanted, yielded, RG.look t133], ?_⟩
                      have t2 := ho 11 rfl
                      dsimp at t2
                      try with_reducible replace hw := New.undrawN hw
                      try with_reducible replace hw := New.undraw hw
                      obtain ⟨c, f'⟩ := hw.rules
                      go_simp
                      exact New.refl _
                    · intro a w9 hw ho hk
                      have t133 : a.tmps[133]?.getD undef = .bool true := hk 5 133 (by kernel_rfl) rfl
                      refine .inl ⟨by simp [Region.wanted, yielded, RG.look t133], ?_⟩
                      have t2 := ho 13 rfl
                      dsimp at t2
                      try with_reducible replace hw := New.undrawN hw
                      try with_reducible replace hw := New.undraw hw
                      obtain ⟨c, f'⟩ := hw.rules
                      go_simp
                      exact New.refl _
                    · intro a w9 hw ho hk
                      have t133 : a.tmps[133]?.getD undef = .bool true := hk 5 133 (by kernel_rfl) rfl
                      refine .inl ⟨by simp [Region.wanted, yielded, RG.look t133], ?_⟩
                      have t134 : a.tmps[134]?.getD undef = .slice (some ⟨nb, nof, none⟩) N.length k6 := hk 6 134 (by kernel_rfl) rfl
                      have t135 : a.tmps[135]?.getD undef = .int .i64 at' := hk 7 135 (by kernel_rfl) rfl
                      go_simp
                      exact New.refl _
                    · intro a w9 hw ho hk
                      have t133 : a.tmps[133]?.getD undef = .bool true := hk 5 133 (by kernel_rfl) rfl
                      refine .inl ⟨by simp [Region.wanted, yielded, RG.look t133], ?_⟩
                      have t136 : a.tmps[136]?.getD undef = .pointer (some ⟨nb, nof + at', none⟩) := hk 8 136 (by kernel_rfl) rfl
                      try with_reducible replace hw := New.undrawN hw
                      try with_reducible replace hw := New.undraw hw
                      obtain ⟨c, f'⟩ := hw.rules
                      go_simp
                      exact New.refl _
                    · intro a w9 hw ho hk
                      have t133 : a.tmps[133]?.getD undef = .bool true := hk 5 133 (by kernel_rfl) rfl
                      refine .inl ⟨by simp [Region.wanted, yielded, RG.look t133], ?_⟩
                      have t2 := ho 3 rfl
                      dsimp at t2
                      try with_reducible replace hw := New.undrawN hw
                      try with_reducible replace hw := New.undraw hw
                      obtain ⟨c, f'⟩ := hw.rules
                      go_simp
                      exact New.refl _
                    · intro a w9 hw ho hk
                      have t133 : a.tmps[133]?.getD undef = .bool true := hk 5 133 (by kernel_rfl) rfl
                      refine .inl ⟨by simp [Region.wanted, yielded, RG.look t133], ?_⟩
                      have t138 : a.tmps[138]?.getD undef = .pointer (some ⟨w1.heap.size, 2, none⟩) := hk 10 138 (by kernel_rfl) rfl
                      try with_reducible replace hw := New.undrawN hw
                      try with_reducible replace hw := New.undraw hw
                      obtain ⟨c, f'⟩ := hw.rules
                      go_simp
                      exact New.refl _
                    · intro a w9 hw ho hk
                      have t133 : a.tmps[133]?.getD undef = .bool true := hk 5 133 (by kernel_rfl) rfl
                      refine .inl ⟨by simp [Region.wanted, yielded, RG.look t133], ?_⟩
                      have t2 := ho 14 rfl
                      dsimp at t2
                      try with_reducible replace hw := New.undrawN hw
                      try with_reducible replace hw := New.undraw hw
                      obtain ⟨c, f'⟩ := hw.rules
                      go_simp
                      exact New.refl _
                    · intro a w9 hw ho hk
                      have t133 : a.tmps[133]?.getD undef = .bool true := hk 5 133 (by kernel_rfl) rfl
                      refine .inl ⟨by simp [Region.wanted, yielded, RG.look t133], ?_⟩
                      have t139 : a.tmps[139]?.getD undef = .slice (some ⟨b, off, none⟩) p.vars.length qd := hk 11 139 (by kernel_rfl) rfl
                      have t140 : a.tmps[140]?.getD undef = .int .i64 k := hk 12 140 (by kernel_rfl) rfl
                      go_simp
                      exact New.refl _
                    · intro a w9 hw ho hk
                      have t133 : a.tmps[133]?.getD undef = .bool true := hk 5 133 (by kernel_rfl) rfl
                      refine .inl ⟨by simp [Region.wanted, yielded, RG.look t133], ?_⟩
                      have t141 : a.tmps[141]?.getD undef = .pointer (some ⟨b, off + k, none⟩) := hk 13 141 (by kernel_rfl) rfl
                      try with_reducible replace hw := New.undrawN hw
                      try with_reducible replace hw := New.undraw hw
                      obtain ⟨c, f'⟩ := hw.rules
                      go_simp
                      exact New.refl _
                    · intro a w9 hw ho hk
                      have t133 : a.tmps[133]?.getD undef = .bool true := hk 5 133 (by kernel_rfl) rfl
                      refine .inl ⟨by simp [Region.wanted, yielded, RG.look t133], ?_⟩
                      have t137 : a.tmps[137]?.getD undef = .string y := hk 9 137 (by kernel_rfl) rfl
                      have t142 : a.tmps[142]?.getD undef = .string x := hk 14 142 (by kernel_rfl) rfl
                      go_simp
                      exact New.refl _
                    · intro a w9 hw ho hk
                      refine .inl ⟨by rfl, ?_⟩
                      have t133 : a.tmps[133]?.getD undef = .bool true := hk 5 133 (by kernel_rfl) rfl
                      have t143 : a.tmps[143]?.getD undef = .bool false := hk 15 143 (by kernel_rfl) rfl
                      go_simp
                      exact New.refl _
                    · intro a w9 hw ho hk
                      refine .inl ⟨by rfl, ?_⟩
                      have t128 : a.tmps[128]?.getD undef = .bool false := hk 0 128 (by kernel_rfl) rfl
                      have t144 : a.tmps[144]?.getD undef = .bool false := hk 16 144 (by kernel_rfl) rfl
                      go_simp
                      exact New.refl _
                  intro w10 b10
                  rintro _ rfl _ rfl _ rfl _ rfl _ rfl _ rfl _ rfl _ rfl _ rfl _ rfl _ rfl _ rfl _ rfl _ rfl _ rfl _ rfl _ rfl _ rfl
                  try with_reducible replace b10 := New.undrawN b10
                  try with_reducible replace b10 := New.undraw b10
                  obtain ⟨c10, f10⟩ := b10.rules
                  have z10 := b10.size
                  try simp only [World.size_alloc, World.size_drew, World.heap_drewN, World.size_setCell] at z10
                  have z10_0 : w1.heap.size < w10.heap.size := by omega
                  have z10_1 : b < w10.heap.size := by omega
                  simp only [RG.EndAll, List.nil_append, List.cons_append, List.length_cons, List.length_nil, Nat.zero_add, Nat.reduceAdd, List.take_succ_cons, List.take_zero, List.drop_succ_cons, List.drop_zero, RG.putAll, Act.put, List.setIfInBounds_toArray, List.set_cons_succ, List.set_cons_zero]
                  go_wp2_with fail
                  go_roundw
                  case rel => exact ⟨at', k + 1, by omega, by go_num, by go_num, by omega, Lib.hid hst2, ((hb.trans b8).trans b9).trans b10⟩
                  case measure => simp [intOf]; omega
                · skip
                  refine RG.wp_facts [fun X _ => X = .bool false, fun X _ => X = .int .i64 at', fun X _ => X = .slice a6 N.length k6, fun X _ => X = .int .i64 N.length, fun X _ => X = .bool false, fun X _ => X = .bool false, fun X _ => X = undef, fun X _ => X = undef, fun X _ => X = undef, fun X _ => X = undef, fun X _ => X = undef, fun X _ => X = undef, fun X _ => X = undef, fun X _ => X = undef, fun X _ => X = undef, fun X _ => X = undef, fun X _ => X = .bool false, fun X _ => X = .bool false] (by kernel_rfl) (by kernel_rfl) ⟨RG.stable_eq _, RG.stable_eq _, RG.stable_eq _, RG.stable_eq _, RG.stable_eq _, RG.stable_eq _, RG.stable_eq _, RG.stable_eq _, RG.stable_eq _, RG.stable_eq _, RG.stable_eq _, RG.stable_eq _, RG.stable_eq _, RG.stable_eq _, RG.stable_eq _, RG.stable_eq _, RG.stable_eq _, RG.stable_eq _, trivial⟩ ?_ ?_
                  · refine ⟨?_, ?_, ?_, ?_, ?_, ?_, ?_, ?_, ?_, ?_, ?_, ?_, ?_, ?_, ?_, ?_, ?_, ?_, trivial⟩
                    · intro a w9 hw ho hk
                      refine .inl ⟨by rfl, ?_⟩
                      have t2 := ho 19 rfl
                      dsimp at t2
                      try with_reducible replace hw := New.undrawN hw
                      try with_reducible replace hw := New.undraw hw
                      obtain ⟨c, f'⟩ := hw.rules
                      go_simp
                      exact New.refl _
                    · intro a w9 hw ho hk
                      refine .inl ⟨by rfl, ?_⟩
                      have t2 := ho 13 rfl
                      dsimp at t2
                      try with_reducible replace hw := New.undrawN hw
                      try with_reducible replace hw := New.undraw hw
                      obtain ⟨c, f'⟩ := hw.rules
                      go_simp
                      exact New.refl _
                    · intro a w9 hw ho hk
                      refine .inl ⟨by rfl, ?_⟩
                      have t2 := ho 11 rfl
                      dsimp at t2
                      try with_reducible replace hw := New.undrawN hw
                      try with_reducible replace hw := New.undraw hw
                      obtain ⟨c, f'⟩ := hw.rules
                      go_simp
                      exact New.refl _
                    · intro a w9 hw ho hk
                      refine .inl ⟨by rfl, ?_⟩
                      have t130 : a.tmps[130]?.getD undef = .slice a6 N.length k6 := hk 2 130 (by kernel_rfl) rfl
                      go_simp
                      exact New.refl _
                    · intro a w9 hw ho hk
                      refine .inl ⟨by rfl, ?_⟩
                      have t129 : a.tmps[129]?.getD undef = .int .i64 at' := hk 1 129 (by kernel_rfl) rfl
                      have t131 : a.tmps[131]?.getD undef = .int .i64 N.length := hk 3 131 (by kernel_rfl) rfl
                      go_simp
                      exact New.refl _
                    · intro a w9 hw ho hk
                      refine .inl ⟨by rfl, ?_⟩
                      have t132 : a.tmps[132]?.getD undef = .bool false := hk 4 132 (by kernel_rfl) rfl
                      go_simp
                      exact New.refl _
                    · intro a w9 hw ho hk
                      have t133 : a.tmps[133]?.getD undef = .bool false := hk 5 133 (by kernel_rfl) rfl
                      exact .inr ⟨by simp [Region.wanted, yielded, RG.look t133], rfl⟩
                    · intro a w9 hw ho hk
                      have t133 : a.tmps[133]?.getD undef = .bool false := hk 5 133 (by kernel_rfl) rfl
                      exact .inr ⟨by simp [Region.wanted, yielded, RG.look t133], rfl⟩
                    · intro a w9 hw ho hk
                      have t133 : a.tmps[133]?.getD undef = .bool false := hk 5 133 (by kernel_rfl) rfl
                      exact .inr ⟨by simp [Region.wanted, yielded, RG.look t133], rfl⟩
                    · intro a w9 hw ho hk
                      have t133 : a.tmps[133]?.getD undef = .bool false := hk 5 133 (by kernel_rfl) rfl
                      exact .inr ⟨by simp [Region.wanted, yielded, RG.look t133], rfl⟩
                    · intro a w9 hw ho hk
                      have t133 : a.tmps[133]?.getD undef = .bool false := hk 5 133 (by kernel_rfl) rfl
                      exact .inr ⟨by simp [Region.wanted, yielded, RG.look t133], rfl⟩
                    · intro a w9 hw ho hk
                      have t133 : a.tmps[133]?.getD undef = .bool false := hk 5 133 (by kernel_rfl) rfl
                      exact .inr ⟨by simp [Region.wanted, yielded, RG.look t133], rfl⟩
                    · intro a w9 hw ho hk
                      have t133 : a.tmps[133]?.getD undef = .bool false := hk 5 133 (by kernel_rfl) rfl
                      exact .inr ⟨by simp [Region.wanted, yielded, RG.look t133], rfl⟩
                    · intro a w9 hw ho hk
                      have t133 : a.tmps[133]?.getD undef = .bool false := hk 5 133 (by kernel_rfl) rfl
                      exact .inr ⟨by simp [Region.wanted, yielded, RG.look t133], rfl⟩
                    · intro a w9 hw ho hk
                      have t133 : a.tmps[133]?.getD undef = .bool false := hk 5 133 (by kernel_rfl) rfl
                      exact .inr ⟨by simp [Region.wanted, yielded, RG.look t133], rfl⟩
                    · intro a w9 hw ho hk
                      have t133 : a.tmps[133]?.getD undef = .bool false := hk 5 133 (by kernel_rfl) rfl
                      exact .inr ⟨by simp [Region.wanted, yielded, RG.look t133], rfl⟩
                    · intro a w9 hw ho hk
                      refine .inl ⟨by rfl, ?_⟩
                      have t133 : a.tmps[133]?.getD undef = .bool false := hk 5 133 (by kernel_rfl) rfl
                      go_simp
                      exact New.refl _
                    · intro a w9 hw ho hk
                      refine .inl ⟨by rfl, ?_⟩
                      have t128 : a.tmps[128]?.getD undef = .bool false := hk 0 128 (by kernel_rfl) rfl
                      have t144 : a.tmps[144]?.getD undef = .bool false := hk 16 144 (by kernel_rfl) rfl
                      go_simp
                      exact New.refl _
                  intro w10 b10
                  rintro _ rfl _ rfl _ rfl _ rfl _ rfl _ rfl _ rfl _ rfl _ rfl _ rfl _ rfl _ rfl _ rfl _ rfl _ rfl _ rfl _ rfl _ rfl
                  try with_reducible replace b10 := New.undrawN b10
                  try with_reducible replace b10 := New.undraw b10
                  obtain ⟨c10, f10⟩ := b10.rules
                  have z10 := b10.size
                  try simp only [World.size_alloc, World.size_drew, World.heap_drewN, World.size_setCell] at z10
                  have z10_0 : w1.heap.size < w10.heap.size := by omega
                  have z10_1 : b < w10.heap.size := by omega
                  simp only [RG.EndAll, List.nil_append, List.cons_append, List.length_cons, List.length_nil, Nat.zero_add, Nat.reduceAdd, List.take_succ_cons, List.take_zero, List.drop_succ_cons, List.drop_zero, RG.putAll, Act.put, List.setIfInBounds_toArray, List.set_cons_succ, List.set_cons_zero]
                  go_wp2_with fail
                  go_roundw
                  case rel => exact ⟨at', k + 1, by omega, by go_num, by go_num, by omega, Lib.hid hst2, ((hb.trans b8).trans b9).trans b10⟩
                  case measure => simp [intOf]; omega
            · have hn0 : 0 < n := by rw [← hn]; simp
              clear hn
              obtain ⟨ub, uo, rfl, hubl, hu0⟩ := HU.out w9 (New.refl _) 0 (by simp)
              have hu1 : w9.cell? ⟨ub, uo, none⟩ = some (.int .i64 u) := by simpa using hu0
              replace hu0 : w9.cell? ⟨ub, uo + 0, none⟩ = some (.int .i64 u) := by simpa using hu0
              by_cases hu : u ≤ L
              · rw [decide_eq_true hu] at hr
                rcases HAT.out with ⟨_, ha, hxe, hst2⟩ | ⟨ht, _⟩
                · obtain ⟨nb, nof, rfl, hnl, hy⟩ := HNR.out w9 N69 at' ha
                  have hnb9 : nb < w9.heap.size := Nat.lt_of_lt_of_le hnl N69.size
                  rw [hxe] at hy
                  obtain ⟨y, hyx⟩ : ∃ y, y = x := ⟨_, rfl⟩
                  rw [← hyx] at hy
                  go_wp2_with fail
                  try rw [decide_eq_true hu]
                  subst hyx
                  have kv9 : w9.cell? ⟨w1.heap.size, 2, none⟩ = some (.slice (some ⟨b, off, none⟩) p.vars.length qd) := by rw [(KP6.new N69).rules.1]; rfl
                  have hx9 : w9.cell? ⟨b, off + k, none⟩ = some (.string y) := (New.cell (b8.trans b9) hbw).trans hx
                  refine RG.wp_facts [fun X _ => X = .bool true, fun X _ => X = .int .i64 at', fun X _ => X = .slice (some ⟨nb, nof, none⟩) N.length k6, fun X _ => X = .int .i64 N.length, fun X _ => X = .bool true, fun X _ => X = .bool true, fun X _ => X = .slice (some ⟨nb, nof, none⟩) N.length k6, fun X _ => X = .int .i64 at', fun X _ => X = .pointer (some ⟨nb, nof + at', none⟩), fun X _ => X = .string y, fun X _ => X = .pointer (some ⟨w1.heap.size, 2, none⟩), fun X _ => X = .slice (some ⟨b, off, none⟩) p.vars.length qd, fun X _ => X = .int .i64 k, fun X _ => X = .pointer (some ⟨b, off + k, none⟩), fun X _ => X = .string y, fun X _ => X = .bool true, fun X _ => X = .bool true, fun X _ => X = .bool false] (by kernel_rfl) (by kernel_rfl) ⟨RG.stable_eq _, RG.stable_eq _, RG.stable_eq _, RG.stable_eq _, RG.stable_eq _, RG.stable_eq _, RG.stable_eq _, RG.stable_eq _, RG.stable_eq _, RG.stable_eq _, RG.stable_eq _, RG.stable_eq _, RG.stable_eq _, RG.stable_eq _, RG.stable_eq _, RG.stable_eq _, RG.stable_eq _, RG.stable_eq _, trivial⟩ ?_ ?_
                  · refine ⟨?_, ?_, ?_, ?_, ?_, ?_, ?_, ?_, ?_, ?_, ?_, ?_, ?_, ?_, ?_, ?_, ?_, ?_, trivial⟩
                    · intro a w9 hw ho hk
                      refine .inl ⟨by rfl, ?_⟩
                      have t2 := ho 19 rfl
                      dsimp at t2
                      try with_reducible replace hw := New.undrawN hw
                      try with_reducible replace hw := New.undraw hw
                      obtain ⟨c, f'⟩ := hw.rules
                      go_simp
                      exact New.refl _
                    · intro a w9 hw ho hk
                      refine .inl ⟨by rfl, ?_⟩
                      have t2 := ho 13 rfl
                      dsimp at t2
                      try with_reducible replace hw := New.undrawN hw
                      try with_reducible replace hw := New.undraw hw
                      obtain ⟨c, f'⟩ := hw.rules
                      go_simp
                      exact New.refl _
                    · intro a w9 hw ho hk
                      refine .inl ⟨by rfl, ?_⟩
                      have t2 := ho 11 rfl
                      dsimp at t2
                      try with_reducible replace hw := New.undrawN hw
                      try with_reducible replace hw := New.undraw hw
                      obtain ⟨c, f'⟩ := hw.rules
                      go_simp
                      exact New.refl _
                    · intro a w9 hw ho hk
                      refine .inl ⟨by rfl, ?_⟩
                      have t130 : a.tmps[130]?.getD undef = .slice (some ⟨nb, nof, none⟩) N.length k6 := hk 2 130 (by kernel_rfl) rfl
                      go_simp
                      exact New.refl _
                    · intro a w9 hw ho hk
                      refine .inl ⟨by rfl, ?_⟩
                      have t129 : a.tmps[129]?.getD undef = .int .i64 at' := hk 1 129 (by kernel_rfl) rfl
                      have t131 : a.tmps[131]?.getD undef = .int .i64 N.length := hk 3 131 (by kernel_rfl) rfl
                      go_simp
                      exact New.refl _
                    · intro a w9 hw ho hk
                      refine .inl ⟨by rfl, ?_⟩
                      have t132 : a.tmps[132]?.getD undef = .bool true := hk 4 132 (by kernel_rfl) rfl
                      go_simp
                      exact New.refl _
                    · intro a w9 hw ho hk
                      have t133 : a.tmps[133]?.getD undef = .bool true := hk 5 133 (by kernel_rfl) rfl
                      refine .inl ⟨by simp [Region.wanted, yielded, RG.look t133], ?_⟩
                      have t2 := ho 11 rfl
                      dsimp at t2
                      try with_reducible replace hw := New.undrawN hw
                      try with_reducible replace hw := New.undraw hw
                      obtain ⟨c, f'⟩ := hw.rules
                      go_simp
                      exact New.refl _
                    · intro a w9 hw ho hk
                      have t133 : a.tmps[133]?.getD undef = .bool true := hk 5 133 (by kernel_rfl) rfl
                      refine .inl ⟨by simp [Region.wanted, yielded, RG.look t133], ?_⟩
                      have t2 := ho 13 rfl
                      dsimp at t2
                      try with_reducible replace hw := New.undrawN hw
                      try with_reducible replace hw := New.undraw hw
                      obtain ⟨c, f'⟩ := hw.rules
                      go_simp
                      exact New.refl _
                    · intro a w9 hw ho hk
                      have t133 : a.tmps[133]?.getD undef = .bool true := hk 5 133 (by kernel_rfl) rfl
                      refine .inl ⟨by simp [Region.wanted, yielded, RG.look t133], ?_⟩
                      have t134 : a.tmps[134]?.getD undef = .slice (some ⟨nb, nof, none⟩) N.length k6 := hk 6 134 (by kernel_rfl) rfl
                      have t135 : a.tmps[135]?.getD undef = .int .i64 at' := hk 7 135 (by kernel_rfl) rfl
                      go_simp
                      exact New.refl _
                    · intro a w9 hw ho hk
                      have t133 : a.tmps[133]?.getD undef = .bool true := hk 5 133 (by kernel_rfl) rfl
                      refine .inl ⟨by simp [Region.wanted, yielded, RG.look t133], ?_⟩
                      have t136 : a.tmps[136]?.getD undef = .pointer (some ⟨nb, nof + at', none⟩) := hk 8 136 (by kernel_rfl) rfl
                      try with_reducible replace hw := New.undrawN hw
                      try with_reducible replace hw := New.undraw hw
                      obtain ⟨c, f'⟩ := hw.rules
                      go_simp
                      exact New.refl _
                    · intro a w9 hw ho hk
                      have t133 : a.tmps[133]?.getD undef = .bool true := hk 5 133 (by kernel_rfl) rfl
                      refine .inl ⟨by simp [Region.wanted, yielded, RG.look t133], ?_⟩
                      have t2 := ho 3 rfl
                      dsimp at t2
                      try with_reducible replace hw := New.undrawN hw
                      try with_reducible replace hw := New.undraw hw
                      obtain ⟨c, f'⟩ := hw.rules
                      go_simp
                      exact New.refl _
                    · intro a w9 hw ho hk
                      have t133 : a.tmps[133]?.getD undef = .bool true := hk 5 133 (by kernel_rfl) rfl
                      refine .inl ⟨by simp [Region.wanted, yielded, RG.look t133], ?_⟩
                      have t138 : a.tmps[138]?.getD undef = .pointer (some ⟨w1.heap.size, 2, none⟩) := hk 10 138 (by kernel_rfl) rfl
                      try with_reducible replace hw := New.undrawN hw
                      try with_reducible replace hw := New.undraw hw
                      obtain ⟨c, f'⟩ := hw.rules
                      go_simp
                      exact New.refl _
                    · intro a w9 hw ho hk
                      have t133 : a.tmps[133]?.getD undef = .bool true := hk 5 133 (by kernel_rfl) rfl
                      refine .inl ⟨by simp [Region.wanted, yielded, RG.look t133], ?_⟩
                      have t2 := ho 14 rfl
                      dsimp at t2
                      try with_reducible replace hw := New.undrawN hw
                      try with_reducible replace hw := New.undraw hw
                      obtain ⟨c, f'⟩ := hw.rules
                      go_simp
                      exact New.refl _
                    · intro a w9 hw ho hk
                      have t133 : a.tmps[133]?.getD undef = .bool true := hk 5 133 (by kernel_rfl) rfl
                      refine .inl ⟨by simp [Region.wanted, yielded, RG.look t133], ?_⟩
                      have t139 : a.tmps[139]?.getD undef = .slice (some ⟨b, off, none⟩) p.vars.length qd := hk 11 139 (by kernel_rfl) rfl
                      have t140 : a.tmps[140]?.getD undef = .int .i64 k := hk 12 140 (by kernel_rfl) rfl
                      go_simp
                      exact New.refl _
                    · intro a w9 hw ho hk
                      have t133 : a.tmps[133]?.getD undef = .bool true := hk 5 133 (by kernel_rfl) rfl
                      refine .inl ⟨by simp [Region.wanted, yielded, RG.look t133], ?_⟩
                      have t141 : a.tmps[141]?.getD undef = .pointer (some ⟨b, off + k, none⟩) := hk 13 141 (by kernel_rfl) rfl
                      try with_reducible replace hw := New.undrawN hw
                      try with_reducible replace hw := New.undraw hw
                      obtain ⟨c, f'⟩ := hw.rules
                      go_simp
                      exact New.refl _
                    · intro a w9 hw ho hk
                      have t133 : a.tmps[133]?.getD undef = .bool true := hk 5 133 (by kernel_rfl) rfl
                      refine .inl ⟨by simp [Region.wanted, yielded, RG.look t133], ?_⟩
                      have t137 : a.tmps[137]?.getD undef = .string y := hk 9 137 (by kernel_rfl) rfl
                      have t142 : a.tmps[142]?.getD undef = .string y := hk 14 142 (by kernel_rfl) rfl
                      go_simp
                      exact New.refl _
                    · intro a w9 hw ho hk
                      refine .inl ⟨by rfl, ?_⟩
                      have t133 : a.tmps[133]?.getD undef = .bool true := hk 5 133 (by kernel_rfl) rfl
                      have t143 : a.tmps[143]?.getD undef = .bool true := hk 15 143 (by kernel_rfl) rfl
                      go_simp
                      exact New.refl _
                    · intro a w9 hw ho hk
                      refine .inl ⟨by rfl, ?_⟩
                      have t128 : a.tmps[128]?.getD undef = .bool true := hk 0 128 (by kernel_rfl) rfl
                      have t144 : a.tmps[144]?.getD undef = .bool true := hk 16 144 (by kernel_rfl) rfl
                      go_simp
                      exact New.refl _
                  intro w10 b10
                  rintro _ rfl _ rfl _ rfl _ rfl _ rfl _ rfl _ rfl _ rfl _ rfl _ rfl _ rfl _ rfl _ rfl _ rfl _ rfl _ rfl _ rfl _ rfl
                  try with_reducible replace b10 := New.undrawN b10
                  try with_reducible replace b10 := New.undraw b10
                  obtain ⟨c10, f10⟩ := b10.rules
                  have z10 := b10.size
                  try simp only [World.size_alloc, World.size_drew, World.heap_drewN, World.size_setCell] at z10
                  have z10_0 : w1.heap.size < w10.heap.size := by omega
                  have z10_1 : b < w10.heap.size := by omega
                  simp only [RG.EndAll, List.nil_append, List.cons_append, List.length_cons, List.length_nil, Nat.zero_add, Nat.reduceAdd, List.take_succ_cons, List.take_zero, List.drop_succ_cons, List.drop_zero, RG.putAll, Act.put, List.setIfInBounds_toArray, List.set_cons_succ, List.set_cons_zero]
                  go_wp2_with fail
                  go_roundw
                  case rel => exact ⟨at' + 1, k + 1, by omega, by go_num, by go_num, by omega, Lib.hid hst2, ((hb.trans b8).trans b9).trans b10⟩
                  case measure => simp [intOf]; omega
                · rw [hr] at ht; cases ht
              · rw [decide_eq_false hu] at hr
                rcases HAT.out with ⟨ht, _⟩ | ⟨_, hne, hst2⟩
                · rw [hr] at ht; cases ht
                · go_wp2_with fail
                  try rw [decide_eq_false hu]
                  by_cases ha : at' < N.length
                  · have hne := hne ha
                    obtain ⟨nb, nof, rfl, hnl, hy⟩ := HNR.out w9 N69 at' ha
                    have hnb9 : nb < w9.heap.size := Nat.lt_of_lt_of_le hnl N69.size
                    generalize N[at'] = y at hne hy
                    have kv9 : w9.cell? ⟨w1.heap.size, 2, none⟩ = some (.slice (some ⟨b, off, none⟩) p.vars.length qd) := by rw [(KP6.new N69).rules.1]; rfl
                    have hx9 : w9.cell? ⟨b, off + k, none⟩ = some (.string x) := (New.cell (b8.trans b9) hbw).trans hx
                    refine RG.wp_facts [fun X _ => X = .bool false, fun X _ => X = .int .i64 at', fun X _ => X = .slice (some ⟨nb, nof, none⟩) N.length k6, fun X _ => X = .int .i64 N.length, fun X _ => X = .bool true, fun X _ => X = .bool true, fun X _ => X = .slice (some ⟨nb, nof, none⟩) N.length k6, fun X _ => X = .int .i64 at', fun X _ => X = .pointer (some ⟨nb, nof + at', none⟩), fun X _ => X = .string y, fun X _ => X = .pointer (some ⟨w1.heap.size, 2, none⟩), fun X _ => X = .slice (some ⟨b, off, none⟩) p.vars.length qd, fun X _ => X = .int .i64 k, fun X _ => X = .pointer (some ⟨b, off + k, none⟩), fun X _ => X = .string x, fun X _ => X = .bool false, fun X _ => X = .bool false, fun X _ => X = .bool false] (by kernel_rfl) (by kernel_rfl) ⟨RG.stable_eq _, RG.stable_eq _, RG.stable_eq _, RG.stable_eq _, RG.stable_eq _, RG.stable_eq _, RG.stable_eq _, RG.stable_eq _, RG.stable_eq _, RG.stable_eq _, RG.stable_eq _, RG.stable_eq _, RG.stable_eq _, RG.stable_eq _, RG.stable_eq _, RG.stable_eq _, RG.stable_eq _, RG.stable_eq _, trivial⟩ ?_ ?_
                    · refine ⟨?_, ?_, ?_, ?_, ?_, ?_, ?_, ?_, ?_, ?_, ?_, ?_, ?_, ?_, ?_, ?_, ?_, ?_, trivial⟩
                      · intro a w9 hw ho hk
                        refine .inl ⟨by rfl, ?_⟩
                        have t2 := ho 19 rfl
                        dsimp at t2
                        try with_reducible replace hw := New.undrawN hw
                        try with_reducible replace hw := New.undraw hw
                        obtain ⟨c, f'⟩ := hw.rules
                        go_simp
                        exact New.refl _
                      · intro a w9 hw ho hk
                        refine .inl ⟨by rfl, ?_⟩
                        have t2 := ho 13 rfl
                        dsimp at t2
                        try with_reducible replace hw := New.undrawN hw
                        try with_reducible replace hw := New.undraw hw
                        obtain ⟨c, f'⟩ := hw.rules
                        go_simp
                        exact New.refl _
                      · intro a w9 hw ho hk
                        refine .inl ⟨by rfl, ?_⟩
                        have t2 := ho 11 rfl
                        dsimp at t2
                        try with_reducible replace hw := New.undrawN hw
                        try with_reducible replace hw := New.undraw hw
                        obtain ⟨c, f'⟩ := hw.rules
                        go_simp
                        exact New.refl _
                      · intro a w9 hw ho hk
                        refine .inl ⟨by rfl, ?_⟩
                        have t130 : a.tmps[130]?.getD undef = .slice (some ⟨nb, nof, none⟩) N.length k6 := hk 2 130 (by kernel_rfl) rfl
                        go_simp
                        exact New.refl _
                      · intro a w9 hw ho hk
                        refine .inl ⟨by rfl, ?_⟩
                        have t129 : a.tmps[129]?.getD undef = .int .i64 at' := hk 1 129 (by kernel_rfl) rfl
                        have t131 : a.tmps[131]?.getD undef = .int .i64 N.length := hk 3 131 (by kernel_rfl) rfl
                        go_simp
                        exact New.refl _
                      · intro a w9 hw ho hk
                        refine .inl ⟨by rfl, ?_⟩
                        have t132 : a.tmps[132]?.getD undef = .bool true := hk 4 132 (by kernel_rfl) rfl
                        go_simp
                        exact New.refl _
                      · intro a w9 hw ho hk
                        have t133 : a.tmps[133]?.getD undef = .bool true := hk 5 133 (by kernel_rfl) rfl
                        refine .inl ⟨by simp [Region.wanted, yielded, RG.look t133], ?_⟩
                        have t2 := ho 11 rfl
                        dsimp at t2
                        try with_reducible replace hw := New.undrawN hw
                        try with_reducible replace hw := New.undraw hw
                        obtain ⟨c, f'⟩ := hw.rules
                        go_simp
                        exact New.refl _
                      · intro a w9 hw ho hk
                        have t133 : a.tmps[133]?.getD undef = .bool true := hk 5 133 (by kernel_rfl) rfl
                        refine .inl ⟨by simp [Region.wanted, yielded, RG.look t133], ?_⟩
                        have t2 := ho 13 rfl
                        dsimp at t2
                        try with_reducible replace hw := New.undrawN hw
                        try with_reducible replace hw := New.undraw hw
                        obtain ⟨c, f'⟩ := hw.rules
                        go_simp
                        exact New.refl _
                      · intro a w9 hw ho hk
                        have t133 : a.tmps[133]?.getD undef = .bool true := hk 5 133 (by kernel_rfl) rfl
                        refine .inl ⟨by simp [Region.wanted, yielded, RG.look t133], ?_⟩
                        have t134 : a.tmps[134]?.getD undef = .slice (some ⟨nb, nof, none⟩) N.length k6 := hk 6 134 (by kernel_rfl) rfl
                        have t135 : a.tmps[135]?.getD undef = .int .i64 at' := hk 7 135 (by kernel_rfl) rfl
                        go_simp
                        exact New.refl _
                      · intro a w9 hw ho hk
                        have t133 : a.tmps[133]?.getD undef = .bool true := hk 5 133 (by kernel_rfl) rfl
                        refine .inl ⟨by simp [Region.wanted, yielded, RG.look t133], ?_⟩
                        have t136 : a.tmps[136]?.getD undef = .pointer (some ⟨nb, nof + at', none⟩) := hk 8 136 (by kernel_rfl) rfl
                        try with_reducible replace hw := New.undrawN hw
                        try with_reducible replace hw := New.undraw hw
                        obtain ⟨c, f'⟩ := hw.rules
                        go_simp
                        exact New.refl _
                      · intro a w9 hw ho hk
                        have t133 : a.tmps[133]?.getD undef = .bool true := hk 5 133 (by kernel_rfl) rfl
                        refine .inl ⟨by simp [Region.wanted, yielded, RG.look t133], ?_⟩
                        have t2 := ho 3 rfl
                        dsimp at t2
                        try with_reducible replace hw := New.undrawN hw
                        try with_reducible replace hw := New.undraw hw
                        obtain ⟨c, f'⟩ := hw.rules
                        go_simp
                        exact New.refl _
                      · intro a w9 hw ho hk
                        have t133 : a.tmps[133]?.getD undef = .bool true := hk 5 133 (by kernel_rfl) rfl
                        refine .inl ⟨by simp [Region.wanted, yielded, RG.look t133], ?_⟩
                        have t138 : a.tmps[138]?.getD undef = .pointer (some ⟨w1.heap.size, 2, none⟩) := hk 10 138 (by kernel_rfl) rfl
                        try with_reducible replace hw := New.undrawN hw
                        try with_reducible replace hw := New.undraw hw
                        obtain ⟨c, f'⟩ := hw.rules
                        go_simp
                        exact New.refl _
                      · intro a w9 hw ho hk
                        have t133 : a.tmps[133]?.getD undef = .bool true := hk 5 133 (by kernel_rfl) rfl
                        refine .inl ⟨by simp [Region.wanted, yielded, RG.look t133], ?_⟩
                        have t2 := ho 14 rfl
                        dsimp at t2
                        try with_reducible replace hw := New.undrawN hw
                        try with_reducible replace hw := New.undraw hw
                        obtain ⟨c, f'⟩ := hw.rules
                        go_simp
                        exact New.refl _
                      · intro a w9 hw ho hk
                        have t133 : a.tmps[133]?.getD undef = .bool true := hk 5 133 (by kernel_rfl) rfl
                        refine .inl ⟨by simp [Region.wanted, yielded, RG.look t133], ?_⟩
                        have t139 : a.tmps[139]?.getD undef = .slice (some ⟨b, off, none⟩) p.vars.length qd := hk 11 139 (by kernel_rfl) rfl
                        have t140 : a.tmps[140]?.getD undef = .int .i64 k := hk 12 140 (by kernel_rfl) rfl
                        go_simp
                        exact New.refl _
                      · intro a w9 hw ho hk
                        have t133 : a.tmps[133]?.getD undef = .bool true := hk 5 133 (by kernel_rfl) rfl
                        refine .inl ⟨by simp [Region.wanted, yielded, RG.look t133], ?_⟩
                        have t141 : a.tmps[141]?.getD undef = .pointer (some ⟨b, off + k, none⟩) := hk 13 141 (by kernel_rfl) rfl
                        try with_reducible replace hw := New.undrawN hw
                        try with_reducible replace hw := New.undraw hw
                        obtain ⟨c, f'⟩ := hw.rules
                        go_simp
                        exact New.refl _
                      · intro a w9 hw ho hk
                        have t133 : a.tmps[133]?.getD undef = .bool true := hk 5 133 (by kernel_rfl) rfl
                        refine .inl ⟨by simp [Region.wanted, yielded, RG.look t133], ?_⟩
                        have t137 : a.tmps[137]?.getD undef = .string y := hk 9 137 (by kernel_rfl) rfl
                        have t142 : a.tmps[142]?.getD undef = .string x := hk 14 142 (by kernel_rfl) rfl
                        go_simp
                        exact New.refl _
                      · intro a w9 hw ho hk
                        refine .inl ⟨by rfl, ?_⟩
                        have t133 : a.tmps[133]?.getD undef = .bool true := hk 5 133 (by kernel_rfl) rfl
                        have t143 : a.tmps[143]?.getD undef = .bool false := hk 15 143 (by kernel_rfl) rfl
                        go_simp
                        exact New.refl _
                      · intro a w9 hw ho hk
                        refine .inl ⟨by rfl, ?_⟩
                        have t128 : a.tmps[128]?.getD undef = .bool false := hk 0 128 (by kernel_rfl) rfl
                        have t144 : a.tmps[144]?.getD undef = .bool false := hk 16 144 (by kernel_rfl) rfl
                        go_simp
                        exact New.refl _
                    intro w10 b10
                    rintro _ rfl _ rfl _ rfl _ rfl _ rfl _ rfl _ rfl _ rfl _ rfl _ rfl _ rfl _ rfl _ rfl _ rfl _ rfl _ rfl _ rfl _ rfl
                    try with_reducible replace b10 := New.undrawN b10
                    try with_reducible replace b10 := New.undraw b10
                    obtain ⟨c10, f10⟩ := b10.rules
                    have z10 := b10.size
                    try simp only [World.size_alloc, World.size_drew, World.heap_drewN, World.size_setCell] at z10
                    have z10_0 : w1.heap.size < w10.heap.size := by omega
                    have z10_1 : b < w10.heap.size := by omega
                    simp only [RG.EndAll, List.nil_append, List.cons_append, List.length_cons, List.length_nil, Nat.zero_add, Nat.reduceAdd, List.take_succ_cons, List.take_zero, List.drop_succ_cons, List.drop_zero, RG.putAll, Act.put, List.setIfInBounds_toArray, List.set_cons_succ, List.set_cons_zero]
                    go_wp2_with fail
                    go_roundw
                    case rel => exact ⟨at', k + 1, by omega, by go_num, by go_num, by omega, Lib.hid hst2, ((hb.trans b8).trans b9).trans b10⟩
                    case measure => simp [intOf]; omega
                  · skip
                    refine RG.wp_facts [fun X _ => X = .bool false, fun X _ => X = .int .i64 at', fun X _ => X = .slice a6 N.length k6, fun X _ => X = .int .i64 N.length, fun X _ => X = .bool false, fun X _ => X = .bool false, fun X _ => X = undef, fun X _ => X = undef, fun X _ => X = undef, fun X _ => X = undef, fun X _ => X = undef, fun X _ => X = undef, fun X _ => X = undef, fun X _ => X = undef, fun X _ => X = undef, fun X _ => X = undef, fun X _ => X = .bool false, fun X _ => X = .bool false] (by kernel_rfl) (by kernel_rfl) ⟨RG.stable_eq _, RG.stable_eq _, RG.stable_eq _, RG.stable_eq _, RG.stable_eq _, RG.stable_eq _, RG.stable_eq _, RG.stable_eq _, RG.stable_eq _, RG.stable_eq _, RG.stable_eq _, RG.stable_eq _, RG.stable_eq _, RG.stable_eq _, RG.stable_eq _, RG.stable_eq _, RG.stable_eq _, RG.stable_eq _, trivial⟩ ?_ ?_
                    · refine ⟨?_, ?_, ?_, ?_, ?_, ?_, ?_, ?_, ?_, ?_, ?_, ?_, ?_, ?_, ?_, ?_, ?_, ?_, trivial⟩
                      · intro a w9 hw ho hk
                        refine .inl ⟨by rfl, ?_⟩
                        have t2 := ho 19 rfl
                        dsimp at t2
                        try with_reducible replace hw := New.undrawN hw
                        try with_reducible replace hw := New.undraw hw
                        obtain ⟨c, f'⟩ := hw.rules
                        go_simp
                        exact New.refl _
                      · intro a w9 hw ho hk
                        refine .inl ⟨by rfl, ?_⟩
                        have t2 := ho 13 rfl
                        dsimp at t2
                        try with_reducible replace hw := New.undrawN hw
                        try with_reducible replace hw := New.undraw hw
                        obtain ⟨c, f'⟩ := hw.rules
                        go_simp
                        exact New.refl _
                      · intro a w9 hw ho hk
                        refine .inl ⟨by rfl, ?_⟩
                        have t2 := ho 11 rfl
                        dsimp at t2
                        try with_reducible replace hw := New.undrawN hw
                        try with_reducible replace hw := New.undraw hw
                        obtain ⟨c, f'⟩ := hw.rules
                        go_simp
                        exact New.refl _
                      · intro a w9 hw ho hk
                        refine .inl ⟨by rfl, ?_⟩
                        have t130 : a.tmps[130]?.getD undef = .slice a6 N.length k6 := hk 2 130 (by kernel_rfl) rfl
                        go_simp
                        exact New.refl _
                      · intro a w9 hw ho hk
                        refine .inl ⟨by rfl, ?_⟩
                        have t129 : a.tmps[129]?.getD undef = .int .i64 at' := hk 1 129 (by kernel_rfl) rfl
                        have t131 : a.tmps[131]?.getD undef = .int .i64 N.length := hk 3 131 (by kernel_rfl) rfl
                        go_simp
                        exact New.refl _
                      · intro a w9 hw ho hk
                        refine .inl ⟨by rfl, ?_⟩
                        have t132 : a.tmps[132]?.getD undef = .bool false := hk 4 132 (by kernel_rfl) rfl
                        go_simp
                        exact New.refl _
                      · intro a w9 hw ho hk
                        have t133 : a.tmps[133]?.getD undef = .bool false := hk 5 133 (by kernel_rfl) rfl
                        exact .inr ⟨by simp [Region.wanted, yielded, RG.look t133], rfl⟩
                      · intro a w9 hw ho hk
                        have t133 : a.tmps[133]?.getD undef = .bool false := hk 5 133 (by kernel_rfl) rfl
                        exact .inr ⟨by simp [Region.wanted, yielded, RG.look t133], rfl⟩
                      · intro a w9 hw ho hk
                        have t133 : a.tmps[133]?.getD undef = .bool false := hk 5 133 (by kernel_rfl) rfl
                        exact .inr ⟨by simp [Region.wanted, yielded, RG.look t133], rfl⟩
                      · intro a w9 hw ho hk
                        have t133 : a.tmps[133]?.getD undef = .bool false := hk 5 133 (by kernel_rfl) rfl
                        exact .inr ⟨by simp [Region.wanted, yielded, RG.look t133], rfl⟩
                      · intro a w9 hw ho hk
                        have t133 : a.tmps[133]?.getD undef = .bool false := hk 5 133 (by kernel_rfl) rfl
                        exact .inr ⟨by simp [Region.wanted, yielded, RG.look t133], rfl⟩
                      · intro a w9 hw ho hk
                        have t133 : a.tmps[133]?.getD undef = .bool false := hk 5 133 (by kernel_rfl) rfl
                        exact .inr ⟨by simp [Region.wanted, yielded, RG.look t133], rfl⟩
                      · intro a w9 hw ho hk
                        have t133 : a.tmps[133]?.getD undef = .bool false := hk 5 133 (by kernel_rfl) rfl
                        exact .inr ⟨by simp [Region.wanted, yielded, RG.look t133], rfl⟩
                      · intro a w9 hw ho hk
                        have t133 : a.tmps[133]?.getD undef = .bool false := hk 5 133 (by kernel_rfl) rfl
                        exact .inr ⟨by simp [Region.wanted, yielded, RG.look t133], rfl⟩
                      · intro a w9 hw ho hk
                        have t133 : a.tmps[133]?.getD undef = .bool false := hk 5 133 (by kernel_rfl) rfl
                        exact .inr ⟨by simp [Region.wanted, yielded, RG.look t133], rfl⟩
                      · intro a w9 hw ho hk
                        have t133 : a.tmps[133]?.getD undef = .bool false := hk 5 133 (by kernel_rfl) rfl
                        exact .inr ⟨by simp [Region.wanted, yielded, RG.look t133], rfl⟩
                      · intro a w9 hw ho hk
                        refine .inl ⟨by rfl, ?_⟩
                        have t133 : a.tmps[133]?.getD undef = .bool false := hk 5 133 (by kernel_rfl) rfl
                        go_simp
                        exact New.refl _
                      · intro a w9 hw ho hk
                        refine .inl ⟨by rfl, ?_⟩
                        have t128 : a.tmps[128]?.getD undef = .bool false := hk 0 128 (by kernel_rfl) rfl
                        have t144 : a.tmps[144]?.getD undef = .bool false := hk 16 144 (by kernel_rfl) rfl
                        go_simp
                        exact New.refl _
                    intro w10 b10
                    rintro _ rfl _ rfl _ rfl _ rfl _ rfl _ rfl _ rfl _ rfl _ rfl _ rfl _ rfl _ rfl _ rfl _ rfl _ rfl _ rfl _ rfl _ rfl
                    try with_reducible replace b10 := New.undrawN b10
                    try with_reducible replace b10 := New.undraw b10
                    obtain ⟨c10, f10⟩ := b10.rules
                    have z10 := b10.size
                    try simp only [World.size_alloc, World.size_drew, World.heap_drewN, World.size_setCell] at z10
                    have z10_0 : w1.heap.size < w10.heap.size := by omega
                    have z10_1 : b < w10.heap.size := by omega
                    simp only [RG.EndAll, List.nil_append, List.cons_append, List.length_cons, List.length_nil, Nat.zero_add, Nat.reduceAdd, List.take_succ_cons, List.take_zero, List.drop_succ_cons, List.drop_zero, RG.putAll, Act.put, List.setIfInBounds_toArray, List.set_cons_succ, List.set_cons_zero]
                    go_wp2_with fail
                    go_roundw
                    case rel => exact ⟨at', k + 1, by omega, by go_num, by go_num, by omega, Lib.hid hst2, ((hb.trans b8).trans b9).trans b10⟩
                    case measure => simp [intOf]; omega
          · obtain rfl : k = p.vars.length := by omega
            go_wp2_with fail
            go_ret
            exact ⟨rfl, Nwr⟩
      · go_wp2_with fail
        go_ret
        exact ⟨rfl, Nw6.trans b7⟩
      · go_wp2_with fail
        go_ret
        exact ⟨rfl, Nw6.trans b7⟩
    · rw [hsq] at HQS
      refine RG.wp_facts [fun X _ => X = .agg #[.string p.name, .slice qa p.inputs.length qc, .slice qv p.vars.length qd, .slice qo p.outputs.length qe, .string p.guard, .slice ql p.lines.length qf], fun X _ => X = .bool sp, fun X _ => X = .agg #[.string p.name, .slice qa p.inputs.length qc, .slice qv p.vars.length qd, .slice qo p.outputs.length qe, .string p.guard, .slice ql p.lines.length qf], fun X _ => X = .bool sp, fun X _ => X = .bool false, fun X _ => X = .bool false, fun X _ => X = .int .i64 1, fun X _ => X = .int .i64 1, fun X _ => X = .bool false, fun X _ => X = .bool false, fun X _ => X = .bool false, fun X _ => X = .int .i64 m, fun X _ => X = .int .i64 m, fun X _ => X = .bool false, fun X _ => X = .bool false, fun X _ => X = .bool false, fun X _ => X = .int .i64 d, fun X _ => X = .int .i64 d, fun X _ => X = .bool false, fun X _ => X = .bool false, fun X _ => X = .bool false, fun X _ => X = .slice a5 N.length k5, fun X _ => X = .slice a6 N.length k6, fun X _ => X = .bool true, fun X _ => X = .bool false, fun X _ => X = .bool false, fun X _ => X = .bool false, fun X _ => X = .agg #[.string q.name, .slice ra q.inputs.length rc, .slice rv q.vars.length rd, .slice ro q.outputs.length re, .string q.guard, .slice rl q.lines.length rf], fun X _ => X = .bool false, fun X _ => X = .int .i64 1, fun X _ => X = .bool false, fun X _ => X = .bool false, fun X _ => X = undef, fun X _ => X = undef, fun X _ => X = .bool false, fun X _ => X = .bool false, fun X _ => X = .bool false] (by kernel_rfl) (by kernel_rfl) ⟨RG.stable_eq _, RG.stable_eq _, RG.stable_eq _, RG.stable_eq _, RG.stable_eq _, RG.stable_eq _, RG.stable_eq _, RG.stable_eq _, RG.stable_eq _, RG.stable_eq _, RG.stable_eq _, RG.stable_eq _, RG.stable_eq _, RG.stable_eq _, RG.stable_eq _, RG.stable_eq _, RG.stable_eq _, RG.stable_eq _, RG.stable_eq _, RG.stable_eq _, RG.stable_eq _, RG.stable_eq _, RG.stable_eq _, RG.stable_eq _, RG.stable_eq _, RG.stable_eq _, RG.stable_eq _, RG.stable_eq _, RG.stable_eq _, RG.stable_eq _, RG.stable_eq _, RG.stable_eq _, RG.stable_eq _, RG.stable_eq _, RG.stable_eq _, RG.stable_eq _, RG.stable_eq _, trivial⟩ ?_ ?_
      · refine ⟨?_, ?_, ?_, ?_, ?_, ?_, ?_, ?_, ?_, ?_, ?_, ?_, ?_, ?_, ?_, ?_, ?_, ?_, ?_, ?_, ?_, ?_, ?_, ?_, ?_, ?_, ?_, ?_, ?_, ?_, ?_, ?_, ?_, ?_, ?_, ?_, ?_, trivial⟩
        · intro a w9 hw ho hk
          refine .inl ⟨by rfl, ?_⟩
          have t2 := ho 3 rfl
          dsimp at t2
          try with_reducible replace hw := New.undrawN hw
          try with_reducible replace hw := New.undraw hw
          obtain ⟨c, f'⟩ := hw.rules
          go_simp
          exact New.refl _
        · intro a w9 hw ho hk
          refine .inl ⟨by rfl, ?_⟩
          have t46 : a.tmps[46]?.getD undef = .agg #[.string p.name, .slice qa p.inputs.length qc, .slice qv p.vars.length qd, .slice qo p.outputs.length qe, .string p.guard, .slice ql p.lines.length qf] := hk 0 46 (by kernel_rfl) rfl
          go_simp
          refine (HSI.out _ (RP.out.new (New.trans (show New w1 w6 by exact N16) hw)) (K6.new hw)).mono ?_; rintro e w2 ⟨rfl, hb⟩
          first | exact ⟨hb, _, rfl, by simp⟩ | exact ⟨hb, by simp⟩
        · intro a w9 hw ho hk
          refine .inl ⟨by rfl, ?_⟩
          have t2 := ho 3 rfl
          dsimp at t2
          try with_reducible replace hw := New.undrawN hw
          try with_reducible replace hw := New.undraw hw
          obtain ⟨c, f'⟩ := hw.rules
          go_simp
          exact New.refl _
        · intro a w9 hw ho hk
          refine .inl ⟨by rfl, ?_⟩
          have t48 : a.tmps[48]?.getD undef = .agg #[.string p.name, .slice qa p.inputs.length qc, .slice qv p.vars.length qd, .slice qo p.outputs.length qe, .string p.guard, .slice ql p.lines.length qf] := hk 2 48 (by kernel_rfl) rfl
          go_simp
          refine (HSS.out _ (RP.out.new (New.trans N16 hw))).mono ?_; rintro e w2 ⟨rfl, hb⟩
          first | exact ⟨hb, _, rfl, by simp⟩ | exact ⟨hb, by simp⟩
        · intro a w9 hw ho hk
          refine .inl ⟨by rfl, ?_⟩
          have t47 : a.tmps[47]?.getD undef = .bool sp := hk 1 47 (by kernel_rfl) rfl
          have t49 : a.tmps[49]?.getD undef = .bool sp := hk 3 49 (by kernel_rfl) rfl
          go_simp
          exact New.refl _
        · intro a w9 hw ho hk
          refine .inl ⟨by rfl, ?_⟩
          have t50 : a.tmps[50]?.getD undef = .bool false := hk 4 50 (by kernel_rfl) rfl
          go_simp
          exact New.refl _
        · intro a w9 hw ho hk
          have t51 : a.tmps[51]?.getD undef = .bool false := hk 5 51 (by kernel_rfl) rfl
          refine .inl ⟨by simp [Region.wanted, yielded, RG.look t51], ?_⟩
          have t2 := ho 6 rfl
          dsimp at t2
          try with_reducible replace hw := New.undrawN hw
          try with_reducible replace hw := New.undraw hw
          obtain ⟨c, f'⟩ := hw.rules
          go_simp
          exact New.refl _
        · intro a w9 hw ho hk
          have t51 : a.tmps[51]?.getD undef = .bool false := hk 5 51 (by kernel_rfl) rfl
          refine .inl ⟨by simp [Region.wanted, yielded, RG.look t51], ?_⟩
          have t2 := ho 8 rfl
          dsimp at t2
          try with_reducible replace hw := New.undrawN hw
          try with_reducible replace hw := New.undraw hw
          obtain ⟨c, f'⟩ := hw.rules
          go_simp
          exact New.refl _
        · intro a w9 hw ho hk
          have t51 : a.tmps[51]?.getD undef = .bool false := hk 5 51 (by kernel_rfl) rfl
          refine .inl ⟨by simp [Region.wanted, yielded, RG.look t51], ?_⟩
          have t52 : a.tmps[52]?.getD undef = .int .i64 1 := hk 6 52 (by kernel_rfl) rfl
          have t53 : a.tmps[53]?.getD undef = .int .i64 1 := hk 7 53 (by kernel_rfl) rfl
          go_simp
          exact New.refl _
        · intro a w9 hw ho hk
          refine .inl ⟨by rfl, ?_⟩
          have t51 : a.tmps[51]?.getD undef = .bool false := hk 5 51 (by kernel_rfl) rfl
          have t54 : a.tmps[54]?.getD undef = .bool false := hk 8 54 (by kernel_rfl) rfl
          go_simp
          exact New.refl _
        · intro a w9 hw ho hk
          refine .inl ⟨by rfl, ?_⟩
          have t55 : a.tmps[55]?.getD undef = .bool false := hk 9 55 (by kernel_rfl) rfl
          go_simp
          exact New.refl _
        · intro a w9 hw ho hk
          have t56 : a.tmps[56]?.getD undef = .bool false := hk 10 56 (by kernel_rfl) rfl
          refine .inl ⟨by simp [Region.wanted, yielded, RG.look t56], ?_⟩
          have t2 := ho 5 rfl
          dsimp at t2
          try with_reducible replace hw := New.undrawN hw
          try with_reducible replace hw := New.undraw hw
          obtain ⟨c, f'⟩ := hw.rules
          go_simp
          exact New.refl _
        · intro a w9 hw ho hk
          have t56 : a.tmps[56]?.getD undef = .bool false := hk 10 56 (by kernel_rfl) rfl
          refine .inl ⟨by simp [Region.wanted, yielded, RG.look t56], ?_⟩
          have t2 := ho 7 rfl
          dsimp at t2
          try with_reducible replace hw := New.undrawN hw
          try with_reducible replace hw := New.undraw hw
          obtain ⟨c, f'⟩ := hw.rules
          go_simp
          exact New.refl _
        · intro a w9 hw ho hk
          have t56 : a.tmps[56]?.getD undef = .bool false := hk 10 56 (by kernel_rfl) rfl
          refine .inl ⟨by simp [Region.wanted, yielded, RG.look t56], ?_⟩
          have t57 : a.tmps[57]?.getD undef = .int .i64 m := hk 11 57 (by kernel_rfl) rfl
          have t58 : a.tmps[58]?.getD undef = .int .i64 m := hk 12 58 (by kernel_rfl) rfl
          go_simp
          exact New.refl _
        · intro a w9 hw ho hk
          refine .inl ⟨by rfl, ?_⟩
          have t56 : a.tmps[56]?.getD undef = .bool false := hk 10 56 (by kernel_rfl) rfl
          have t59 : a.tmps[59]?.getD undef = .bool false := hk 13 59 (by kernel_rfl) rfl
          go_simp
          exact New.refl _
        · intro a w9 hw ho hk
          refine .inl ⟨by rfl, ?_⟩
          have t60 : a.tmps[60]?.getD undef = .bool false := hk 14 60 (by kernel_rfl) rfl
          go_simp
          exact New.refl _
        · intro a w9 hw ho hk
          have t61 : a.tmps[61]?.getD undef = .bool false := hk 15 61 (by kernel_rfl) rfl
          refine .inl ⟨by simp [Region.wanted, yielded, RG.look t61], ?_⟩
          have t2 := ho 10 rfl
          dsimp at t2
          try with_reducible replace hw := New.undrawN hw
          try with_reducible replace hw := New.undraw hw
          obtain ⟨c, f'⟩ := hw.rules
          go_simp
          exact New.refl _
        · intro a w9 hw ho hk
          have t61 : a.tmps[61]?.getD undef = .bool false := hk 15 61 (by kernel_rfl) rfl
          refine .inl ⟨by simp [Region.wanted, yielded, RG.look t61], ?_⟩
          have t2 := ho 12 rfl
          dsimp at t2
          try with_reducible replace hw := New.undrawN hw
          try with_reducible replace hw := New.undraw hw
          obtain ⟨c, f'⟩ := hw.rules
          go_simp
          exact New.refl _
        · intro a w9 hw ho hk
          have t61 : a.tmps[61]?.getD undef = .bool false := hk 15 61 (by kernel_rfl) rfl
          refine .inl ⟨by simp [Region.wanted, yielded, RG.look t61], ?_⟩
          have t62 : a.tmps[62]?.getD undef = .int .i64 d := hk 16 62 (by kernel_rfl) rfl
          have t63 : a.tmps[63]?.getD undef = .int .i64 d := hk 17 63 (by kernel_rfl) rfl
          go_simp
          exact New.refl _
        · intro a w9 hw ho hk
          refine .inl ⟨by rfl, ?_⟩
          have t61 : a.tmps[61]?.getD undef = .bool false := hk 15 61 (by kernel_rfl) rfl
          have t64 : a.tmps[64]?.getD undef = .bool false := hk 18 64 (by kernel_rfl) rfl
          go_simp
          exact New.refl _
        · intro a w9 hw ho hk
          refine .inl ⟨by rfl, ?_⟩
          have t65 : a.tmps[65]?.getD undef = .bool false := hk 19 65 (by kernel_rfl) rfl
          go_simp
          exact New.refl _
        · intro a w9 hw ho hk
          have t66 : a.tmps[66]?.getD undef = .bool false := hk 20 66 (by kernel_rfl) rfl
          refine .inl ⟨by simp [Region.wanted, yielded, RG.look t66], ?_⟩
          have t2 := ho 9 rfl
          dsimp at t2
          try with_reducible replace hw := New.undrawN hw
          try with_reducible replace hw := New.undraw hw
          obtain ⟨c, f'⟩ := hw.rules
          go_simp
          exact New.refl _
        · intro a w9 hw ho hk
          have t66 : a.tmps[66]?.getD undef = .bool false := hk 20 66 (by kernel_rfl) rfl
          refine .inl ⟨by simp [Region.wanted, yielded, RG.look t66], ?_⟩
          have t2 := ho 11 rfl
          dsimp at t2
          try with_reducible replace hw := New.undrawN hw
          try with_reducible replace hw := New.undraw hw
          obtain ⟨c, f'⟩ := hw.rules
          go_simp
          exact New.refl _
        · intro a w9 hw ho hk
          have t66 : a.tmps[66]?.getD undef = .bool false := hk 20 66 (by kernel_rfl) rfl
          refine .inl ⟨by simp [Region.wanted, yielded, RG.look t66], ?_⟩
          have t67 : a.tmps[67]?.getD undef = .slice a5 N.length k5 := hk 21 67 (by kernel_rfl) rfl
          have t68 : a.tmps[68]?.getD undef = .slice a6 N.length k6 := hk 22 68 (by kernel_rfl) rfl
          go_simp
          refine (likeNames_same _ _ N _ (Rd.new R5.out hw) (Rd.new R6.out hw)).mono ?_; rintro e w2 ⟨rfl, hb⟩
          first | exact ⟨hb, _, rfl, by simp⟩ | exact ⟨hb, by simp⟩
        · intro a w9 hw ho hk
          have t66 : a.tmps[66]?.getD undef = .bool false := hk 20 66 (by kernel_rfl) rfl
          refine .inl ⟨by simp [Region.wanted, yielded, RG.look t66], ?_⟩
          have t69 : a.tmps[69]?.getD undef = .bool true := hk 23 69 (by kernel_rfl) rfl
          go_simp
          exact New.refl _
        · intro a w9 hw ho hk
          refine .inl ⟨by rfl, ?_⟩
          have t66 : a.tmps[66]?.getD undef = .bool false := hk 20 66 (by kernel_rfl) rfl
          have t70 : a.tmps[70]?.getD undef = .bool false := hk 24 70 (by kernel_rfl) rfl
          go_simp
          exact New.refl _
        · intro a w9 hw ho hk
          refine .inl ⟨by rfl, ?_⟩
          have t71 : a.tmps[71]?.getD undef = .bool false := hk 25 71 (by kernel_rfl) rfl
          go_simp
          exact New.refl _
        · intro a w9 hw ho hk
          have t72 : a.tmps[72]?.getD undef = .bool false := hk 26 72 (by kernel_rfl) rfl
          refine .inl ⟨by simp [Region.wanted, yielded, RG.look t72], ?_⟩
          have t2 := ho 4 rfl
          dsimp at t2
          try with_reducible replace hw := New.undrawN hw
          try with_reducible replace hw := New.undraw hw
          obtain ⟨c, f'⟩ := hw.rules
          go_simp
          exact New.refl _
        · intro a w9 hw ho hk
          have t72 : a.tmps[72]?.getD undef = .bool false := hk 26 72 (by kernel_rfl) rfl
          refine .inl ⟨by simp [Region.wanted, yielded, RG.look t72], ?_⟩
          have t73 : a.tmps[73]?.getD undef = .agg #[.string q.name, .slice ra q.inputs.length rc, .slice rv q.vars.length rd, .slice ro q.outputs.length re, .string q.guard, .slice rl q.lines.length rf] := hk 27 73 (by kernel_rfl) rfl
          go_simp
          refine (HQS.out _ (RQ.out.new (New.trans N26 hw)) (K6.new hw)).mono ?_; rintro e w2 ⟨rfl, hb⟩
          first | exact ⟨hb, _, rfl, by simp⟩ | exact ⟨hb, by simp⟩
        · intro a w9 hw ho hk
          have t72 : a.tmps[72]?.getD undef = .bool false := hk 26 72 (by kernel_rfl) rfl
          refine .inl ⟨by simp [Region.wanted, yielded, RG.look t72], ?_⟩
          have t2 := ho 8 rfl
          dsimp at t2
          try with_reducible replace hw := New.undrawN hw
          try with_reducible replace hw := New.undraw hw
          obtain ⟨c, f'⟩ := hw.rules
          go_simp
          exact New.refl _
        · intro a w9 hw ho hk
          have t72 : a.tmps[72]?.getD undef = .bool false := hk 26 72 (by kernel_rfl) rfl
          refine .inl ⟨by simp [Region.wanted, yielded, RG.look t72], ?_⟩
          have t75 : a.tmps[75]?.getD undef = .int .i64 1 := hk 29 75 (by kernel_rfl) rfl
          go_simp
          exact New.refl _
        · intro a w9 hw ho hk
          have t72 : a.tmps[72]?.getD undef = .bool false := hk 26 72 (by kernel_rfl) rfl
          refine .inl ⟨by simp [Region.wanted, yielded, RG.look t72], ?_⟩
          have t76 : a.tmps[76]?.getD undef = .bool false := hk 30 76 (by kernel_rfl) rfl
          go_simp
          exact New.refl _
        · intro a w9 hw ho hk
          have t77 : a.tmps[77]?.getD undef = .bool false := hk 31 77 (by kernel_rfl) rfl
          exact .inr ⟨by simp [Region.wanted, yielded, RG.look t77], rfl⟩
        · intro a w9 hw ho hk
          have t77 : a.tmps[77]?.getD undef = .bool false := hk 31 77 (by kernel_rfl) rfl
          exact .inr ⟨by simp [Region.wanted, yielded, RG.look t77], rfl⟩
        · intro a w9 hw ho hk
          have t72 : a.tmps[72]?.getD undef = .bool false := hk 26 72 (by kernel_rfl) rfl
          refine .inl ⟨by simp [Region.wanted, yielded, RG.look t72], ?_⟩
          have t77 : a.tmps[77]?.getD undef = .bool false := hk 31 77 (by kernel_rfl) rfl
          go_simp
          exact New.refl _
        · intro a w9 hw ho hk
          have t72 : a.tmps[72]?.getD undef = .bool false := hk 26 72 (by kernel_rfl) rfl
          refine .inl ⟨by simp [Region.wanted, yielded, RG.look t72], ?_⟩
          have t74 : a.tmps[74]?.getD undef = .bool false := hk 28 74 (by kernel_rfl) rfl
          have t80 : a.tmps[80]?.getD undef = .bool false := hk 34 80 (by kernel_rfl) rfl
          go_simp
          exact New.refl _
        · intro a w9 hw ho hk
          refine .inl ⟨by rfl, ?_⟩
          have t72 : a.tmps[72]?.getD undef = .bool false := hk 26 72 (by kernel_rfl) rfl
          have t81 : a.tmps[81]?.getD undef = .bool false := hk 35 81 (by kernel_rfl) rfl
          go_simp
          exact New.refl _
      intro w7 b7
      rintro _ rfl _ rfl _ rfl _ rfl _ rfl _ rfl _ rfl _ rfl _ rfl _ rfl _ rfl _ rfl _ rfl _ rfl _ rfl _ rfl _ rfl _ rfl _ rfl _ rfl _ rfl _ rfl _ rfl _ rfl _ rfl _ rfl _ rfl _ rfl _ rfl _ rfl _ rfl _ rfl _ rfl _ rfl _ rfl _ rfl _ rfl
      try with_reducible replace b7 := New.undrawN b7
      try with_reducible replace b7 := New.undraw b7
      obtain ⟨c7, f7⟩ := b7.rules
      have z7 := b7.size
      try simp only [World.size_alloc, World.size_drew, World.heap_drewN, World.size_setCell] at z7
      have z7_0 : w1.heap.size < w7.heap.size := by omega
      have z7_1 : w2.heap.size < w7.heap.size := by omega
      simp only [RG.EndAll, List.nil_append, List.cons_append, List.length_cons, List.length_nil, Nat.zero_add, Nat.reduceAdd, List.take_succ_cons, List.take_zero, List.drop_succ_cons, List.drop_zero, RG.putAll, Act.put, List.setIfInBounds_toArray, List.set_cons_succ, List.set_cons_zero]
      have hRN' := hRN.out
      rcases hRN' with ⟨rfl, hcode, hN⟩ | rfl | rfl
      · obtain ⟨qv', qd', e, hvl, HVR⟩ := RdS.open RP.out.vars
        injection e with e1 e2 e3
        subst e1 e3
        clear e2
        obtain ⟨a6', k6', e, hnl6, HNR⟩ := RdS.open R6.out
        injection e with e1 e2 e3
        subst e1 e3
        clear e2
        replace hcode := Lib.hid hcode
        replace hN := Lib.hid hN
        have HLI := Lib.hid (fun (s : ByteArray) (w0 : World) (h : RdP w0 p (.slice qa p.inputs.length qc) (.slice qv p.vars.length qd) (.slice qo p.outputs.length qe) (.slice ql p.lines.length qf)) (k : KW w0) => iLineOf_any p _ _ _ _ s w0 h hfp.out k)
        have HUI := Lib.hid (fun (s : ByteArray) (w0 : World) (h : RdP w0 p (.slice qa p.inputs.length qc) (.slice qv p.vars.length qd) (.slice qo p.outputs.length qe) (.slice ql p.lines.length qf)) (k : KW w0) => iUsesOf_any p _ _ _ _ s w0 h hfp.out k)
        go_wp2_with fail
        go_loopw [13, 14, 15, 16, 17, 18, 19] (fun s13 s14 s15 s16 s17 s18 s19 wr => ∃ at' k : Nat, k ≤ p.vars.length ∧ s13 = .int .i64 at' ∧ s14 = .int .i64 k ∧ at' ≤ k ∧ Hid (N.drop at' = (p.vars.drop k).filter (remB p)) ∧ New w7 wr) (fun s13 s14 s15 s16 s17 s18 s19 _ => p.vars.length - (intOf s14).toNat)
        case atStart => exact ⟨0, 0, Nat.zero_le _, rfl, rfl, Nat.le_refl _, Lib.hid (by rw [hN.out]; simp), New.refl _⟩
        case round =>
          obtain ⟨at', k, hk, rfl, rfl, hak, hst, hb⟩ := hrel
          have N6r : New w6 wr := b7.trans hb
          have N1r : New w1 wr := N16.trans N6r
          have Nwr : New w wr := Nw6.trans N6r
          obtain ⟨cc, f'⟩ := hb.rules
          have hbz := hb.size
          have hPr : w1.heap.size < wr.heap.size := by omega
          obtain ⟨cPr, fPr⟩ := (KP6.new N6r).rules
          by_cases hlt : k < p.vars.length
          · obtain ⟨b, off, rfl, hbl, hx⟩ := HVR.out wr N1r k hlt
            have hbw : b < wr.heap.size := by omega
            obtain ⟨hwB, hXL⟩ := var_line hcode.out (List.getElem_mem hlt)
            have HL1 := Lib.hid (fun (w0 : World) (h : New wr w0) => HLI.out p.vars[k] w0 (RP.out.new (N1r.trans h)) (HK.out.new (Nwr.trans h)))
            rw [lineR_1 hwB hXL] at HL1
            have HU1 := Lib.hid (fun (w0 : World) (h : New wr w0) => HUI.out p.vars[k] w0 (RP.out.new (N1r.trans h)) (HK.out.new (Nwr.trans h)))
            rw [show usesR p p.vars[k] = (usesP p p.vars[k], 0) by rw [usesR, if_pos hwB]] at HU1
            have HAT := Lib.hid (rem_at hst.out hlt)
            have HRE : Hid ((usesP p p.vars[k] = [] ∧ remB p p.vars[k] = false) ∨ ∃ u rest, usesP p p.vars[k] = u :: rest ∧ remB p p.vars[k] = decide (u ≤ lineIdx p p.vars[k])) := Lib.hid (by
              cases hu : usesP p p.vars[k] with
              | nil => exact .inl ⟨rfl, remB_nil hu⟩
              | cons u rest => exact .inr ⟨u, rest, rfl, remB_cons hu⟩)
            generalize remB p p.vars[k] = rb at HAT HRE
            generalize lineIdx p p.vars[k] = L at HL1 HRE hXL
            generalize usesP p p.vars[k] = U at HU1 HRE
            generalize p.vars[k] = x at HL1 HU1 hx HAT
            have kv : wr.cell? ⟨w1.heap.size, 2, none⟩ = some (.slice (some ⟨b, off, none⟩) p.vars.length qd) := by rw [cPr]; rfl
            go_wp2_with fail
            refine RG.wp_facts [fun X _ => X = .agg #[.string p.name, .slice qa p.inputs.length qc, .slice (some ⟨b, off, none⟩) p.vars.length qd, .slice qo p.outputs.length qe, .string p.guard, .slice ql p.lines.length qf], fun X _ => X = .pointer (some ⟨w1.heap.size, 2, none⟩), fun X _ => X = .slice (some ⟨b, off, none⟩) p.vars.length qd, fun X _ => X = .int .i64 k, fun X _ => X = .pointer (some ⟨b, off + k, none⟩), fun X _ => X = .string x, fun X _ => X = .tuple #[.int .i64 L, .int .i64 0], fun X _ => X = .tuple #[.int .i64 L, .int .i64 0], fun X _ => X = .int .i64 L, fun X _ => X = .int .i64 0, fun X _ => X = .int .i64 L, fun X _ => X = .int .i64 0] (by kernel_rfl) (by kernel_rfl) ⟨RG.stable_eq _, RG.stable_eq _, RG.stable_eq _, RG.stable_eq _, RG.stable_eq _, RG.stable_eq _, RG.stable_eq _, RG.stable_eq _, RG.stable_eq _, RG.stable_eq _, RG.stable_eq _, RG.stable_eq _, trivial⟩ ?_ ?_
            · refine ⟨?_, ?_, ?_, ?_, ?_, ?_, ?_, ?_, ?_, ?_, ?_, ?_, trivial⟩
              · intro a w9 hw ho hk
                refine .inl ⟨by rfl, ?_⟩
                have t2 := ho 3 rfl
                dsimp at t2
                try with_reducible replace hw := New.undrawN hw
                try with_reducible replace hw := New.undraw hw
                obtain ⟨c, f'⟩ := hw.rules
                go_simp
                exact New.refl _
              · intro a w9 hw ho hk
                refine .inl ⟨by rfl, ?_⟩
                have t2 := ho 3 rfl
                dsimp at t2
                try with_reducible replace hw := New.undrawN hw
                try with_reducible replace hw := New.undraw hw
                obtain ⟨c, f'⟩ := hw.rules
                go_simp
                exact New.refl _
              · intro a w9 hw ho hk
                refine .inl ⟨by rfl, ?_⟩
                have t94 : a.tmps[94]?.getD undef = .pointer (some ⟨w1.heap.size, 2, none⟩) := hk 1 94 (by kernel_rfl) rfl
                try with_reducible replace hw := New.undrawN hw
                try with_reducible replace hw := New.undraw hw
                obtain ⟨c, f'⟩ := hw.rules
                go_simp
                exact New.refl _
              · intro a w9 hw ho hk
                refine .inl ⟨by rfl, ?_⟩
                have t2 := ho 14 rfl
                dsimp at t2
                try with_reducible replace hw := New.undrawN hw
                try with_reducible replace hw := New.undraw hw
                obtain ⟨c, f'⟩ := hw.rules
                go_simp
                exact New.refl _
              · intro a w9 hw ho hk
                refine .inl ⟨by rfl, ?_⟩
                have t95 : a.tmps[95]?.getD undef = .slice (some ⟨b, off, none⟩) p.vars.length qd := hk 2 95 (by kernel_rfl) rfl
                have t96 : a.tmps[96]?.getD undef = .int .i64 k := hk 3 96 (by kernel_rfl) rfl
                go_simp
                exact New.refl _
              · intro a w9 hw ho hk
                refine .inl ⟨by rfl, ?_⟩
                have t97 : a.tmps[97]?.getD undef = .pointer (some ⟨b, off + k, none⟩) := hk 4 97 (by kernel_rfl) rfl
                try with_reducible replace hw := New.undrawN hw
                try with_reducible replace hw := New.undraw hw
                obtain ⟨c, f'⟩ := hw.rules
                go_simp
                exact New.refl _
              · intro a w9 hw ho hk
                refine .inl ⟨by rfl, ?_⟩
                have t93 : a.tmps[93]?.getD undef = .agg #[.string p.name, .slice qa p.inputs.length qc, .slice (some ⟨b, off, none⟩) p.vars.length qd, .slice qo p.outputs.length qe, .string p.guard, .slice ql p.lines.length qf] := hk 0 93 (by kernel_rfl) rfl
                have t98 : a.tmps[98]?.getD undef = .string x := hk 5 98 (by kernel_rfl) rfl
                go_simp
                refine (HL1.out _ hw).mono ?_; rintro e w2 ⟨rfl, hb⟩
                first | exact ⟨hb, _, rfl, by simp⟩ | exact ⟨hb, by simp⟩
              · intro a w9 hw ho hk
                refine .inl ⟨by rfl, ?_⟩
                have t99 : a.tmps[99]?.getD undef = .tuple #[.int .i64 L, .int .i64 0] := hk 6 99 (by kernel_rfl) rfl
                go_simp
                exact New.refl _
              · intro a w9 hw ho hk
                refine .inl ⟨by rfl, ?_⟩
                have t92 : a.tmps[92]?.getD undef = .tuple #[.int .i64 L, .int .i64 0] := hk 7 92 (by kernel_rfl) rfl
                go_simp
                exact New.refl _
              · intro a w9 hw ho hk
                refine .inl ⟨by rfl, ?_⟩
                have t92 : a.tmps[92]?.getD undef = .tuple #[.int .i64 L, .int .i64 0] := hk 7 92 (by kernel_rfl) rfl
                go_simp
                exact New.refl _
              · intro a w9 hw ho hk
                refine .inl ⟨by rfl, ?_⟩
                have t100 : a.tmps[100]?.getD undef = .int .i64 L := hk 8 100 (by kernel_rfl) rfl
                go_simp
                exact New.refl _
              · intro a w9 hw ho hk
                refine .inl ⟨by rfl, ?_⟩
                have t101 : a.tmps[101]?.getD undef = .int .i64 0 := hk 9 101 (by kernel_rfl) rfl
                go_simp
                exact New.refl _
            intro w8 b8
            rintro _ rfl _ rfl _ rfl _ rfl _ rfl _ rfl _ rfl _ rfl _ rfl _ rfl _ rfl _ rfl
            try with_reducible replace b8 := New.undrawN b8
            try with_reducible replace b8 := New.undraw b8
            obtain ⟨c8, f8⟩ := b8.rules
            have z8 := b8.size
            try simp only [World.size_alloc, World.size_drew, World.heap_drewN, World.size_setCell] at z8
            have z8_0 : w1.heap.size < w8.heap.size := by omega
            have z8_1 : b < w8.heap.size := by omega
            simp only [RG.EndAll, List.nil_append, List.cons_append, List.length_cons, List.length_nil, Nat.zero_add, Nat.reduceAdd, List.take_succ_cons, List.take_zero, List.drop_succ_cons, List.drop_zero, RG.putAll, Act.put, List.setIfInBounds_toArray, List.set_cons_succ, List.set_cons_zero]
            have N68 : New w6 w8 := N6r.trans b8
            obtain ⟨cP8, fP8⟩ := (KP6.new N68).rules
            have kv8 : w8.cell? ⟨w1.heap.size, 2, none⟩ = some (.slice (some ⟨b, off, none⟩) p.vars.length qd) := by rw [cP8]; rfl
            have hx8 : w8.cell? ⟨b, off + k, none⟩ = some (.string x) := (b8.cell hbw).trans hx
            go_wp2_with fail
            refine RG.wp_facts [fun X _ => X = .agg #[.string p.name, .slice qa p.inputs.length qc, .slice (some ⟨b, off, none⟩) p.vars.length qd, .slice qo p.outputs.length qe, .string p.guard, .slice ql p.lines.length qf], fun X _ => X = .pointer (some ⟨w1.heap.size, 2, none⟩), fun X _ => X = .slice (some ⟨b, off, none⟩) p.vars.length qd, fun X _ => X = .int .i64 k, fun X _ => X = .pointer (some ⟨b, off + k, none⟩), fun X _ => X = .string x, fun X W' => ∃ r, X = .tuple #[r, .int .i64 0] ∧ RdI W' r U, fun X W' => ∃ r, X = .tuple #[r, .int .i64 0] ∧ RdI W' r U, fun X W' => ∃ r, X = r ∧ RdI W' r U, fun X _ => X = .int .i64 0, fun X W' => ∃ r, X = r ∧ RdI W' r U, fun X _ => X = .int .i64 0] (by kernel_rfl) (by kernel_rfl) ⟨RG.stable_eq _, RG.stable_eq _, RG.stable_eq _, RG.stable_eq _, RG.stable_eq _, RG.stable_eq _, fun X w0 w1 hn ⟨q109, t109, r109⟩ => ⟨q109, t109, r109.new hn⟩, fun X w0 w1 hn ⟨q102, t102, r102⟩ => ⟨q102, t102, r102.new hn⟩, fun X w0 w1 hn ⟨q110, t110, r110⟩ => ⟨q110, t110, r110.new hn⟩, RG.stable_eq _, fun X w0 w1 hn ⟨q17, t17, r17⟩ => ⟨q17, t17, r17.new hn⟩, RG.stable_eq _, trivial⟩ ?_ ?_
            · refine ⟨?_, ?_, ?_, ?_, ?_, ?_, ?_, ?_, ?_, ?_, ?_, ?_, trivial⟩
              · intro a w9 hw ho hk
                refine .inl ⟨by rfl, ?_⟩
                have t2 := ho 3 rfl
                dsimp at t2
                try with_reducible replace hw := New.undrawN hw
                try with_reducible replace hw := New.undraw hw
                obtain ⟨c, f'⟩ := hw.rules
                go_simp
                exact New.refl _
              · intro a w9 hw ho hk
                refine .inl ⟨by rfl, ?_⟩
                have t2 := ho 3 rfl
                dsimp at t2
                try with_reducible replace hw := New.undrawN hw
                try with_reducible replace hw := New.undraw hw
                obtain ⟨c, f'⟩ := hw.rules
                go_simp
                exact New.refl _
              · intro a w9 hw ho hk
                refine .inl ⟨by rfl, ?_⟩
                have t104 : a.tmps[104]?.getD undef = .pointer (some ⟨w1.heap.size, 2, none⟩) := hk 1 104 (by kernel_rfl) rfl
                try with_reducible replace hw := New.undrawN hw
                try with_reducible replace hw := New.undraw hw
                obtain ⟨c, f'⟩ := hw.rules
                go_simp
                exact New.refl _
              · intro a w9 hw ho hk
                refine .inl ⟨by rfl, ?_⟩
                have t2 := ho 14 rfl
                dsimp at t2
                try with_reducible replace hw := New.undrawN hw
                try with_reducible replace hw := New.undraw hw
                obtain ⟨c, f'⟩ := hw.rules
                go_simp
                exact New.refl _
              · intro a w9 hw ho hk
                refine .inl ⟨by rfl, ?_⟩
                have t105 : a.tmps[105]?.getD undef = .slice (some ⟨b, off, none⟩) p.vars.length qd := hk 2 105 (by kernel_rfl) rfl
                have t106 : a.tmps[106]?.getD undef = .int .i64 k := hk 3 106 (by kernel_rfl) rfl
                go_simp
                exact New.refl _
              · intro a w9 hw ho hk
                refine .inl ⟨by rfl, ?_⟩
                have t107 : a.tmps[107]?.getD undef = .pointer (some ⟨b, off + k, none⟩) := hk 4 107 (by kernel_rfl) rfl
                try with_reducible replace hw := New.undrawN hw
                try with_reducible replace hw := New.undraw hw
                obtain ⟨c, f'⟩ := hw.rules
                go_simp
                exact New.refl _
              · intro a w9 hw ho hk
                refine .inl ⟨by rfl, ?_⟩
                have t103 : a.tmps[103]?.getD undef = .agg #[.string p.name, .slice qa p.inputs.length qc, .slice (some ⟨b, off, none⟩) p.vars.length qd, .slice qo p.outputs.length qe, .string p.guard, .slice ql p.lines.length qf] := hk 0 103 (by kernel_rfl) rfl
                have t108 : a.tmps[108]?.getD undef = .string x := hk 5 108 (by kernel_rfl) rfl
                go_simp
                refine (HU1.out _ (b8.trans hw)).mono ?_; rintro e w2 ⟨r, rfl, hb, o1⟩
                first | exact ⟨hb, _, rfl, _, rfl, own_rd o1⟩ | exact ⟨hb, _, by simp, own_rd o1⟩
              · intro a w9 hw ho hk
                refine .inl ⟨by rfl, ?_⟩
                obtain ⟨q109, t109, r109⟩ : ∃ r, (a.tmps[109]?.getD undef) = .tuple #[r, .int .i64 0] ∧ RdI w9 r U := hk 6 109 (by kernel_rfl) rfl
                go_simp
                first | exact ⟨New.refl _, _, rfl, _, rfl, r109⟩ | exact ⟨New.refl _, _, by simp, r109⟩
              · intro a w9 hw ho hk
                refine .inl ⟨by rfl, ?_⟩
                obtain ⟨q102, t102, r102⟩ : ∃ r, (a.tmps[102]?.getD undef) = .tuple #[r, .int .i64 0] ∧ RdI w9 r U := hk 7 102 (by kernel_rfl) rfl
                go_simp
                first | exact ⟨New.refl _, _, rfl, _, rfl, r102⟩ | exact ⟨New.refl _, _, rfl, r102⟩
              · intro a w9 hw ho hk
                refine .inl ⟨by rfl, ?_⟩
                obtain ⟨q102, t102, r102⟩ : ∃ r, (a.tmps[102]?.getD undef) = .tuple #[r, .int .i64 0] ∧ RdI w9 r U := hk 7 102 (by kernel_rfl) rfl
                go_simp
                exact New.refl _
              · intro a w9 hw ho hk
                refine .inl ⟨by rfl, ?_⟩
                obtain ⟨q110, t110, r110⟩ : ∃ r, (a.tmps[110]?.getD undef) = r ∧ RdI w9 r U := hk 8 110 (by kernel_rfl) rfl
                go_simp
                first | exact ⟨New.refl _, _, rfl, _, rfl, r110⟩ | exact ⟨New.refl _, _, rfl, r110⟩
              · intro a w9 hw ho hk
                refine .inl ⟨by rfl, ?_⟩
                have t111 : a.tmps[111]?.getD undef = .int .i64 0 := hk 9 111 (by kernel_rfl) rfl
                go_simp
                exact New.refl _
            intro w9 b9
            rintro _ rfl _ rfl _ rfl _ rfl _ rfl _ rfl _ ⟨q109, rfl, r109⟩ _ ⟨q102, rfl, r102⟩ _ ⟨q110, rfl, r110⟩ _ rfl _ ⟨q17, rfl, r17⟩ _ rfl
            clear r109 r102 r110
            obtain ⟨ua, uc, rfl, hul, HU⟩ := r17.open
            clear r17
            try with_reducible replace b9 := New.undrawN b9
            try with_reducible replace b9 := New.undraw b9
            obtain ⟨c9, f9⟩ := b9.rules
            have z9 := b9.size
            try simp only [World.size_alloc, World.size_drew, World.heap_drewN, World.size_setCell] at z9
            have z9_0 : w1.heap.size < w9.heap.size := by omega
            have z9_1 : b < w9.heap.size := by omega
            simp only [RG.EndAll, List.nil_append, List.cons_append, List.length_cons, List.length_nil, Nat.zero_add, Nat.reduceAdd, List.take_succ_cons, List.take_zero, List.drop_succ_cons, List.drop_zero, RG.putAll, Act.put, List.setIfInBounds_toArray, List.set_cons_succ, List.set_cons_zero]
            have N69 : New w6 w9 := N68.trans b9
            clear HL1 HU1
            generalize hn : U.length = n
            rw [hn] at hul
            rcases HRE.out with ⟨rfl, hr⟩ | ⟨u, rest, rfl, hr⟩
            · obtain rfl : 0 = n := hn
              rcases HAT.out with ⟨ht, _⟩ | ⟨_, hne, hst2⟩
              · rw [hr] at ht; cases ht
              · go_wp2_with fail
                by_cases ha : at' < N.length
                · have hne := hne ha
                  obtain ⟨nb, nof, rfl, hnl, hy⟩ := HNR.out w9 N69 at' ha
                  have hnb9 : nb < w9.heap.size := Nat.lt_of_lt_of_le hnl N69.size
                  generalize N[at'] = y at hne hy
                  have kv9 : w9.cell? ⟨w1.heap.size, 2, none⟩ = some (.slice (some ⟨b, off, none⟩) p.vars.length qd) := by rw [(KP6.new N69).rules.1]; rfl
                  have hx9 : w9.cell? ⟨b, off + k, none⟩ = some (.string x) := (New.cell (b8.trans b9) hbw).trans hx
                  refine RG.wp_facts [fun X _ => X = .bool false, fun X _ => X = .int .i64 at', fun X _ => X = .slice (some ⟨nb, nof, none⟩) N.length k6, fun X _ => X = .int .i64 N.length, fun X _ => X = .bool true, fun X _ => X = .bool true, fun X _ => X = .slice (some ⟨nb, nof, none⟩) N.length k6, fun X _ => X = .int .i64 at', fun X _ => X = .pointer (some ⟨nb, nof + at', none⟩), fun X _ => X = .string y, fun X _ => X = .pointer (some ⟨w1.heap.size, 2, none⟩), fun X _ => X = .slice (some ⟨b, off, none⟩) p.vars.length qd, fun X _ => X = .int .i64 k, fun X _ => X = .pointer (some ⟨b, off + k, none⟩), fun X _ => X = .string x, fun X _ => X = .bool false, fun X _ => X = .bool false, fun X _ => X = .bool false] (by kernel_rfl) (by kernel_rfl) ⟨RG.stable_eq _, RG.stable_eq _, RG.stable_eq _, RG.stable_eq _, RG.stable_eq _, RG.stable_eq _, RG.stable_eq _, RG.stable_eq _, RG.stable_eq _, RG.stable_eq _, RG.stable_eq _, RG.stable_eq _, RG.stable_eq _, RG.stable_eq _, RG.stable_eq _, RG.stable_eq _, RG.stable_eq _, RG.stable_eq _, trivial⟩ ?_ ?_
                  · refine ⟨?_, ?_, ?_, ?_, ?_, ?_, ?_, ?_, ?_, ?_, ?_, ?_, ?_, ?_, ?_, ?_, ?_, ?_, trivial⟩
                    · intro a w9 hw ho hk
                      refine .inl ⟨by rfl, ?_⟩
                      have t2 := ho 19 rfl
                      dsimp at t2
                      try with_reducible replace hw := New.undrawN hw
                      try with_reducible replace hw := New.undraw hw
                      obtain ⟨c, f'⟩ := hw.rules
                      go_simp
                      exact New.refl _
                    · intro a w9 hw ho hk
                      refine .inl ⟨by rfl, ?_⟩
                      have t2 := ho 13 rfl
                      dsimp at t2
                      try with_reducible replace hw := New.undrawN hw
                      try with_reducible replace hw := New.undraw hw
                      obtain ⟨c, f'⟩ := hw.rules
                      go_simp
                      exact New.refl _
                    · intro a w9 hw ho hk
                      refine .inl ⟨by rfl, ?_⟩
                      have t2 := ho 11 rfl
                      dsimp at t2
                      try with_reducible replace hw := New.undrawN hw
                      try with_reducible replace hw := New.undraw hw
                      obtain ⟨c, f'⟩ := hw.rules
                      go_simp
                      exact New.refl _
                    · intro a w9 hw ho hk
                      refine .inl ⟨by rfl, ?_⟩
                      have t130 : a.tmps[130]?.getD undef = .slice (some ⟨nb, nof, none⟩) N.length k6 := hk 2 130 (by kernel_rfl) rfl
                      go_simp
                      exact New.refl _
                    · intro a w9 hw ho hk
                      refine .inl ⟨by rfl, ?_⟩
                      have t129 : a.tmps[129]?.getD undef = .int .i64 at' := hk 1 129 (by kernel_rfl) rfl
                      have t131 : a.tmps[131]?.getD undef = .int .i64 N.length := hk 3 131 (by kernel_rfl) rfl
                      go_simp
                      exact New.refl _
                    · intro a w9 hw ho hk
                      refine .inl ⟨by rfl, ?_⟩
                      have t132 : a.tmps[132]?.getD undef = .bool true := hk 4 132 (by kernel_rfl) rfl
                      go_simp
                      exact New.refl _
                    · intro a w9 hw ho hk
                      have t133 : a.tmps[133]?.getD undef = .bool true := hk 5 133 (by kernel_rfl) rfl
                      refine .inl ⟨by simp [Region.wanted, yielded, RG.look t133], ?_⟩
                      have t2 := ho 11 rfl
                      dsimp at t2
                      try with_reducible replace hw := New.undrawN hw
                      try with_reducible replace hw := New.undraw hw
                      obtain ⟨c, f'⟩ := hw.rules
                      go_simp
                      exact New.refl _
                    · intro a w9 hw ho hk
                      have t133 : a.tmps[133]?.getD undef = .bool true := hk 5 133 (by kernel_rfl) rfl
                      refine .inl ⟨by simp [Region.wanted, yielded, RG.look t133], ?_⟩
                      have t2 := ho 13 rfl
                      dsimp at t2
                      try with_reducible replace hw := New.undrawN hw
                      try with_reducible replace hw := New.undraw hw
                      obtain ⟨c, f'⟩ := hw.rules
                      go_simp
                      exact New.refl _
                    · intro a w9 hw ho hk
                      have t133 : a.tmps[133]?.getD undef = .bool true := hk 5 133 (by kernel_rfl) rfl
                      refine .inl ⟨by simp [Region.wanted, yielded, RG.look t133], ?_⟩
                      have t134 : a.tmps[134]?.getD undef = .slice (some ⟨nb, nof, none⟩) N.length k6 := hk 6 134 (by kernel_rfl) rfl
                      have t135 : a.tmps[135]?.getD undef = .int .i64 at' := hk 7 135 (by kernel_rfl) rfl
                      go_simp
                      exact New.refl _
                    · intro a w9 hw ho hk
                      have t133 : a.tmps[133]?.getD undef = .bool true := hk 5 133 (by kernel_rfl) rfl
                      refine .inl ⟨by simp [Region.wanted, yielded, RG.look t133], ?_⟩
                      have t136 : a.tmps[136]?.getD undef = .pointer (some ⟨nb, nof + at', none⟩) := hk 8 136 (by kernel_rfl) rfl
                      try with_reducible replace hw := New.undrawN hw
                      try with_reducible replace hw := New.undraw hw
                      obtain ⟨c, f'⟩ := hw.rules
                      go_simp
                      exact New.refl _
                    · intro a w9 hw ho hk
                      have t133 : a.tmps[133]?.getD undef = .bool true := hk 5 133 (by kernel_rfl) rfl
                      refine .inl ⟨by simp [Region.wanted, yielded, RG.look t133], ?_⟩
                      have t2 := ho 3 rfl
                      dsimp at t2
                      try with_reducible replace hw := New.undrawN hw
                      try with_reducible replace hw := New.undraw hw
                      obtain ⟨c, f'⟩ := hw.rules
                      go_simp
                      exact New.refl _
                    · intro a w9 hw ho hk
                      have t133 : a.tmps[133]?.getD undef = .bool true := hk 5 133 (by kernel_rfl) rfl
                      refine .inl ⟨by simp [Region.wanted, yielded, RG.look t133], ?_⟩
                      have t138 : a.tmps[138]?.getD undef = .pointer (some ⟨w1.heap.size, 2, none⟩) := hk 10 138 (by kernel_rfl) rfl
                      try with_reducible replace hw := New.undrawN hw
                      try with_reducible replace hw := New.undraw hw
                      obtain ⟨c, f'⟩ := hw.rules
                      go_simp
                      exact New.refl _
                    · intro a w9 hw ho hk
                      have t133 : a.tmps[133]?.getD undef = .bool true := hk 5 133 (by kernel_rfl) rfl
                      refine .inl ⟨by simp [Region.wanted, yielded, RG.look t133], ?_⟩
                      have t2 := ho 14 rfl
                      dsimp at t2
                      try with_reducible replace hw := New.undrawN hw
                      try with_reducible replace hw := New.undraw hw
                      obtain ⟨c, f'⟩ := hw.rules
                      go_simp
                      exact New.refl _
                    · intro a w9 hw ho hk
                      have t133 : a.tmps[133]?.getD undef = .bool true := hk 5 133 (by kernel_rfl) rfl
                      refine .inl ⟨by simp [Region.wanted, yielded, RG.look t133], ?_⟩
                      have t139 : a.tmps[139]?.getD undef = .slice (some ⟨b, off, none⟩) p.vars.length qd := hk 11 139 (by kernel_rfl) rfl
                      have t140 : a.tmps[140]?.getD undef = .int .i64 k := hk 12 140 (by kernel_rfl) rfl
                      go_simp
                      exact New.refl _
                    · intro a w9 hw ho hk
                      have t133 : a.tmps[133]?.getD undef = .bool true := hk 5 133 (by kernel_rfl) rfl
                      refine .inl ⟨by simp [Region.wanted, yielded, RG.look t133], ?_⟩
                      have t141 : a.tmps[141]?.getD undef = .pointer (some ⟨b, off + k, none⟩) := hk 13 141 (by kernel_rfl) rfl
                      try with_reducible replace hw := New.undrawN hw
                      try with_reducible replace hw := New.undraw hw
                      obtain ⟨c, f'⟩ := hw.rules
                      go_simp
                      exact New.refl _
                    · intro a w9 hw ho hk
                      have t133 : a.tmps[133]?.getD undef = .bool true := hk 5 133 (by kernel_rfl) rfl
                      refine .inl ⟨by simp [Region.wanted, yielded, RG.look t133], ?_⟩
                      have t137 : a.tmps[137]?.getD undef = .string y := hk 9 137 (by kernel_rfl) rfl
                      have t142 : a.tmps[142]?.getD undef = .string x := hk 14 142 (by kernel_rfl) rfl
                      go_simp
                      exact New.refl _
                    · intro a w9 hw ho hk
                      refine .inl ⟨by rfl, ?_⟩
                      have t133 : a.tmps[133]?.getD undef = .bool true := hk 5 133 (by kernel_rfl) rfl
                      have t143 : a.tmps[143]?.getD undef = .bool false := hk 15 143 (by kernel_rfl) rfl
                      go_simp
                      exact New.refl _
                    · intro a w9 hw ho hk
                      refine .inl ⟨by rfl, ?_⟩
                      have t128 : a.tmps[128]?.getD undef = .bool false := hk 0 128 (by kernel_rfl) rfl
                      have t144 : a.tmps[144]?.getD undef = .bool false := hk 16 144 (by kernel_rfl) rfl
                      go_simp
                      exact New.refl _
                  intro w10 b10
                  rintro _ rfl _ rfl _ rfl _ rfl _ rfl _ rfl _ rfl _ rfl _ rfl _ rfl _ rfl _ rfl _ rfl _ rfl _ rfl _ rfl _ rfl _ rfl
                  try with_reducible replace b10 := New.undrawN b10
                  try with_reducible replace b10 := New.undraw b10
                  obtain ⟨c10, f10⟩ := b10.rules
                  have z10 := b10.size
                  try simp only [World.size_alloc, World.size_drew, World.heap_drewN, World.size_setCell] at z10
                  have z10_0 : w1.heap.size < w10.heap.size := by omega
                  have z10_1 : b < w10.heap.size := by omega
                  simp only [RG.EndAll, List.nil_append, List.cons_append, List.length_cons, List.length_nil, Nat.zero_add, Nat.reduceAdd, List.take_succ_cons, List.take_zero, List.drop_succ_cons, List.drop_zero, RG.putAll, Act.put, List.setIfInBounds_toArray, List.set_cons_succ, List.set_cons_zero]
                  go_wp2_with fail
                  go_roundw
                  case rel => exact ⟨at', k + 1, by omega, by go_num, by go_num, by omega, Lib.hid hst2, ((hb.trans b8).trans b9).trans b10⟩
                  case measure => simp [intOf]; omega
                · skip
                  refine RG.wp_facts [fun X _ => X = .bool false, fun X _ => X = .int .i64 at', fun X _ => X = .slice a6 N.length k6, fun X _ => X = .int .i64 N.length, fun X _ => X = .bool false, fun X _ => X = .bool false, fun X _ => X = undef, fun X _ => X = undef, fun X _ => X = undef, fun X _ => X = undef, fun X _ => X = undef, fun X _ => X = undef, fun X _ => X = undef, fun X _ => X = undef, fun X _ => X = undef, fun X _ => X = undef, fun X _ => X = .bool false, fun X _ => X = .bool false] (by kernel_rfl) (by kernel_rfl) ⟨RG.stable_eq _, RG.stable_eq _, RG.stable_eq _, RG.stable_eq _, RG.stable_eq _, RG.stable_eq _, RG.stable_eq _, RG.stable_eq _, RG.stable_eq _, RG.stable_eq _, RG.stable_eq _, RG.stable_eq _, RG.stable_eq _, RG.stable_eq _, RG.stable_eq _, RG.stable_eq _, RG.stable_eq _, RG.stable_eq _, trivial⟩ ?_ ?_
                  · refine ⟨?_, ?_, ?_, ?_, ?_, ?_, ?_, ?_, ?_, ?_, ?_, ?_, ?_, ?_, ?_, ?_, ?_, ?_, trivial⟩
                    · intro a w9 hw ho hk
                      refine .inl ⟨by rfl, ?_⟩
                      have t2 := ho 19 rfl
                      dsimp at t2
                      try with_reducible replace hw := New.undrawN hw
                      try with_reducible replace hw := New.undraw hw
                      obtain ⟨c, f'⟩ := hw.rules
                      go_simp
                      exact New.refl _
                    · intro a w9 hw ho hk
                      refine .inl ⟨by rfl, ?_⟩
                      have t2 := ho 13 rfl
                      dsimp at t2
                      try with_reducible replace hw := New.undrawN hw
                      try with_reducible replace hw := New.undraw hw
                      obtain ⟨c, f'⟩ := hw.rules
                      go_simp
                      exact New.refl _
                    · intro a w9 hw ho hk
                      refine .inl ⟨by rfl, ?_⟩
                      have t2 := ho 11 rfl
                      dsimp at t2
                      try with_reducible replace hw := New.undrawN hw
                      try with_reducible replace hw := New.undraw hw
                      obtain ⟨c, f'⟩ := hw.rules
                      go_simp
                      exact New.refl _
                    · intro a w9 hw ho hk
                      refine .inl ⟨by rfl, ?_⟩
                      have t130 : a.tmps[130]?.getD undef = .slice a6 N.length k6 := hk 2 130 (by kernel_rfl) rfl
                      go_simp
                      exact New.refl _
                    · intro a w9 hw ho hk
                      refine .inl ⟨by rfl, ?_⟩
                      have t129 : a.tmps[129]?.getD undef = .int .i64 at' := hk 1 129 (by kernel_rfl) rfl
                      have t131 : a.tmps[131]?.getD undef = .int .i64 N.length := hk 3 131 (by kernel_rfl) rfl
                      go_simp
                      exact New.refl _
                    · intro a w9 hw ho hk
                      refine .inl ⟨by rfl, ?_⟩
                      have t132 : a.tmps[132]?.getD undef = .bool false := hk 4 132 (by kernel_rfl) rfl
                      go_simp
                      exact New.refl _
                    · intro a w9 hw ho hk
                      have t133 : a.tmps[133]?.getD undef = .bool false := hk 5 133 (by kernel_rfl) rfl
                      exact .inr ⟨by simp [Region.wanted, yielded, RG.look t133], rfl⟩
                    · intro a w9 hw ho hk
                      have t133 : a.tmps[133]?.getD undef = .bool false := hk 5 133 (by kernel_rfl) rfl
                      exact .inr ⟨by simp [Region.wanted, yielded, RG.look t133], rfl⟩
                    · intro a w9 hw ho hk
                      have t133 : a.tmps[133]?.getD undef = .bool false := hk 5 133 (by kernel_rfl) rfl
                      exact .inr ⟨by simp [Region.wanted, yielded, RG.look t133], rfl⟩
                    · intro a w9 hw ho hk
                      have t133 : a.tmps[133]?.getD undef = .bool false := hk 5 133 (by kernel_rfl) rfl
                      exact .inr ⟨by simp [Region.wanted, yielded, RG.look t133], rfl⟩
                    · intro a w9 hw ho hk
                      have t133 : a.tmps[133]?.getD undef = .bool false := hk 5 133 (by kernel_rfl) rfl
                      exact .inr ⟨by simp [Region.wanted, yielded, RG.look t133], rfl⟩
                    · intro a w9 hw ho hk
                      have t133 : a.tmps[133]?.getD undef = .bool false := hk 5 133 (by kernel_rfl) rfl
                      exact .inr ⟨by simp [Region.wanted, yielded, RG.look t133], rfl⟩
                    · intro a w9 hw ho hk
                      have t133 : a.tmps[133]?.getD undef = .bool false := hk 5 133 (by kernel_rfl) rfl
                      exact .inr ⟨by simp [Region.wanted, yielded, RG.look t133], rfl⟩
                    · intro a w9 hw ho hk
                      have t133 : a.tmps[133]?.getD undef = .bool false := hk 5 133 (by kernel_rfl) rfl
                      exact .inr ⟨by simp [Region.wanted, yielded, RG.look t133], rfl⟩
                    · intro a w9 hw ho hk
                      have t133 : a.tmps[133]?.getD undef = .bool false := hk 5 133 (by kernel_rfl) rfl
                      exact .inr ⟨by simp [Region.wanted, yielded, RG.look t133], rfl⟩
                    · intro a w9 hw ho hk
                      have t133 : a.tmps[133]?.getD undef = .bool false := hk 5 133 (by kernel_rfl) rfl
                      exact .inr ⟨by simp [Region.wanted, yielded, RG.look t133], rfl⟩
                    · intro a w9 hw ho hk
                      refine .inl ⟨by rfl, ?_⟩
                      have t133 : a.tmps[133]?.getD undef = .bool false := hk 5 133 (by kernel_rfl) rfl
                      go_simp
                      exact New.refl _
                    · intro a w9 hw ho hk
                      refine .inl ⟨by rfl, ?_⟩
                      have t128 : a.tmps[128]?.getD undef = .bool false := hk 0 128 (by kernel_rfl) rfl
                      have t144 : a.tmps[144]?.getD undef = .bool false := hk 16 144 (by kernel_rfl) rfl
                      go_simp
                      exact New.refl _
                  intro w10 b10
                  rintro _ rfl _ rfl _ rfl _ rfl _ rfl _ rfl _ rfl _ rfl _ rfl _ rfl _ rfl _ rfl _ rfl _ rfl _ rfl _ rfl _ rfl _ rfl
                  try with_reducible replace b10 := New.undrawN b10
                  try with_reducible replace b10 := New.undraw b10
                  obtain ⟨c10, f10⟩ := b10.rules
                  have z10 := b10.size
                  try simp only [World.size_alloc, World.size_drew, World.heap_drewN, World.size_setCell] at z10
                  have z10_0 : w1.heap.size < w10.heap.size := by omega
                  have z10_1 : b < w10.heap.size := by omega
                  simp only [RG.EndAll, List.nil_append, List.cons_append, List.length_cons, List.length_nil, Nat.zero_add, Nat.reduceAdd, List.take_succ_cons, List.take_zero, List.drop_succ_cons, List.drop_zero, RG.putAll, Act.put, List.setIfInBounds_toArray, List.set_cons_succ, List.set_cons_zero]
                  go_wp2_with fail
                  go_roundw
                  case rel => exact ⟨at', k + 1, by omega, by go_num, by go_num, by omega, Lib.hid hst2, ((hb.trans b8).trans b9).trans b10⟩
                  case measure => simp [intOf]; omega
            · have hn0 : 0 < n := by rw [← hn]; simp
              clear hn
              obtain ⟨ub, uo, rfl, hubl, hu0⟩ := HU.out w9 (New.refl _) 0 (by simp)
              have hu1 : w9.cell? ⟨ub, uo, none⟩ = some (.int .i64 u) := by simpa using hu0
              replace hu0 : w9.cell? ⟨ub, uo + 0, none⟩ = some (.int .i64 u) := by simpa using hu0
              by_cases hu : u ≤ L
              · rw [decide_eq_true hu] at hr
                rcases HAT.out with ⟨_, ha, hxe, hst2⟩ | ⟨ht, _⟩
                · obtain ⟨nb, nof, rfl, hnl, hy⟩ := HNR.out w9 N69 at' ha
                  have hnb9 : nb < w9.heap.size := Nat.lt_of_lt_of_le hnl N69.size
                  rw [hxe] at hy
                  obtain ⟨y, hyx⟩ : ∃ y, y = x := ⟨_, rfl⟩
                  rw [← hyx] at hy
                  go_wp2_with fail
                  try rw [decide_eq_true hu]
                  subst hyx
                  have kv9 : w9.cell? ⟨w1.heap.size, 2, none⟩ = some (.slice (some ⟨b, off, none⟩) p.vars.length qd) := by rw [(KP6.new N69).rules.1]; rfl
                  have hx9 : w9.cell? ⟨b, off + k, none⟩ = some (.string y) := (New.cell (b8.trans b9) hbw).trans hx
                  refine RG.wp_facts [fun X _ => X = .bool true, fun X _ => X = .int .i64 at', fun X _ => X = .slice (some ⟨nb, nof, none⟩) N.length k6, fun X _ => X = .int .i64 N.length, fun X _ => X = .bool true, fun X _ => X = .bool true, fun X _ => X = .slice (some ⟨nb, nof, none⟩) N.length k6, fun X _ => X = .int .i64 at', fun X _ => X = .pointer (some ⟨nb, nof + at', none⟩), fun X _ => X = .string y, fun X _ => X = .pointer (some ⟨w1.heap.size, 2, none⟩), fun X _ => X = .slice (some ⟨b, off, none⟩) p.vars.length qd, fun X _ => X = .int .i64 k, fun X _ => X = .pointer (some ⟨b, off + k, none⟩), fun X _ => X = .string y, fun X _ => X = .bool true, fun X _ => X = .bool true, fun X _ => X = .bool false] (by kernel_rfl) (by kernel_rfl) ⟨RG.stable_eq _, RG.stable_eq _, RG.stable_eq _, RG.stable_eq _, RG.stable_eq _, RG.stable_eq _, RG.stable_eq _, RG.stable_eq _, RG.stable_eq _, RG.stable_eq _, RG.stable_eq _, RG.stable_eq _, RG.stable_eq _, RG.stable_eq _, RG.stable_eq _, RG.stable_eq _, RG.stable_eq _, RG.stable_eq _, trivial⟩ ?_ ?_
                  · refine ⟨?_, ?_, ?_, ?_, ?_, ?_, ?_, ?_, ?_, ?_, ?_, ?_, ?_, ?_, ?_, ?_, ?_, ?_, trivial⟩
                    · intro a w9 hw ho hk
                      refine .inl ⟨by rfl, ?_⟩
                      have t2 := ho 19 rfl
                      dsimp at t2
                      try with_reducible replace hw := New.undrawN hw
                      try with_reducible replace hw := New.undraw hw
                      obtain ⟨c, f'⟩ := hw.rules
                      go_simp
                      exact New.refl _
                    · intro a w9 hw ho hk
                      refine .inl ⟨by rfl, ?_⟩
                      have t2 := ho 13 rfl
                      dsimp at t2
                      try with_reducible replace hw := New.undrawN hw
                      try with_reducible replace hw := New.undraw hw
                      obtain ⟨c, f'⟩ := hw.rules
                      go_simp
                      exact New.refl _
                    · intro a w9 hw ho hk
                      refine .inl ⟨by rfl, ?_⟩
                      have t2 := ho 11 rfl
                      dsimp at t2
                      try with_reducible replace hw := New.undrawN hw
                      try with_reducible replace hw := New.undraw hw
                      obtain ⟨c, f'⟩ := hw.rules
                      go_simp
                      exact New.refl _
                    · intro a w9 hw ho hk
                      refine .inl ⟨by rfl, ?_⟩
                      have t130 : a.tmps[130]?.getD undef = .slice (some ⟨nb, nof, none⟩) N.length k6 := hk 2 130 (by kernel_rfl) rfl
                      go_simp
                      exact New.refl _
                    · intro a w9 hw ho hk
                      refine .inl ⟨by rfl, ?_⟩
                      have t129 : a.tmps[129]?.getD undef = .int .i64 at' := hk 1 129 (by kernel_rfl) rfl
                      have t131 : a.tmps[131]?.getD undef = .int .i64 N.length := hk 3 131 (by kernel_rfl) rfl
                      go_simp
                      exact New.refl _
                    · intro a w9 hw ho hk
                      refine .inl ⟨by rfl, ?_⟩
                      have t132 : a.tmps[132]?.getD undef = .bool true := hk 4 132 (by kernel_rfl) rfl
                      go_simp
                      exact New.refl _
                    · intro a w9 hw ho hk
                      have t133 : a.tmps[133]?.getD undef = .bool true := hk 5 133 (by kernel_rfl) rfl
                      refine .inl ⟨by simp [Region.wanted, yielded, RG.look t133], ?_⟩
                      have t2 := ho 11 rfl
                      dsimp at t2
                      try with_reducible replace hw := New.undrawN hw
                      try with_reducible replace hw := New.undraw hw
                      obtain ⟨c, f'⟩ := hw.rules
                      go_simp
                      exact New.refl _
                    · intro a w9 hw ho hk
                      have t133 : a.tmps[133]?.getD undef = .bool true := hk 5 133 (by kernel_rfl) rfl
                      refine .inl ⟨by simp [Region.wanted, yielded, RG.look t133], ?_⟩
                      have t2 := ho 13 rfl
                      dsimp at t2
                      try with_reducible replace hw := New.undrawN hw
                      try with_reducible replace hw := New.undraw hw
                      obtain ⟨c, f'⟩ := hw.rules
                      go_simp
                      exact New.refl _
                    · intro a w9 hw ho hk
                      have t133 : a.tmps[133]?.getD undef = .bool true := hk 5 133 (by kernel_rfl) rfl
                      refine .inl ⟨by simp [Region.wanted, yielded, RG.look t133], ?_⟩
                      have t134 : a.tmps[134]?.getD undef = .slice (some ⟨nb, nof, none⟩) N.length k6 := hk 6 134 (by kernel_rfl) rfl
                      have t135 : a.tmps[135]?.getD undef = .int .i64 at' := hk 7 135 (by kernel_rfl) rfl
                      go_simp
                      exact New.refl _
                    · intro a w9 hw ho hk
                      have t133 : a.tmps[133]?.getD undef = .bool true := hk 5 133 (by kernel_rfl) rfl
                      refine .inl ⟨by simp [Region.wanted, yielded, RG.look t133], ?_⟩
                      have t136 : a.tmps[136]?.getD undef = .pointer (some ⟨nb, nof + at', none⟩) := hk 8 136 (by kernel_rfl) rfl
                      try with_reducible replace hw := New.undrawN hw
                      try with_reducible replace hw := New.undraw hw
                      obtain ⟨c, f'⟩ := hw.rules
                      go_simp
                      exact New.refl _
                    · intro a w9 hw ho hk
                      have t133 : a.tmps[133]?.getD undef = .bool true := hk 5 133 (by kernel_rfl) rfl
                      refine .inl ⟨by simp [Region.wanted, yielded, RG.look t133], ?_⟩
                      have t2 := ho 3 rfl
                      dsimp at t2
                      try with_reducible replace hw := New.undrawN hw
                      try with_reducible replace hw := New.undraw hw
                      obtain ⟨c, f'⟩ := hw.rules
                      go_simp
                      exact New.refl _
                    · intro a w9 hw ho hk
                      have t133 : a.tmps[133]?.getD undef = .bool true := hk 5 133 (by kernel_rfl) rfl
                      refine .inl ⟨by simp [Region.wanted, yielded, RG.look t133], ?_⟩
                      have t138 : a.tmps[138]?.getD undef = .pointer (some ⟨w1.heap.size, 2, none⟩) := hk 10 138 (by kernel_rfl) rfl
                      try with_reducible replace hw := New.undrawN hw
                      try with_reducible replace hw := New.undraw hw
                      obtain ⟨c, f'⟩ := hw.rules
                      go_simp
                      exact New.refl _
                    · intro a w9 hw ho hk
                      have t133 : a.tmps[133]?.getD undef = .bool true := hk 5 133 (by kernel_rfl) rfl
                      refine .inl ⟨by simp [Region.wanted, yielded, RG.look t133], ?_⟩
                      have t2 := ho 14 rfl
                      dsimp at t2
                      try with_reducible replace hw := New.undrawN hw
                      try with_reducible replace hw := New.undraw hw
                      obtain ⟨c, f'⟩ := hw.rules
                      go_simp
                      exact New.refl _
                    · intro a w9 hw ho hk
                      have t133 : a.tmps[133]?.getD undef = .bool true := hk 5 133 (by kernel_rfl) rfl
                      refine .inl ⟨by simp [Region.wanted, yielded, RG.look t133], ?_⟩
                      have t139 : a.tmps[139]?.getD undef = .slice (some ⟨b, off, none⟩) p.vars.length qd := hk 11 139 (by kernel_rfl) rfl
                      have t140 : a.tmps[140]?.getD undef = .int .i64 k := hk 12 140 (by kernel_rfl) rfl
                      go_simp
                      exact New.refl _
                    · intro a w9 hw ho hk
                      have t133 : a.tmps[133]?.getD undef = .bool true := hk 5 133 (by kernel_rfl) rfl
                      refine .inl ⟨by simp [Region.wanted, yielded, RG.look t133], ?_⟩
                      have t141 : a.tmps[141]?.getD undef = .pointer (some ⟨b, off + k, none⟩) := hk 13 141 (by kernel_rfl) rfl
                      try with_reducible replace hw := New.undrawN hw
                      try with_reducible replace hw := New.undraw hw
                      obtain ⟨c, f'⟩ := hw.rules
                      go_simp
                      exact New.refl _
                    · intro a w9 hw ho hk
                      have t133 : a.tmps[133]?.getD undef = .bool true := hk 5 133 (by kernel_rfl) rfl
                      refine .inl ⟨by simp [Region.wanted, yielded, RG.look t133], ?_⟩
                      have t137 : a.tmps[137]?.getD undef = .string y := hk 9 137 (by kernel_rfl) rfl
                      have t142 : a.tmps[142]?.getD undef = .string y := hk 14 142 (by kernel_rfl) rfl
                      go_simp
                      exact New.refl _
                    · intro a w9 hw ho hk
                      refine .inl ⟨by rfl, ?_⟩
                      have t133 : a.tmps[133]?.getD undef = .bool true := hk 5 133 (by kernel_rfl) rfl
                      have t143 : a.tmps[143]?.getD undef = .bool true := hk 15 143 (by kernel_rfl) rfl
                      go_simp
                      exact New.refl _
                    · intro a w9 hw ho hk
                      refine .inl ⟨by rfl, ?_⟩
                      have t128 : a.tmps[128]?.getD undef = .bool true := hk 0 128 (by kernel_rfl) rfl
                      have t144 : a.tmps[144]?.getD undef = .bool true := hk 16 144 (by kernel_rfl) rfl
                      go_simp
                      exact New.refl _
                  intro w10 b10
                  rintro _ rfl _ rfl _ rfl _ rfl _ rfl _ rfl _ rfl _ rfl _ rfl _ rfl _ rfl _ rfl _ rfl _ rfl _ rfl _ rfl _ rfl _ rfl
                  try with_reducible replace b10 := New.undrawN b10
                  try with_reducible replace b10 := New.undraw b10
                  obtain ⟨c10, f10⟩ := b10.rules
                  have z10 := b10.size
                  try simp only [World.size_alloc, World.size_drew, World.heap_drewN, World.size_setCell] at z10
                  have z10_0 : w1.heap.size < w10.heap.size := by omega
                  have z10_1 : b < w10.heap.size := by omega
                  simp only [RG.EndAll, List.nil_append, List.cons_append, List.length_cons, List.length_nil, Nat.zero_add, Nat.reduceAdd, List.take_succ_cons, List.take_zero, List.drop_succ_cons, List.drop_zero, RG.putAll, Act.put, List.setIfInBounds_toArray, List.set_cons_succ, List.set_cons_zero]
                  go_wp2_with fail
                  go_roundw
                  case rel => exact ⟨at' + 1, k + 1, by omega, by go_num, by go_num, by omega, Lib.hid hst2, ((hb.trans b8).trans b9).trans b10⟩
                  case measure => simp [intOf]; omega
                · rw [hr] at ht; cases ht
              · rw [decide_eq_false hu] at hr
                rcases HAT.out with ⟨ht, _⟩ | ⟨_, hne, hst2⟩
                · rw [hr] at ht; cases ht
                · go_wp2_with fail
                  try rw [decide_eq_false hu]
                  by_cases ha : at' < N.length
                  · have hne := hne ha
                    obtain ⟨nb, nof, rfl, hnl, hy⟩ := HNR.out w9 N69 at' ha
                    have hnb9 : nb < w9.heap.size := Nat.lt_of_lt_of_le hnl N69.size
                    generalize N[at'] = y at hne hy
                    have kv9 : w9.cell? ⟨w1.heap.size, 2, none⟩ = some (.slice (some ⟨b, off, none⟩) p.vars.length qd) := by rw [(KP6.new N69).rules.1]; rfl
                    have hx9 : w9.cell? ⟨b, off + k, none⟩ = some (.string x) := (New.cell (b8.trans b9) hbw).trans hx
                    refine RG.wp_facts [fun X _ => X = .bool false, fun X _ => X = .int .i64 at', fun X _ => X = .slice (some ⟨nb, nof, none⟩) N.length k6, fun X _ => X = .int .i64 N.length, fun X _ => X = .bool true, fun X _ => X = .bool true, fun X _ => X = .slice (some ⟨nb, nof, none⟩) N.length k6, fun X _ => X = .int .i64 at', fun X _ => X = .pointer (some ⟨nb, nof + at', none⟩), fun X _ => X = .string y, fun X _ => X = .pointer (some ⟨w1.heap.size, 2, none⟩), fun X _ => X = .slice (some ⟨b, off, none⟩) p.vars.length qd, fun X _ => X = .int .i64 k, fun X _ => X = .pointer (some ⟨b, off + k, none⟩), fun X _ => X = .string x, fun X _ => X = .bool false, fun X _ => X = .bool false, fun X _ => X = .bool false] (by kernel_rfl) (by kernel_rfl) ⟨RG.stable_eq _, RG.stable_eq _, RG.stable_eq _, RG.stable_eq _, RG.stable_eq _, RG.stable_eq _, RG.stable_eq _, RG.stable_eq _, RG.stable_eq _, RG.stable_eq _, RG.stable_eq _, RG.stable_eq _, RG.stable_eq _, RG.stable_eq _, RG.stable_eq _, RG.stable_eq _, RG.stable_eq _, RG.stable_eq _, trivial⟩ ?_ ?_
                    · refine ⟨?_, ?_, ?_, ?_, ?_, ?_, ?_, ?_, ?_, ?_, ?_, ?_, ?_, ?_, ?_, ?_, ?_, ?_, trivial⟩
                      · intro a w9 hw ho hk
                        refine .inl ⟨by rfl, ?_⟩
                        have t2 := ho 19 rfl
                        dsimp at t2
                        try with_reducible replace hw := New.undrawN hw
                        try with_reducible replace hw := New.undraw hw
                        obtain ⟨c, f'⟩ := hw.rules
                        go_simp
                        exact New.refl _
                      · intro a w9 hw ho hk
                        refine .inl ⟨by rfl, ?_⟩
                        have t2 := ho 13 rfl
                        dsimp at t2
                        try with_reducible replace hw := New.undrawN hw
                        try with_reducible replace hw := New.undraw hw
                        obtain ⟨c, f'⟩ := hw.rules
                        go_simp
                        exact New.refl _
                      · intro a w9 hw ho hk
                        refine .inl ⟨by rfl, ?_⟩
                        have t2 := ho 11 rfl
                        dsimp at t2
                        try with_reducible replace hw := New.undrawN hw
                        try with_reducible replace hw := New.undraw hw
                        obtain ⟨c, f'⟩ := hw.rules
                        go_simp
                        exact New.refl _
                      · intro a w9 hw ho hk
                        refine .inl ⟨by rfl, ?_⟩
                        have t130 : a.tmps[130]?.getD undef = .slice (some ⟨nb, nof, none⟩) N.length k6 := hk 2 130 (by kernel_rfl) rfl
                        go_simp
                        exact New.refl _
                      · intro a w9 hw ho hk
                        refine .inl ⟨by rfl, ?_⟩
                        have t129 : a.tmps[129]?.getD undef = .int .i64 at' := hk 1 129 (by kernel_rfl) rfl
                        have t131 : a.tmps[131]?.getD undef = .int .i64 N.length := hk 3 131 (by kernel_rfl) rfl
                        go_simp
                        exact New.refl _
                      · intro a w9 hw ho hk
                        refine .inl ⟨by rfl, ?_⟩
                        have t132 : a.tmps[132]?.getD undef = .bool true := hk 4 132 (by kernel_rfl) rfl
                        go_simp
                        exact New.refl _
                      · intro a w9 hw ho hk
                        have t133 : a.tmps[133]?.getD undef = .bool true := hk 5 133 (by kernel_rfl) rfl
                        refine .inl ⟨by simp [Region.wanted, yielded, RG.look t133], ?_⟩
                        have t2 := ho 11 rfl
                        dsimp at t2
                        try with_reducible replace hw := New.undrawN hw
                        try with_reducible replace hw := New.undraw hw
                        obtain ⟨c, f'⟩ := hw.rules
                        go_simp
                        exact New.refl _
                      · intro a w9 hw ho hk
                        have t133 : a.tmps[133]?.getD undef = .bool true := hk 5 133 (by kernel_rfl) rfl
                        refine .inl ⟨by simp [Region.wanted, yielded, RG.look t133], ?_⟩
                        have t2 := ho 13 rfl
                        dsimp at t2
                        try with_reducible replace hw := New.undrawN hw
                        try with_reducible replace hw := New.undraw hw
                        obtain ⟨c, f'⟩ := hw.rules
                        go_simp
                        exact New.refl _
                      · intro a w9 hw ho hk
                        have t133 : a.tmps[133]?.getD undef = .bool true := hk 5 133 (by kernel_rfl) rfl
                        refine .inl ⟨by simp [Region.wanted, yielded, RG.look t133], ?_⟩
                        have t134 : a.tmps[134]?.getD undef = .slice (some ⟨nb, nof, none⟩) N.length k6 := hk 6 134 (by kernel_rfl) rfl
                        have t135 : a.tmps[135]?.getD undef = .int .i64 at' := hk 7 135 (by kernel_rfl) rfl
                        go_simp
                        exact New.refl _
                      · intro a w9 hw ho hk
                        have t133 : a.tmps[133]?.getD undef = .bool true := hk 5 133 (by kernel_rfl) rfl
                        refine .inl ⟨by simp [Region.wanted, yielded, RG.look t133], ?_⟩
                        have t136 : a.tmps[136]?.getD undef = .pointer (some ⟨nb, nof + at', none⟩) := hk 8 136 (by kernel_rfl) rfl
                        try with_reducible replace hw := New.undrawN hw
                        try with_reducible replace hw := New.undraw hw
                        obtain ⟨c, f'⟩ := hw.rules
                        go_simp
                        exact New.refl _
                      · intro a w9 hw ho hk
                        have t133 : a.tmps[133]?.getD undef = .bool true := hk 5 133 (by kernel_rfl) rfl
                        refine .inl ⟨by simp [Region.wanted, yielded, RG.look t133], ?_⟩
                        have t2 := ho 3 rfl
                        dsimp at t2
                        try with_reducible replace hw := New.undrawN hw
                        try with_reducible replace hw := New.undraw hw
                        obtain ⟨c, f'⟩ := hw.rules
                        go_simp
                        exact New.refl _
                      · intro a w9 hw ho hk
                        have t133 : a.tmps[133]?.getD undef = .bool true := hk 5 133 (by kernel_rfl) rfl
                        refine .inl ⟨by simp [Region.wanted, yielded, RG.look t133], ?_⟩
                        have t138 : a.tmps[138]?.getD undef = .pointer (some ⟨w1.heap.size, 2, none⟩) := hk 10 138 (by kernel_rfl) rfl
                        try with_reducible replace hw := New.undrawN hw
                        try with_reducible replace hw := New.undraw hw
                        obtain ⟨c, f'⟩ := hw.rules
                        go_simp
                        exact New.refl _
                      · intro a w9 hw ho hk
                        have t133 : a.tmps[133]?.getD undef = .bool true := hk 5 133 (by kernel_rfl) rfl
                        refine .inl ⟨by simp [Region.wanted, yielded, RG.look t133], ?_⟩
                        have t2 := ho 14 rfl
                        dsimp at t2
                        try with_reducible replace hw := New.undrawN hw
                        try with_reducible replace hw := New.undraw hw
                        obtain ⟨c, f'⟩ := hw.rules
                        go_simp
                        exact New.refl _
                      · intro a w9 hw ho hk
                        have t133 : a.tmps[133]?.getD undef = .bool true := hk 5 133 (by kernel_rfl) rfl
                        refine .inl ⟨by simp [Region.wanted, yielded, RG.look t133], ?_⟩
                        have t139 : a.tmps[139]?.getD undef = .slice (some ⟨b, off, none⟩) p.vars.length qd := hk 11 139 (by kernel_rfl) rfl
                        have t140 : a.tmps[140]?.getD undef = .int .i64 k := hk 12 140 (by kernel_rfl) rfl
                        go_simp
                        exact New.refl _
                      · intro a w9 hw ho hk
                        have t133 : a.tmps[133]?.getD undef = .bool true := hk 5 133 (by kernel_rfl) rfl
                        refine .inl ⟨by simp [Region.wanted, yielded, RG.look t133], ?_⟩
                        have t141 : a.tmps[141]?.getD undef = .pointer (some ⟨b, off + k, none⟩) := hk 13 141 (by kernel_rfl) rfl
                        try with_reducible replace hw := New.undrawN hw
                        try with_reducible replace hw := New.undraw hw
                        obtain ⟨c, f'⟩ := hw.rules
                        go_simp
                        exact New.refl _
                      · intro a w9 hw ho hk
                        have t133 : a.tmps[133]?.getD undef = .bool true := hk 5 133 (by kernel_rfl) rfl
                        refine .inl ⟨by simp [Region.wanted, yielded, RG.look t133], ?_⟩
                        have t137 : a.tmps[137]?.getD undef = .string y := hk 9 137 (by kernel_rfl) rfl
                        have t142 : a.tmps[142]?.getD undef = .string x := hk 14 142 (by kernel_rfl) rfl
                        go_simp
                        exact New.refl _
                      · intro a w9 hw ho hk
                        refine .inl ⟨by rfl, ?_⟩
                        have t133 : a.tmps[133]?.getD undef = .bool true := hk 5 133 (by kernel_rfl) rfl
                        have t143 : a.tmps[143]?.getD undef = .bool false := hk 15 143 (by kernel_rfl) rfl
                        go_simp
                        exact New.refl _
                      · intro a w9 hw ho hk
                        refine .inl ⟨by rfl, ?_⟩
                        have t128 : a.tmps[128]?.getD undef = .bool false := hk 0 128 (by kernel_rfl) rfl
                        have t144 : a.tmps[144]?.getD undef = .bool false := hk 16 144 (by kernel_rfl) rfl
                        go_simp
                        exact New.refl _
                    intro w10 b10
                    rintro _ rfl _ rfl _ rfl _ rfl _ rfl _ rfl _ rfl _ rfl _ rfl _ rfl _ rfl _ rfl _ rfl _ rfl _ rfl _ rfl _ rfl _ rfl
                    try with_reducible replace b10 := New.undrawN b10
                    try with_reducible replace b10 := New.undraw b10
                    obtain ⟨c10, f10⟩ := b10.rules
                    have z10 := b10.size
                    try simp only [World.size_alloc, World.size_drew, World.heap_drewN, World.size_setCell] at z10
                    have z10_0 : w1.heap.size < w10.heap.size := by omega
                    have z10_1 : b < w10.heap.size := by omega
                    simp only [RG.EndAll, List.nil_append, List.cons_append, List.length_cons, List.length_nil, Nat.zero_add, Nat.reduceAdd, List.take_succ_cons, List.take_zero, List.drop_succ_cons, List.drop_zero, RG.putAll, Act.put, List.setIfInBounds_toArray, List.set_cons_succ, List.set_cons_zero]
                    go_wp2_with fail
                    go_roundw
                    case rel => exact ⟨at', k + 1, by omega, by go_num, by go_num, by omega, Lib.hid hst2, ((hb.trans b8).trans b9).trans b10⟩
                    case measure => simp [intOf]; omega
                  · skip
                    refine RG.wp_facts [fun X _ => X = .bool false, fun X _ => X = .int .i64 at', fun X _ => X = .slice a6 N.length k6, fun X _ => X = .int .i64 N.length, fun X _ => X = .bool false, fun X _ => X = .bool false, fun X _ => X = undef, fun X _ => X = undef, fun X _ => X = undef, fun X _ => X = undef, fun X _ => X = undef, fun X _ => X = undef, fun X _ => X = undef, fun X _ => X = undef, fun X _ => X = undef, fun X _ => X = undef, fun X _ => X = .bool false, fun X _ => X = .bool false] (by kernel_rfl) (by kernel_rfl) ⟨RG.stable_eq _, RG.stable_eq _, RG.stable_eq _, RG.stable_eq _, RG.stable_eq _, RG.stable_eq _, RG.stable_eq _, RG.stable_eq _, RG.stable_eq _, RG.stable_eq _, RG.stable_eq _, RG.stable_eq _, RG.stable_eq _, RG.stable_eq _, RG.stable_eq _, RG.stable_eq _, RG.stable_eq _, RG.stable_eq _, trivial⟩ ?_ ?_
                    · refine ⟨?_, ?_, ?_, ?_, ?_, ?_, ?_, ?_, ?_, ?_, ?_, ?_, ?_, ?_, ?_, ?_, ?_, ?_, trivial⟩
                      · intro a w9 hw ho hk
                        refine .inl ⟨by rfl, ?_⟩
                        have t2 := ho 19 rfl
                        dsimp at t2
                        try with_reducible replace hw := New.undrawN hw
                        try with_reducible replace hw := New.undraw hw
                        obtain ⟨c, f'⟩ := hw.rules
                        go_simp
                        exact New.refl _
                      · intro a w9 hw ho hk
                        refine .inl ⟨by rfl, ?_⟩
                        have t2 := ho 13 rfl
                        dsimp at t2
                        try with_reducible replace hw := New.undrawN hw
                        try with_reducible replace hw := New.undraw hw
                        obtain ⟨c, f'⟩ := hw.rules
                        go_simp
                        exact New.refl _
                      · intro a w9 hw ho hk
                        refine .inl ⟨by rfl, ?_⟩
                        have t2 := ho 11 rfl
                        dsimp at t2
                        try with_reducible replace hw := New.undrawN hw
                        try with_reducible replace hw := New.undraw hw
                        obtain ⟨c, f'⟩ := hw.rules
                        go_simp
                        exact New.refl _
                      · intro a w9 hw ho hk
                        refine .inl ⟨by rfl, ?_⟩
                        have t130 : a.tmps[130]?.getD undef = .slice a6 N.length k6 := hk 2 130 (by kernel_rfl) rfl
                        go_simp
                        exact New.refl _
                      · intro a w9 hw ho hk
                        refine .inl ⟨by rfl, ?_⟩
                        have t129 : a.tmps[129]?.getD undef = .int .i64 at' := hk 1 129 (by kernel_rfl) rfl
                        have t131 : a.tmps[131]?.getD undef = .int .i64 N.length := hk 3 131 (by kernel_rfl) rfl
                        go_simp
                        exact New.refl _
                      · intro a w9 hw ho hk
                        refine .inl ⟨by rfl, ?_⟩
                        have t132 : a.tmps[132]?.getD undef = .bool false := hk 4 132 (by kernel_rfl) rfl
                        go_simp
                        exact New.refl _
                      · intro a w9 hw ho hk
                        have t133 : a.tmps[133]?.getD undef = .bool false := hk 5 133 (by kernel_rfl) rfl
                        exact .inr ⟨by simp [Region.wanted, yielded, RG.look t133], rfl⟩
                      · intro a w9 hw ho hk
                        have t133 : a.tmps[133]?.getD undef = .bool false := hk 5 133 (by kernel_rfl) rfl
                        exact .inr ⟨by simp [Region.wanted, yielded, RG.look t133], rfl⟩
                      · intro a w9 hw ho hk
                        have t133 : a.tmps[133]?.getD undef = .bool false := hk 5 133 (by kernel_rfl) rfl
                        exact .inr ⟨by simp [Region.wanted, yielded, RG.look t133], rfl⟩
                      · intro a w9 hw ho hk
                        have t133 : a.tmps[133]?.getD undef = .bool false := hk 5 133 (by kernel_rfl) rfl
                        exact .inr ⟨by simp [Region.wanted, yielded, RG.look t133], rfl⟩
                      · intro a w9 hw ho hk
                        have t133 : a.tmps[133]?.getD undef = .bool false := hk 5 133 (by kernel_rfl) rfl
                        exact .inr ⟨by simp [Region.wanted, yielded, RG.look t133], rfl⟩
                      · intro a w9 hw ho hk
                        have t133 : a.tmps[133]?.getD undef = .bool false := hk 5 133 (by kernel_rfl) rfl
                        exact .inr ⟨by simp [Region.wanted, yielded, RG.look t133], rfl⟩
                      · intro a w9 hw ho hk
                        have t133 : a.tmps[133]?.getD undef = .bool false := hk 5 133 (by kernel_rfl) rfl
                        exact .inr ⟨by simp [Region.wanted, yielded, RG.look t133], rfl⟩
                      · intro a w9 hw ho hk
                        have t133 : a.tmps[133]?.getD undef = .bool false := hk 5 133 (by kernel_rfl) rfl
                        exact .inr ⟨by simp [Region.wanted, yielded, RG.look t133], rfl⟩
                      · intro a w9 hw ho hk
                        have t133 : a.tmps[133]?.getD undef = .bool false := hk 5 133 (by kernel_rfl) rfl
                        exact .inr ⟨by simp [Region.wanted, yielded, RG.look t133], rfl⟩
                      · intro a w9 hw ho hk
                        have t133 : a.tmps[133]?.getD undef = .bool false := hk 5 133 (by kernel_rfl) rfl
                        exact .inr ⟨by simp [Region.wanted, yielded, RG.look t133], rfl⟩
                      · intro a w9 hw ho hk
                        refine .inl ⟨by rfl, ?_⟩
                        have t133 : a.tmps[133]?.getD undef = .bool false := hk 5 133 (by kernel_rfl) rfl
                        go_simp
                        exact New.refl _
                      · intro a w9 hw ho hk
                        refine .inl ⟨by rfl, ?_⟩
                        have t128 : a.tmps[128]?.getD undef = .bool false := hk 0 128 (by kernel_rfl) rfl
                        have t144 : a.tmps[144]?.getD undef = .bool false := hk 16 144 (by kernel_rfl) rfl
                        go_simp
                        exact New.refl _
                    intro w10 b10
                    rintro _ rfl _ rfl _ rfl _ rfl _ rfl _ rfl _ rfl _ rfl _ rfl _ rfl _ rfl _ rfl _ rfl _ rfl _ rfl _ rfl _ rfl _ rfl
                    try with_reducible replace b10 := New.undrawN b10
                    try with_reducible replace b10 := New.undraw b10
                    obtain ⟨c10, f10⟩ := b10.rules
                    have z10 := b10.size
                    try simp only [World.size_alloc, World.size_drew, World.heap_drewN, World.size_setCell] at z10
                    have z10_0 : w1.heap.size < w10.heap.size := by omega
                    have z10_1 : b < w10.heap.size := by omega
                    simp only [RG.EndAll, List.nil_append, List.cons_append, List.length_cons, List.length_nil, Nat.zero_add, Nat.reduceAdd, List.take_succ_cons, List.take_zero, List.drop_succ_cons, List.drop_zero, RG.putAll, Act.put, List.setIfInBounds_toArray, List.set_cons_succ, List.set_cons_zero]
                    go_wp2_with fail
                    go_roundw
                    case rel => exact ⟨at', k + 1, by omega, by go_num, by go_num, by omega, Lib.hid hst2, ((hb.trans b8).trans b9).trans b10⟩
                    case measure => simp [intOf]; omega
          · obtain rfl : k = p.vars.length := by omega
            go_wp2_with fail
            go_ret
            exact ⟨rfl, Nwr⟩
      · go_wp2_with fail
        go_ret
        exact ⟨rfl, Nw6.trans b7⟩
      · go_wp2_with fail
        go_ret
        exact ⟨rfl, Nw6.trans b7⟩
namespace fnSound
theorem own : ownKnob Tryd.prog.godebug = none := by kernel_rfl
theorem reads : (Tryd.f4.params.toList.all fun t => Tryd.prog.readableRec t && decide (t < Tryd.prog.types.size)) = true := by kernel_rfl
set_option maxRecDepth 100000 in
noncomputable def laidWorld (os : Os) : World :=
  { World.holding Tryd.prog os ⟨#[], #[], []⟩ with heap := (World.holding Tryd.prog os ⟨#[], #[], []⟩).heap.modify 0 fun
      | .cells _ t frozen => .cells (keyData.map fun z => Value.string (kw z)).toArray t frozen
      | o => o }
theorem laid_met (os : Os) : laidMet Tryd.prog Rows.fnSoundRow.laid ((laidWorld os).forCall (fun _ _ => 0) ⟨#[], #[.slice none 0 0], []⟩).memory :=
  laidMet_of_run' 8 (by kernel_rfl) (by kernel_rfl)
theorem reading (os : Os) {H : Type} (enc : TypeId × Value → H) : ∃ x, DataW.whole enc Tryd.prog ((laidWorld os).forCall (fun _ _ => 0) ⟨#[], #[.slice none 0 0], []⟩).memory Tryd.f4.params.toList Rows.fnSoundSpec.vars false (#[.slice none 0 0] : Array Value).toList 8 = some x :=
  Option.isSome_iff_exists.1 (by kernel_rfl)
theorem lifted (os : Os) (started : os.Started) (H : Type) (enc : TypeId × Value → H) (F : Stop.Interp) :
    ReturnsInHanded {} Tryd.checked os 4 .any ((OpenSpec.ofChange Rows.fnSoundSpec).preRow enc Tryd.prog Tryd.f4 Rows.fnSoundRow.domain false Rows.fnSoundRow.laid) (((OpenSpec.ofChange Rows.fnSoundSpec).at F).post enc Tryd.prog Tryd.f4 false true false false) := by
  obtain ⟨x, hx⟩ := reading os enc
  refine returnsInHanded_of_row (C := Tryd.checked) (s := OpenSpec.ofChange Rows.fnSoundSpec) own started (by kernel_rfl) Tryd.func4
    (witness_row_at (enc := enc) (C := Tryd.checked) false (laidWorld os) #[.slice none 0 0] rfl (by kernel_rfl) (by kernel_rfl) (by kernel_rfl)
      (OpenSpec.preRow_of_cond 8 hx (by first | rfl | kernel_rfl) (fun k hk => by cases hk) (by kernel_rfl) (laid_met os))) ?_
  intro W base args ds gs before hval0 hW _ _ _ hL _ _
  have hkw : KW W := keys_of_laid hL
  have hval : ∀ (j : Nat) t v, Tryd.f4.params[j]? = some t → args[j]? = some v → Value.okWide Tryd.prog W .any base t v := hval0
  have hW' := hW
  obtain ⟨p, q, hA0, hV, rfl, hfz, hnd⟩ := hW
  have hA : DataW.TrodAll enc Tryd.prog W 0 (fun _ => true) true Tryd.f4.params.toList args.toList ds p := hA0
  rw [Tryd.params4] at hA hval
  obtain ⟨v0, vs0, d0, ds0, p0, q0, hargs, rfl, rfl, h0, r0⟩ := trodAll_cons hA
  obtain ⟨rfl, rfl, rfl⟩ := trodAll_nil r0
  obtain rfl : args = #[v0] := by cases args; simp_all
  have o0 := hval 0 22 v0 rfl rfl
  clear hA0 hval hval0
  obtain ⟨_, _, _, _, gd, _, rfl, _, _, _, _, rfl⟩ := trodVars_one hV
  have walk : Calls Tryd.prog 4 #[v0] W fun e w' => e = .returned (.bool true) ∧ New W w' := by
    obtain ⟨bs, hbs, hbb⟩ := openCode h0 o0
    exact fnSound_any _ bs W hbs hbb hkw
  refine walk.mono fun e W' ⟨he, hg⟩ => ?_
  subst he
  exact ⟨_, rfl, law_post laidOut (fun t ht => reads_of reads t ht) (fun n hn g t hg ht => by
    obtain rfl : n = "loop.example/g00916/impl.keywords" := List.mem_singleton.1 hn
    obtain rfl : 0 = g := Option.some.inj ((show Tryd.prog.globalNamed "loop.example/g00916/impl.keywords" = some 0 by kernel_rfl).symm.trans hg)
    obtain rfl : 164 = t := Option.some.inj ((show (Tryd.prog.globals[0]?).map (·.type) = some 164 by kernel_rfl).symm.trans ht)
    exact ⟨by kernel_rfl, of_decide_eq_true (by kernel_rfl)⟩) rfl Tryd.underlying4 hW' rfl hg⟩
theorem said : Rows.FnSoundSaid :=
  OpenClaim.holds_of_cond 4 Tryd.f4 rfl rfl rfl rfl rfl rfl rfl ⟨rfl, rfl, rfl, rfl, rfl⟩ rfl rfl rfl rfl rfl (by kernel_rfl) Tryd.func4 (by kernel_rfl)
    (of_decide_eq_true (by kernel_rfl)) (by unfold Func.isWrapper; first | (rw [if_pos (by decide +kernel)]; kernel_rfl) | (rw [if_neg (by decide +kernel)]; exact ⟨rfl, rfl⟩))
    (fun os started H enc _ F => by rw [OpenClaim.pre_eq_preRow]; exact lifted os started H enc F)
theorem plain (f : FuncId) (fn : Func) (hf : Tryd.pinned.checked.prog.funcNamed "loop.example/g00916/laws.FnSound" = some f) (hfn : Tryd.pinned.checked.prog.funcs[f]? = some fn) :
    false = Tryd.pinned.checked.prog.looks [] ∧ ∀ (j : Nat) t, fn.params[j]? = some t → Tryd.pinned.checked.prog.wantsStandIn t = false := by
  obtain rfl : f = 4 := Option.some.inj ((show Tryd.prog.funcNamed "loop.example/g00916/laws.FnSound" = some 4 by kernel_rfl).symm.trans hf) |>.symm
  obtain rfl : fn = Tryd.f4 := (Option.some.inj (Tryd.func4.symm.trans hfn)).symm
  refine ⟨by kernel_rfl, fun j t ht => ?_⟩
  rw [Tryd.params4] at ht
  have hm : t ∈ ([22] : List TypeId) := by simpa using Array.mem_of_getElem? ht
  have all : (([22] : List TypeId).all fun t => !Tryd.prog.wantsStandIn t) = true := by kernel_rfl
  have := List.all_eq_true.1 all t hm
  show Tryd.prog.wantsStandIn t = false
  exact (Bool.not_eq_true _).mp (fun h => by rw [h] at this; cases this)
theorem card : Rows.FnSoundCardSaid :=
  Claim7.holds_tied_plain_at .later [] _ _ _ _ said (fun _ h => by cases h) (by kernel_rfl) (fun _ h => by cases h) fnSound_row_tie rfl ⟨rfl, rfl⟩ (by kernel_rfl) rfl plain (by kernel_rfl)
#print axioms card
end fnSound
end Go.Proofs.YteielmihlfakgaaDoor
