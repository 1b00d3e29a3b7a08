/- Contracts: the program's compiling of a program. -/
import Derived.Test.YtadoocadohdfcaaGreatDoorProg
import Derived.Test.YtadoocadohdfcaaGreatDoorCompI
import Derived.Test.YtadoocadohdfcaaGreatDoorCompS
namespace Go.Proofs.YtadoocadohdfcaaGreatDoor
open Go Go.Proofs Go.RowKit
set_option linter.unusedVariables false
set_option linter.unusedSimpArgs false
set_option maxRecDepth 100000
theorem lengthS17_any (v : Value) (xs : List ByteArray) (w : World) (hv : RdS w v xs) : Calls Tryz.prog 70 #[v] w fun e w' => e = .returned (.int .i64 xs.length) ∧ New w w' := by
  obtain ⟨a, cap, rfl, hn, _⟩ := hv
  go_enter Tryz.func70, Tryz.ntmps70
  go_wp2_with fail
  go_ret
  exact ⟨rfl, (by repeat (first | with_reducible exact New.refl _ | with_reducible assumption | with_reducible refine New.drew ?_ | with_reducible refine New.drewN ?_ _ | with_reducible refine New.alloc ?_ _ | with_reducible refine New.setCell ?_ (by first | (simp; done) | (simp; omega) | omega) _ | with_reducible refine New.trans ?_ (by with_reducible assumption)))⟩
set_option maxHeartbeats 2000000 in
theorem newCompiler_any (p : ProgD) (iv vv ov lv : Value) (w : World) (hp : RdP w p iv vv ov lv) (hw : wB p = true) :
    Calls Tryz.prog 40 #[valP p iv vv ov lv] w fun e w' => ∃ O bv, e = .returned (.pointer (some ⟨O, 0, none⟩)) ∧ w.heap.size ≤ O ∧ CompSt w O p iv vv ov lv bv [] 0 w' := by
  have HP := Lib.hid hp
  obtain ⟨ia, ic, rfl, _⟩ := id hp.ins
  obtain ⟨va, vc, rfl, _⟩ := id hp.vars
  obtain ⟨oa, oc, rfl, _⟩ := id hp.outs
  clear hp
  have HB := Lib.hid (fun (w0 : World) (h : New w w0) => iBlocks0_any p _ _ _ _ w0 (HP.out.new h) hw)
  go_enter Tryz.func40, Tryz.ntmps40
  go_wp2_with fail
  have hbx : Blk (w.alloc (.cells #[.string p.name, .slice ia p.inputs.length ic, .slice va p.vars.length vc, .slice oa p.outputs.length oc, .string p.guard, lv] 35)) w.heap.size _ _ := Blk.alloc_at rfl
  have hn0 : New w (w.alloc (.cells #[.string p.name, .slice ia p.inputs.length ic, .slice va p.vars.length vc, .slice oa p.outputs.length oc, .string p.guard, lv] 35)) := (New.refl w).alloc _
  refine RG.wp_facts [fun X _ => X = .agg #[.string p.name, .slice ia p.inputs.length ic, .slice va p.vars.length vc, .slice oa p.outputs.length oc, .string p.guard, lv], fun X _ => X = .pointer (some ⟨w.heap.size, 1, none⟩), fun X _ => X = .slice ia p.inputs.length ic, fun X _ => X = .int .i64 p.inputs.length, fun X _ => X = .pointer (some ⟨w.heap.size, 2, none⟩), fun X _ => X = .slice va p.vars.length vc, fun X _ => X = .int .i64 p.vars.length, fun X _ => X = .pointer (some ⟨w.heap.size, 3, none⟩), fun X _ => X = .slice oa p.outputs.length oc, fun X _ => X = .int .i64 p.outputs.length, fun X _ => X = .agg #[.string p.name, .slice ia p.inputs.length ic, .slice va p.vars.length vc, .slice oa p.outputs.length oc, .string p.guard, lv], fun X W' => ∃ q c, X = .slice q (blkP p).length c ∧ W'.ownsRow w.heap.size 63 3 (.slice q (blkP p).length c) (blkP p).length ((blkP p).flatMap encTerm), fun X W' => ∃ q c, X = .agg #[.int .i64 p.inputs.length, .int .i64 p.vars.length, .int .i64 p.outputs.length, .slice q (blkP p).length c, .slice none 0 0] ∧ W'.ownsRow w.heap.size 63 3 (.slice q (blkP p).length c) (blkP p).length ((blkP p).flatMap encTerm), fun X W' => ∃ q c, X = .agg #[.string p.name, .slice ia p.inputs.length ic, .slice va p.vars.length vc, .slice oa p.outputs.length oc, .string p.guard, lv, .int .i64 p.inputs.length, .int .i64 p.vars.length, .int .i64 p.outputs.length, .slice q (blkP p).length c, .slice none 0 0, .int .i64 0] ∧ W'.ownsRow w.heap.size 63 3 (.slice q (blkP p).length c) (blkP p).length ((blkP p).flatMap encTerm), fun X W' => ∃ q v, X = .pointer (some ⟨q, 0, none⟩) ∧ w.heap.size ≤ q ∧ Blk W' q #[.string p.name, .slice ia p.inputs.length ic, .slice va p.vars.length vc, .slice oa p.outputs.length oc, .string p.guard, lv, .int .i64 p.inputs.length, .int .i64 p.vars.length, .int .i64 p.outputs.length, v, .slice none 0 0, .int .i64 0] 76 ∧ W'.ownsRow w.heap.size 63 3 v (blkP p).length ((blkP p).flatMap encTerm)] (by kernel_rfl) (by kernel_rfl) ⟨RG.stable_eq _, RG.stable_eq _, RG.stable_eq _, RG.stable_eq _, RG.stable_eq _, RG.stable_eq _, RG.stable_eq _, RG.stable_eq _, RG.stable_eq _, RG.stable_eq _, RG.stable_eq _, fun X w0 w1 hn ⟨q14, k14, t14, r14⟩ => ⟨q14, k14, t14, own_new r14 hn⟩, fun X w0 w1 hn ⟨q15, k15, t15, r15⟩ => ⟨q15, k15, t15, own_new r15 hn⟩, fun X w0 w1 hn ⟨q16, k16, t16, r16⟩ => ⟨q16, k16, t16, own_new r16 hn⟩, fun X w0 w1 hn ⟨q17, v17, t17, l17, k17, r17⟩ => ⟨q17, v17, t17, l17, k17.new hn, own_new r17 hn⟩, trivial⟩ ?_ ?_
  · refine ⟨?_, ?_, ?_, ?_, ?_, ?_, ?_, ?_, ?_, ?_, ?_, ?_, ?_, ?_, ?_, trivial⟩
    · intro a w9 hw ho hk
      refine .inl ⟨by rfl, ?_⟩
      have t2 := ho 1 rfl
      dsimp at t2
      try with_reducible replace hw := New.undrawN hw
      try with_reducible replace hw := New.undraw hw
      obtain ⟨c, f'⟩ := hw.rules
      go_simp
      exact New.refl _
    · intro a w9 hw ho hk
      refine .inl ⟨by rfl, ?_⟩
      have t2 := ho 1 rfl
      dsimp at t2
      try with_reducible replace hw := New.undrawN hw
      try with_reducible replace hw := New.undraw hw
      obtain ⟨c, f'⟩ := hw.rules
      go_simp
      exact New.refl _
    · intro a w9 hw ho hk
      refine .inl ⟨by rfl, ?_⟩
      have t4 : a.tmps[4]?.getD undef = .pointer (some ⟨w.heap.size, 1, none⟩) := hk 1 4 (by kernel_rfl) rfl
      try with_reducible replace hw := New.undrawN hw
      try with_reducible replace hw := New.undraw hw
      obtain ⟨c, f'⟩ := hw.rules
      go_simp
      exact New.refl _
    · intro a w9 hw ho hk
      refine .inl ⟨by rfl, ?_⟩
      have t5 : a.tmps[5]?.getD undef = .slice ia p.inputs.length ic := hk 2 5 (by kernel_rfl) rfl
      go_simp
      refine (lengthS17_any _ p.inputs _ (Rd.new HP.out.ins (hn0.trans hw))).mono ?_; rintro e w2 ⟨rfl, hb⟩
      first | exact ⟨hb, _, rfl, by simp⟩ | exact ⟨hb, by simp⟩
    · intro a w9 hw ho hk
      refine .inl ⟨by rfl, ?_⟩
      have t2 := ho 1 rfl
      dsimp at t2
      try with_reducible replace hw := New.undrawN hw
      try with_reducible replace hw := New.undraw hw
      obtain ⟨c, f'⟩ := hw.rules
      go_simp
      exact New.refl _
    · intro a w9 hw ho hk
      refine .inl ⟨by rfl, ?_⟩
      have t7 : a.tmps[7]?.getD undef = .pointer (some ⟨w.heap.size, 2, none⟩) := hk 4 7 (by kernel_rfl) rfl
      try with_reducible replace hw := New.undrawN hw
      try with_reducible replace hw := New.undraw hw
      obtain ⟨c, f'⟩ := hw.rules
      go_simp
      exact New.refl _
    · intro a w9 hw ho hk
      refine .inl ⟨by rfl, ?_⟩
      have t8 : a.tmps[8]?.getD undef = .slice va p.vars.length vc := hk 5 8 (by kernel_rfl) rfl
      go_simp
      refine (lengthS17_any _ p.vars _ (Rd.new HP.out.vars (hn0.trans hw))).mono ?_; rintro e w2 ⟨rfl, hb⟩
      first | exact ⟨hb, _, rfl, by simp⟩ | exact ⟨hb, by simp⟩
    · intro a w9 hw ho hk
      refine .inl ⟨by rfl, ?_⟩
      have t2 := ho 1 rfl
      dsimp at t2
      try with_reducible replace hw := New.undrawN hw
      try with_reducible replace hw := New.undraw hw
      obtain ⟨c, f'⟩ := hw.rules
      go_simp
      exact New.refl _
    · intro a w9 hw ho hk
      refine .inl ⟨by rfl, ?_⟩
      have t10 : a.tmps[10]?.getD undef = .pointer (some ⟨w.heap.size, 3, none⟩) := hk 7 10 (by kernel_rfl) rfl
      try with_reducible replace hw := New.undrawN hw
      try with_reducible replace hw := New.undraw hw
      obtain ⟨c, f'⟩ := hw.rules
      go_simp
      exact New.refl _
    · intro a w9 hw ho hk
      refine .inl ⟨by rfl, ?_⟩
      have t11 : a.tmps[11]?.getD undef = .slice oa p.outputs.length oc := hk 8 11 (by kernel_rfl) rfl
      go_simp
      refine (lengthS17_any _ p.outputs _ (Rd.new HP.out.outs (hn0.trans hw))).mono ?_; rintro e w2 ⟨rfl, hb⟩
      first | exact ⟨hb, _, rfl, by simp⟩ | exact ⟨hb, by simp⟩
    · intro a w9 hw ho hk
      refine .inl ⟨by rfl, ?_⟩
      have t2 := ho 1 rfl
      dsimp at t2
      try with_reducible replace hw := New.undrawN hw
      try with_reducible replace hw := New.undraw hw
      obtain ⟨c, f'⟩ := hw.rules
      go_simp
      exact New.refl _
    · intro a w9 hw ho hk
      refine .inl ⟨by rfl, ?_⟩
      have t13 : a.tmps[13]?.getD undef = .agg #[.string p.name, .slice ia p.inputs.length ic, .slice va p.vars.length vc, .slice oa p.outputs.length oc, .string p.guard, lv] := hk 10 13 (by kernel_rfl) rfl
      go_simp
      refine (HB.out _ (hn0.trans hw)).mono ?_; rintro e w2 ⟨r, rfl, hb, o1⟩
      obtain ⟨qa, qc, rfl⟩ := own_slice o1; have hws := (hn0.trans hw).size; first | exact ⟨hb, _, rfl, _, _, rfl, own_base o1 (by omega)⟩ | exact ⟨hb, _, _, by simp, own_base o1 (by omega)⟩
    · intro a w9 hw ho hk
      refine .inl ⟨by rfl, ?_⟩
      have t6 : a.tmps[6]?.getD undef = .int .i64 p.inputs.length := hk 3 6 (by kernel_rfl) rfl
      have t9 : a.tmps[9]?.getD undef = .int .i64 p.vars.length := hk 6 9 (by kernel_rfl) rfl
      have t12 : a.tmps[12]?.getD undef = .int .i64 p.outputs.length := hk 9 12 (by kernel_rfl) rfl
      obtain ⟨q14, k14, t14, r14⟩ : ∃ q c, (a.tmps[14]?.getD undef) = .slice q (blkP p).length c ∧ w9.ownsRow w.heap.size 63 3 (.slice q (blkP p).length c) (blkP p).length ((blkP p).flatMap encTerm) := hk 11 14 (by kernel_rfl) rfl
      go_simp
      first | exact ⟨New.refl _, _, rfl, _, _, rfl, r14⟩ | exact ⟨New.refl _, _, _, by simp, r14⟩
    · intro a w9 hw ho hk
      refine .inl ⟨by rfl, ?_⟩
      have t3 : a.tmps[3]?.getD undef = .agg #[.string p.name, .slice ia p.inputs.length ic, .slice va p.vars.length vc, .slice oa p.outputs.length oc, .string p.guard, lv] := hk 0 3 (by kernel_rfl) rfl
      obtain ⟨q15, k15, t15, r15⟩ : ∃ q c, (a.tmps[15]?.getD undef) = .agg #[.int .i64 p.inputs.length, .int .i64 p.vars.length, .int .i64 p.outputs.length, .slice q (blkP p).length c, .slice none 0 0] ∧ w9.ownsRow w.heap.size 63 3 (.slice q (blkP p).length c) (blkP p).length ((blkP p).flatMap encTerm) := hk 12 15 (by kernel_rfl) rfl
      go_simp
      first | exact ⟨New.refl _, _, rfl, _, _, rfl, r15⟩ | exact ⟨New.refl _, _, _, by simp, r15⟩
    · intro a w9 hw ho hk
      refine .inl ⟨by rfl, ?_⟩
      obtain ⟨q16, k16, t16, r16⟩ : ∃ q c, (a.tmps[16]?.getD undef) = .agg #[.string p.name, .slice ia p.inputs.length ic, .slice va p.vars.length vc, .slice oa p.outputs.length oc, .string p.guard, lv, .int .i64 p.inputs.length, .int .i64 p.vars.length, .int .i64 p.outputs.length, .slice q (blkP p).length c, .slice none 0 0, .int .i64 0] ∧ w9.ownsRow w.heap.size 63 3 (.slice q (blkP p).length c) (blkP p).length ((blkP p).flatMap encTerm) := hk 13 16 (by kernel_rfl) rfl
      have hws := (hn0.trans hw).size; go_simp; first | exact ⟨(New.refl _).alloc _, _, rfl, _, rfl, hws, _, Blk.alloc_at rfl, r16.alloc _⟩ | exact ⟨(New.refl _).alloc _, _, rfl, _, _, rfl, hws, Blk.alloc_at rfl, r16.alloc _⟩
  intro w5 b5
  rintro _ rfl _ rfl _ rfl _ rfl _ rfl _ rfl _ rfl _ rfl _ rfl _ rfl _ rfl _ ⟨q14, k14, rfl, r14⟩ _ ⟨q15, k15, rfl, r15⟩ _ ⟨q16, k16, rfl, r16⟩ _ ⟨q17, v17, rfl, l17, k17, r17⟩
  try with_reducible replace b5 := New.undrawN b5
  try with_reducible replace b5 := New.undraw b5
  obtain ⟨c5, f5⟩ := b5.rules
  have z5 := b5.size
  try simp only [World.size_alloc, World.size_drew, World.heap_drewN, World.size_setCell] at z5
  have z5_0 : w.heap.size < w5.heap.size := by omega
  simp only [RG.EndAll, List.nil_append, List.cons_append, List.length_cons, List.length_nil, Nat.zero_add, Nat.reduceAdd, List.take_succ_cons, List.take_zero, List.drop_succ_cons, List.drop_zero, RG.putAll, Act.put, List.setIfInBounds_toArray, List.set_cons_succ, List.set_cons_zero]
  go_wp2_with fail
  go_ret
  exact ⟨q17, v17, rfl, l17, none, 0, hn0.trans b5, k17, World.ownsRow_nil _ _ _ _, r17⟩
set_option maxHeartbeats 4000000 in
theorem iCompile0_any (p : ProgD) (iv vv ov lv : Value) (w : World) (hp : RdP w p iv vv ov lv) (hw : wB p = true) :
    Calls Tryz.prog 20 #[valP p iv vv ov lv] w (RetC0 w (compC p)) := by
  have HP := Lib.hid hp
  have HW := Lib.hid hw
  have hfew := few_of hw
  obtain ⟨hpi, hpv, hpo, ps, hps, hl1, hl2⟩ := hp
  obtain ⟨a, cap, rfl, hm, HC⟩ := Rd.flat encLV_len (by omega) hl1
  have HT := Lib.hid hl2
  have hpm : ps.length ≤ 40 := by have := hfew.1; rw [← hps, List.length_map] at this; exact this
  have HLG := Lib.hid (fun k (h : k < ps.length) => linesB_get hps k h)
  have HPL := Lib.hid (show p.lines.length = ps.length by rw [← hps, List.length_map])
  have HBD := Lib.hid (fun k hk => linesA_bd hfew k hk)
  have H40 := Lib.hid hfew.2
  clear hl1 hl2 hps hpi hpv hpo hw hfew
  go_enter Tryz.func20, Tryz.ntmps20
  go_wp2_with fail
  generalize hWZ : ((w.alloc (.cells #[.string p.name, iv, vv, ov, .string p.guard, .slice a ps.length cap] 35)).alloc (.cells #[.int .i64 0, .int .i64 0, .int .i64 0, .slice none 0 0, .slice none 0 0] 30)) = WZ
  have hz : New w WZ := by subst hWZ; exact ((New.refl w).alloc _).alloc _
  have hzz : WZ.heap.size = w.heap.size + 1 + 1 := by subst hWZ; simp
  refine (newCompiler_any p iv vv ov _ WZ (HP.out.new hz) HW.out).mono ?_
  rintro e w1 ⟨O, bv, rfl, hO, h1⟩
  have hn1 : New WZ w1 := by obtain ⟨_, _, hn, _⟩ := h1; exact hn
  obtain ⟨cz, fz⟩ := hz.rules
  have K0 : Blk WZ w.heap.size #[.string p.name, iv, vv, ov, .string p.guard, .slice a ps.length cap] 35 := by subst hWZ; exact (Blk.alloc_at rfl).alloc _
  have KR : Blk WZ (w.heap.size + 1) #[.int .i64 0, .int .i64 0, .int .i64 0, .slice none 0 0, .slice none 0 0] 30 := by subst hWZ; exact Blk.alloc_at (by simp)
  have h0 := Lib.hid h1
  clear hWZ
  obtain ⟨c1, f1⟩ := (K0.new hn1).rules
  have hL1 := (K0.new hn1).lt
  go_wp2_with fail
  go_loopw [11] (fun i wr => ∃ k : Nat, k ≤ ps.length ∧ i = .int .i64 k ∧ Hid (CompSt WZ O p iv vv ov (.slice a ps.length cap) bv (linesA p k).1 (linesA p k).2 wr)) (fun i _ => ps.length - (intOf i).toNat)
  case atStart => exact ⟨0, Nat.zero_le _, rfl, h0⟩
  case round =>
    rename World => wr
    obtain ⟨k, hk, rfl, hS⟩ := hrel
    clear h1 hn1 c1 f1 hL1 h0
    have hnr : New WZ wr := by obtain ⟨_, _, hn, _⟩ := hS.out; exact hn
    have hnz := hnr.size
    obtain ⟨cr, fr⟩ := hnr.rules
    have hbd := HBD.out k (by rw [HPL.out]; exact hk)
    have hww : w.heap.size < wr.heap.size := by omega
    have hwwz : w.heap.size < WZ.heap.size := by omega
    have KW0 := K0.new hnr
    obtain ⟨c0, f0⟩ := KW0.rules
    have HPZ := Lib.hid (HP.out.new hz)
    by_cases hlt : k < ps.length
    · obtain ⟨b, off, rfl, hbl, hx⟩ := HC.out k hlt
      obtain ⟨ea, ec, hev, hem, _⟩ := Rd.flat encTerm_len (by omega) (HT.out ps[k] (List.getElem_mem hlt))
      have HRT := Lib.hid (Rd.new (HT.out ps[k] (List.getElem_mem hlt)) hz)
      rw [hev] at HRT
      rw [show encLV ps[k] = [.string ps[k].1.target, ps[k].2] from rfl, hev] at hx
      have x0 := hx 0 _ (by omega) rfl
      have x1 := hx 1 _ (by omega) rfl
      rw [Nat.add_zero] at x0
      replace hx := Lib.hid hx
      clear hev
      have hbw : b < wr.heap.size := by have := hz.size; omega
      have hbz : b < WZ.heap.size := by have := hz.size; omega
      replace x0 : wr.cell? ⟨b, off + k * 2, none⟩ = some (.string ps[k].1.target) := by rw [cr _ _ hbz, cz _ _ hbl]; exact x0
      replace x1 : wr.cell? ⟨b, off + k * 2 + 1, none⟩ = some (.slice ea ps[k].1.terms.length ec) := by rw [cr _ _ hbz, cz _ _ hbl]; exact x1
      obtain ⟨hlp, hle⟩ := HLG.out k hlt
      have HNX := Lib.hid (linesA_next hlp)
      rw [hle] at HNX
      have hx40 : ps[k].1.terms.length ≤ 40 := by have := H40.out _ (List.getElem_mem hlp); rwa [hle] at this
      clear hle
      generalize linesA p k = S at hS hbd HNX
      obtain ⟨acc, bk⟩ := S
      dsimp only at hS hbd
      have HLine := Lib.hid (fun (w0 : World) (h1 : New wr w0) => line_any WZ O p _ _ _ _ bv acc bk ps[k].1 _ w0 HPZ.out hO (by omega) (by omega) (by omega) hx40 HRT.out (hS.out.more h1))
      generalize ps[k].1 = X at *
      go_wp2_with fail
      refine (HLine.out _ (by repeat (first | with_reducible exact New.refl _ | with_reducible assumption | with_reducible refine New.drew ?_ | with_reducible refine New.drewN ?_ _ | with_reducible refine New.alloc ?_ _ | with_reducible refine New.setCell ?_ (by first | (simp; done) | (simp; omega) | omega) _ | with_reducible refine New.trans ?_ (by with_reducible assumption)))).mono ?_
      rintro e w2 ⟨rfl, hk2, h2⟩
      go_wp2_with fail
      go_roundw
      case rel => exact ⟨k + 1, by omega, by go_num, Lib.hid (by rw [HNX.out]; exact h2)⟩
      case measure => simp [intOf]; omega
    · obtain rfl : k = ps.length := by omega
      have HLN := Lib.hid (show linesA p p.lines.length = linesA p ps.length by rw [HPL.out])
      generalize linesA p ps.length = S at hS hbd HLN
      obtain ⟨acc, bk⟩ := S
      dsimp only at hS hbd
      have KRr := KR.new hnr
      have g4 : wr.cell? ⟨w.heap.size, 4, none⟩ = some (.string p.guard) := by rw [c0]; rfl
      clear cr fr cz fz
      rcases Bool.eq_false_or_eq_true (p.guard.toList.isEmpty) with he | he
      · have HC := Lib.hid (show compC p = ⟨p.inputs.length, p.vars.length, p.outputs.length, blkP p, acc⟩ by rw [compC, compS, HLN.out, if_pos he]; simp)
        obtain ⟨sa, sc, n2, K2, q1, q2⟩ := hS.out
        obtain ⟨ba, bc, rfl⟩ := own_slice q2
        obtain ⟨cO, fO⟩ := K2.rules
        have hOr := K2.lt
        have hR2 := KRr.lt
        obtain ⟨cR, fR⟩ := KRr.rules
        go_wp2_with fail
        refine bodyPost_ret (v := valC ⟨p.inputs.length, p.vars.length, p.outputs.length, blkP p, acc⟩ (.slice ba (blkP p).length bc) (.slice sa (acc).length sc)) (by simp [results, Tryz.results20, go_sem, cR, fR, hR2]) rfl ?_
        rw [HC.out]
        have hN : New w wr := hz.trans n2
        refine ⟨_, _, rfl, (by repeat (first | with_reducible exact New.refl _ | with_reducible assumption | with_reducible refine New.drew ?_ | with_reducible refine New.drewN ?_ _ | with_reducible refine New.alloc ?_ _ | with_reducible refine New.setCell ?_ (by first | (simp; done) | (simp; omega) | omega) _ | with_reducible refine New.trans ?_ (by with_reducible assumption))), ?_, ?_⟩
        · refine own_base (base := WZ.heap.size) ?_ (by omega)
          repeat (apply ownsRow_setCell_below)
          exact q2
          all_goals (dsimp; omega)
        · refine own_base (base := WZ.heap.size) ?_ (by omega)
          repeat (apply ownsRow_setCell_below)
          exact q1
          all_goals (dsimp; omega)
      · have HC := Lib.hid (show compC p = ⟨p.inputs.length, p.vars.length, p.outputs.length, blkP p, acc ++ [nameI p p.guard 10 11]⟩ by rw [compC, compS, HLN.out, if_neg (by rw [he]; simp)])
        have HLD := Lib.hid (load_any WZ O p _ _ _ _ bv acc bk p.guard 10 11 wr HPZ.out hO (by omega) hS.out)
        generalize nameI p p.guard 10 11 = NI at HC HLD
        go_wp2_with fail
        refine HLD.out.mono ?_
        rintro e w2 ⟨rfl, hk2, sa, sc, n2, K2, q1, q2⟩
        clear c0 f0 g4
        obtain ⟨ba, bc, rfl⟩ := own_slice q2
        obtain ⟨cO, fO⟩ := K2.rules
        have hOr := K2.lt
        have KR2 := KR.new n2
        have hR2 := KR2.lt
        obtain ⟨cR, fR⟩ := KR2.rules
        go_wp2_with fail
        refine bodyPost_ret (v := valC ⟨p.inputs.length, p.vars.length, p.outputs.length, blkP p, acc ++ [NI]⟩ (.slice ba (blkP p).length bc) (.slice sa (acc ++ [NI]).length sc)) (by simp [results, Tryz.results20, go_sem, cR, fR, hR2]) rfl ?_
        rw [HC.out]
        have hN : New w w2 := hz.trans n2
        refine ⟨_, _, rfl, (by repeat (first | with_reducible exact New.refl _ | with_reducible assumption | with_reducible refine New.drew ?_ | with_reducible refine New.drewN ?_ _ | with_reducible refine New.alloc ?_ _ | with_reducible refine New.setCell ?_ (by first | (simp; done) | (simp; omega) | omega) _ | with_reducible refine New.trans ?_ (by with_reducible assumption))), ?_, ?_⟩
        · refine own_base (base := WZ.heap.size) ?_ (by omega)
          repeat (apply ownsRow_setCell_below)
          exact q2
          all_goals (dsimp; omega)
        · refine own_base (base := WZ.heap.size) ?_ (by omega)
          repeat (apply ownsRow_setCell_below)
          exact q1
          all_goals (dsimp; omega)
end Go.Proofs.YtadoocadohdfcaaGreatDoor
