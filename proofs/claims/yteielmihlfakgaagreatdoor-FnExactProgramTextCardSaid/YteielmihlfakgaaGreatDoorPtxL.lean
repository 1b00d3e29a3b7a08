/- Contracts: texts of programs: the reference. -/
import Derived.Test.YteielmihlfakgaaGreatDoorProg
import Derived.Test.YteielmihlfakgaaGreatDoorPtxK
import Derived.Test.YteielmihlfakgaaGreatDoorPtxS
namespace Go.Proofs.YteielmihlfakgaaGreatDoor
open Go Go.Proofs Go.RowKit
set_option linter.unusedVariables false
set_option linter.unusedSimpArgs false
set_option maxRecDepth 100000
theorem ok_Se : okT [cSe] := okT_cons (by decide) okT_nil
set_option maxHeartbeats 8000000 in
theorem sProgramTextVG_any (p : ProgD) (iv vv ov lv : Value) (w : World) (hp : RdP w p iv vv ov lv) (hf : FitP p) (hw : wB p = true) (hv : p.vars ≠ []) (hg : p.guard.toList.isEmpty = false) :
    Calls Tryz.prog 18 #[valP p iv vv ov lv] w fun e w' => e = .returned (.tuple #[.string (strL (stdT (progT p))), .int .i64 0]) ∧ New w w' := by
  have hvi : (0 : Int) < (p.vars.length : Int) := by have := List.length_pos_iff.2 hv; omega
  have hvt : varT p = [kwN 2] ++ p.vars ++ [cSe] := by rw [varT, if_neg hv]
  have hgg : (p.guard.toList == []) = false := by rw [← hg]; cases p.guard.toList <;> rfl
  have HGT := Lib.hid (show guardT p = [kwN 4, p.guard, cSe] by rw [guardT, hg]; rfl)
  have KG := Lib.hid (show okT [kwN 4, p.guard, cSe] from okT_cons (kwN_size 4) (okT_cons (by rcases (wB_parts hw).2.2.2.2.1 with h | h; (rw [hg] at h; cases h); exact name_size h) (okT_cons (by decide) okT_nil)))
  have HVT := Lib.hid hvt
  clear hv hg hvt
  obtain ⟨nm1, ni1, nv1, no1, _, n1, n2, n3, n4, hln⟩ := wB_parts hw
  have HI := Lib.hid (fun (w0 : World) (h : New w w0) => sIsWritten_any p iv vv ov lv w0 (hp.new h) hf)
  rw [hw] at HI
  have HP := Lib.hid hp
  have HLN := Lib.hid hln
  have KN := Lib.hid (show okT [kwN 0, p.name, cSe, kwN 1] from okT_cons (kwN_size 0) (okT_cons (name_size nm1) (okT_cons (by decide) (okT_cons (kwN_size 1) okT_nil))))
  have KO1 := Lib.hid (okT_names ni1)
  have KO2 := Lib.hid (okT_names nv1)
  have KO3 := Lib.hid (okT_names no1)
  obtain ⟨h1, h2, h3, hl⟩ := hp
  obtain ⟨ia, ic, rfl, _⟩ := id h1
  obtain ⟨va, vc, rfl, _⟩ := id h2
  obtain ⟨oa, oc, rfl, _⟩ := id h3
  obtain ⟨ps, hps, hl1, hl2⟩ := hl
  obtain ⟨la, lc, rfl, hm, HC⟩ := Rd.flat encLV_len (by omega) hl1
  have HT := Lib.hid hl2
  have HPS := Lib.hid hps
  have HPL := Lib.hid (show p.lines.length = ps.length by rw [← hps, List.length_map])
  have hpl : ps.length ≤ 40 := by rw [← hps, List.length_map] at n4; exact n4
  have HHB := Lib.hid (fun k => (bodyT_facts hw k).2)
  obtain ⟨e1, e2⟩ := progT_facts hw
  have HX := Lib.hid (fun (u : Value) (w0 : World) (hu : RdX w0 u (progT p)) => sTextX_any u (progT p) w0 hu e1 (by omega))
  clear h1 h2 h3 hl1 hl2 hps hln hw n4 hf e1 e2 nm1 ni1 nv1 no1
  obtain ⟨LX, hLX⟩ : ∃ LX, LX = [kwN 0, p.name, cSe, kwN 1] ++ p.inputs ++ [cSe] := ⟨_, rfl⟩
  have hlX : LX.length ≤ 30 := by rw [hLX]; simp only [List.length_append, List.length_cons, List.length_nil]; omega
  have HLX := Lib.hid hLX.symm
  obtain ⟨LV, hLV⟩ : ∃ LV, LV = LX ++ varT p := ⟨_, rfl⟩
  have hlVT : (varT p).length ≤ 22 := by
    rw [varT]; split
    · simp
    · simp only [List.length_append, List.length_cons, List.length_nil]; omega
  have hlV : LV.length ≤ 60 := by rw [hLV, List.length_append]; omega
  obtain ⟨LO, hLO⟩ : ∃ LO, LO = LV ++ [kwN 3] ++ p.outputs ++ [cSe] := ⟨_, rfl⟩
  have hlO : LO.length ≤ 90 := by rw [hLO]; simp only [List.length_append, List.length_cons, List.length_nil]; omega
  have HLO := Lib.hid hLO.symm
  have HB0 := Lib.hid (show LO ++ guardT p = bodyT p 0 by rw [hLO, hLV, hLX, bodyT, headT]; simp)
  have HLV := Lib.hid hLV.symm
  clear hLX hLV hLO
  have zz : w.heap.size < w.heap.size + 1 := by omega
  go_enter Tryz.func18, Tryz.ntmps18
  go_wp2_with fail
  refine (HI.out _ (by repeat (first | with_reducible exact New.refl _ | with_reducible assumption | with_reducible refine New.drew ?_ | with_reducible refine New.drewN ?_ _ | with_reducible refine New.alloc ?_ _ | with_reducible refine New.setCell ?_ (by first | (simp; done) | (simp; omega) | omega) _ | with_reducible refine New.trans ?_ (by with_reducible assumption)))).mono ?_; rintro e w1 ⟨rfl, b1⟩
  try with_reducible replace b1 := New.undrawN b1
  try with_reducible replace b1 := New.undraw b1
  obtain ⟨c1, f1⟩ := b1.rules
  have z1 := b1.size
  try simp only [World.size_alloc, World.size_drew, World.heap_drewN, World.size_setCell] at z1
  have z1_0 : w.heap.size < w1.heap.size := by omega
  go_wp2_with fail
  have KW0 : Blk w1 w.heap.size #[.string p.name, .slice ia p.inputs.length ic, .slice va p.vars.length vc, .slice oa p.outputs.length oc, .string p.guard, .slice la ps.length lc] 48 := Blk.new (Blk.alloc_at rfl) b1
  have NW0 : New w w1 := by exact (by repeat (first | with_reducible exact New.refl _ | with_reducible assumption | with_reducible refine New.drew ?_ | with_reducible refine New.drewN ?_ _ | with_reducible refine New.alloc ?_ _ | with_reducible refine New.setCell ?_ (by first | (simp; done) | (simp; omega) | omega) _ | with_reducible refine New.trans ?_ (by with_reducible assumption)))
  have zW0 := KW0.lt
  have HS1 := Lib.hid (HP.out.ins.new NW0)
  have HS2 := Lib.hid (HP.out.vars.new NW0)
  have HS3 := Lib.hid (HP.out.outs.new NW0)
  obtain ⟨c0, f0⟩ := KW0.rules
  clear c1 f1 b1 HP
  refine (sTokens_any _ [kwN 0, p.name, cSe, kwN 1] _ (rdS_layB [kwN 0, p.name, cSe, kwN 1] _) KN.out (by simp)).mono ?_; rintro e w2 ⟨r2, rfl, b2, o2⟩
  obtain ⟨a2, k2, rfl⟩ := o2.slice; replace o2 := o2.base (b' := w1.heap.size) (by first | (simp; done) | (simp; omega))
  obtain ⟨c2, f2⟩ := b2.rules
  have z2 := b2.size
  try simp only [World.size_alloc, World.size_drew, World.heap_drewN, World.size_setCell] at z2
  have z2_0 : w.heap.size < w2.heap.size := by omega
  go_wp2_with fail
  have nn2 : New w1 w2 := by exact (by repeat (first | with_reducible exact New.refl _ | with_reducible assumption | with_reducible refine New.drew ?_ | with_reducible refine New.drewN ?_ _ | with_reducible refine New.alloc ?_ _ | with_reducible refine New.setCell ?_ (by first | (simp; done) | (simp; omega) | omega) _ | with_reducible refine New.trans ?_ (by with_reducible assumption)))
  refine (sTokens_any _ p.inputs _ (Rd.new HS1.out nn2) KO1.out (by omega)).mono ?_; rintro e w3 ⟨r3, rfl, b3, o3⟩
  obtain ⟨a3, k3, rfl⟩ := o3.slice
  obtain ⟨c3, f3⟩ := b3.rules
  have z3 := b3.size
  try simp only [World.size_alloc, World.size_drew, World.heap_drewN, World.size_setCell] at z3
  have z3_0 : w.heap.size < w3.heap.size := by omega
  go_wp2_with (first | (at_builtin; refine wpList_append_XK rfl _ _ rfl w1.heap.size _ _ rfl (o2.new b3) _ (p.inputs) rfl (o3.rd) (by first  |  (simp only [List.length_cons, List.length_nil, List.length_append] at *; omega)  |  omega) (by first  |  (simp; done)  |  (simp; omega)  |  omega) ?_; intro vaA waA hoA hgA hkA; have naA : New w1 waA := hgA _ (by exact (by repeat (first | with_reducible exact New.refl _ | with_reducible assumption | with_reducible refine New.drew ?_ | with_reducible refine New.drewN ?_ _ | with_reducible refine New.alloc ?_ _ | with_reducible refine New.setCell ?_ (by first | (simp; done) | (simp; omega) | omega) _ | with_reducible refine New.trans ?_ (by with_reducible assumption)))) (Nat.le_refl _); obtain ⟨aaA, mmA, kaA, rfl⟩ := hoA.sliceP; obtain ⟨caA, faA⟩ := (KW0.new naA).rules; have laA := (KW0.new naA).lt; have zaA := naA.size))
  refine (sTokens_any _ [cSe] _ (rdS_layB [cSe] _) ok_Se (by simp)).mono ?_; rintro e w4 ⟨r4, rfl, b4, o4⟩
  obtain ⟨a4, k4, rfl⟩ := o4.slice
  obtain ⟨c4, f4⟩ := b4.rules
  have z4 := b4.size
  try simp only [World.size_alloc, World.size_drew, World.heap_drewN, World.size_setCell] at z4
  have z4_0 : w.heap.size < w4.heap.size := by omega
  go_wp2_with (first | (at_builtin; refine wpList_append_XK rfl _ _ rfl w1.heap.size _ _ rfl (hoA.new (((New.refl _).alloc _).trans b4)) _ ([cSe]) rfl (o4.rd) (by first  |  (simp only [List.length_cons, List.length_nil, List.length_append] at *; omega)  |  omega) (by first  |  (simp; done)  |  (simp; omega)  |  omega) ?_; intro vaB waB hoB hgB hkB; have naB : New w1 waB := hgB _ (by exact (by repeat (first | with_reducible exact New.refl _ | with_reducible assumption | with_reducible refine New.drew ?_ | with_reducible refine New.drewN ?_ _ | with_reducible refine New.alloc ?_ _ | with_reducible refine New.setCell ?_ (by first | (simp; done) | (simp; omega) | omega) _ | with_reducible refine New.trans ?_ (by with_reducible assumption)))) (Nat.le_refl _); rw [HLX.out] at hoB; obtain ⟨aaB, mmB, kaB, rfl⟩ := hoB.sliceP; obtain ⟨caB, faB⟩ := (KW0.new naB).rules; have laB := (KW0.new naB).lt; have zaB := naB.size))
  rw [HGT.out] at HB0
  have HV2 := Lib.hid (show LX ++ [kwN 2] ++ p.vars ++ [cSe] = LV by rw [← HLV.out, HVT.out]; simp)
  refine RC.wp_facts (132) (w1) (fun w' => OwnX w1.heap.size w' (.slice aaB mmB kaB) LX) [fun X W' => ∃ q n c, X = .slice q n c ∧ OwnX w1.heap.size W' (.slice q n c) (LX), fun X W' => ∃ q, X = .slice (some ⟨q, 0, none⟩) 1 1 ∧ Blk W' q #[.string (kwN 2)] 9, fun X W' => ∃ q c, X = .slice q 1 c ∧ OwnX (w1.heap.size) W' (.slice q 1 c) [kwN 2], fun X W' => ∃ q c, X = .slice q (LX ++ [kwN 2]).length c ∧ OwnX w1.heap.size W' (.slice q (LX ++ [kwN 2]).length c) (LX ++ [kwN 2]), fun X _ => X = .pointer (some ⟨w.heap.size, 2, none⟩), fun X _ => X = .slice va p.vars.length vc, fun X W' => ∃ q c, X = .slice q p.vars.length c ∧ OwnX (w1.heap.size) W' (.slice q p.vars.length c) p.vars, fun X W' => ∃ q c, X = .slice q (LX ++ [kwN 2] ++ p.vars).length c ∧ OwnX w1.heap.size W' (.slice q (LX ++ [kwN 2] ++ p.vars).length c) (LX ++ [kwN 2] ++ p.vars), fun X W' => ∃ q, X = .slice (some ⟨q, 0, none⟩) 1 1 ∧ Blk W' q #[.string cSe] 9, fun X W' => ∃ q c, X = .slice q 1 c ∧ OwnX (w1.heap.size) W' (.slice q 1 c) [cSe], fun X W' => ∃ q c, X = .slice q (LV).length c ∧ OwnX w1.heap.size W' (.slice q (LV).length c) (LV)] [some 3, none, some 3, some 7, none, none, some 7, some 10, none, some 10, some 61] [false, false, false, true, false, false, false, true, false, false, true] (by kernel_rfl) (by kernel_rfl) (by kernel_rfl) (naB) (hoB) (fun _ _ n h => h.new n) ⟨fun X w0 w1 hn ⟨a25, n25, c25, t25, o25⟩ => ⟨a25, n25, c25, t25, o25.new hn⟩, fun X w0 w1 hn ⟨q26, t26, k26⟩ => ⟨q26, t26, k26.new hn⟩, fun X w0 w1 hn ⟨a27, c27, t27, o27⟩ => ⟨a27, c27, t27, o27.new hn⟩, fun X w0 w1 hn ⟨a28, c28, t28, o28⟩ => ⟨a28, c28, t28, o28.new hn⟩, RG.stable_eq _, RG.stable_eq _, fun X w0 w1 hn ⟨a31, c31, t31, o31⟩ => ⟨a31, c31, t31, o31.new hn⟩, fun X w0 w1 hn ⟨a32, c32, t32, o32⟩ => ⟨a32, c32, t32, o32.new hn⟩, fun X w0 w1 hn ⟨q33, t33, k33⟩ => ⟨q33, t33, k33.new hn⟩, fun X w0 w1 hn ⟨a34, c34, t34, o34⟩ => ⟨a34, c34, t34, o34.new hn⟩, fun X w0 w1 hn ⟨a35, c35, t35, o35⟩ => ⟨a35, c35, t35, o35.new hn⟩, trivial⟩ ⟨fun X w0 w1 hw0 hn ⟨q26, t26, k26⟩ => ⟨q26, t26, hn.blk _ _ _ k26 (by decide)⟩, RC.stable_eqG _ _ _, RC.stable_eqG _ _ _, fun X w0 w1 hw0 hn ⟨q33, t33, k33⟩ => ⟨q33, t33, hn.blk _ _ _ k33 (by decide)⟩, trivial⟩ ?_ ?_
  · refine ⟨?_, ?_, ?_, ?_, ?_, ?_, ?_, ?_, ?_, ?_, ?_, trivial⟩
    · intro a w9 hw hj ho hk
      refine .inl ⟨by rfl, ?_⟩
      simp only [Bool.false_eq_true, if_false, if_true, eq_self_iff_true]
      have t2 := ho 4 rfl; dsimp at t2; have oJ := hj (by kernel_rfl); dsimp only at oJ; go_simp; first | exact ⟨New.refl _, _, rfl, _, _, _, rfl, oJ⟩ | exact ⟨New.refl _, _, _, _, by simp, oJ⟩
    · intro a w9 hw hj ho hk
      refine .inl ⟨by rfl, ?_⟩
      simp only [Bool.false_eq_true, if_false, if_true, eq_self_iff_true]
      go_simp; first | exact ⟨(New.refl _).alloc _, _, rfl, _, rfl, Blk.alloc_at rfl⟩ | exact ⟨(New.refl _).alloc _, _, by simp, Blk.alloc_at rfl⟩
    · intro a w9 hw hj ho hk
      refine .inl ⟨by rfl, ?_⟩
      simp only [Bool.false_eq_true, if_false, if_true, eq_self_iff_true]
      obtain ⟨q26, t26, k26⟩ : ∃ q, (a.tmps[26]?.getD undef) = .slice (some ⟨q, 0, none⟩) 1 1 ∧ Blk w9 q #[.string (kwN 2)] 9 := hk 1 26 (by kernel_rfl) rfl
      go_simp
      refine (sTokens_any _ [kwN 2] _ (rdS_blk [kwN 2] k26) (ok_kw 2) (by simp)).mono ?_; rintro e w2 ⟨r, rfl, hb, o⟩
      have hzw := hw.size; obtain ⟨q, c, rfl⟩ := o.slice; exact ⟨hb, _, rfl, _, _, rfl, o.base (by first | (simp only [World.size_alloc] at hzw; omega) | omega)⟩
    · intro a w9 hw hj ho hk
      refine .inl ⟨by rfl, ?_⟩
      simp only [Bool.false_eq_true, if_false, if_true, eq_self_iff_true]
      obtain ⟨a25, n25, c25, t25, o25⟩ : ∃ q n c, (a.tmps[25]?.getD undef) = .slice q n c ∧ OwnX w1.heap.size w9 (.slice q n c) (LX) := hk 0 25 (by kernel_rfl) rfl
      obtain ⟨a27, c27, t27, o27⟩ : ∃ q c, (a.tmps[27]?.getD undef) = .slice q 1 c ∧ OwnX (w1.heap.size) w9 (.slice q 1 c) [kwN 2] := hk 2 27 (by kernel_rfl) rfl
      have hzw := hw.size; exact wp_append_XG _ _ rfl (w1.heap.size) _ (LX) (by first | (simp [Act.eval, Act.get]; exact t25) | simp [Act.eval, t25]) (o25) _ ([kwN 2]) (by first | (simp [Act.eval, Act.get]; exact t27) | simp [Act.eval, t27]) (o27.rd) (by first | (simp only [List.length_append, List.length_cons, List.length_nil]; omega) | omega) hzw (fun v2 w2 h2 g2 => by obtain ⟨q, c, h9⟩ := h2.slice; subst h9; exact ⟨g2 _ (Nat.le_refl _), _, rfl, _, _, rfl, h2⟩)
    · intro a w9 hw hj ho hk
      refine .inl ⟨by rfl, ?_⟩
      simp only [Bool.false_eq_true, if_false, if_true, eq_self_iff_true]
      have t2 := ho 1 rfl
      dsimp at t2
      try with_reducible replace hw := New.undrawN hw
      try with_reducible replace hw := New.undraw hw
      obtain ⟨c, f'⟩ := hw.rules
      go_simp
      exact New.refl _
    · intro a w9 hw hj ho hk
      refine .inl ⟨by rfl, ?_⟩
      simp only [Bool.false_eq_true, if_false, if_true, eq_self_iff_true]
      have t29 : a.tmps[29]?.getD undef = .pointer (some ⟨w.heap.size, 2, none⟩) := hk 4 29 (by kernel_rfl) rfl
      try with_reducible replace hw := New.undrawN hw
      try with_reducible replace hw := New.undraw hw
      obtain ⟨c, f'⟩ := hw.rules
      go_simp
      exact New.refl _
    · intro a w9 hw hj ho hk
      refine .inl ⟨by rfl, ?_⟩
      simp only [Bool.false_eq_true, if_false, if_true, eq_self_iff_true]
      have t30 : a.tmps[30]?.getD undef = .slice va p.vars.length vc := hk 5 30 (by kernel_rfl) rfl
      go_simp
      refine (sTokens_any _ p.vars _ (HS2.out.new hw) KO2.out (by omega)).mono ?_; rintro e w2 ⟨r, rfl, hb, o⟩
      have hzw := hw.size; obtain ⟨q, c, rfl⟩ := o.slice; exact ⟨hb, _, rfl, _, _, rfl, o.base (by first | (simp only [World.size_alloc] at hzw; omega) | omega)⟩
    · intro a w9 hw hj ho hk
      refine .inl ⟨by rfl, ?_⟩
      simp only [Bool.false_eq_true, if_false, if_true, eq_self_iff_true]
      obtain ⟨a28, c28, t28, o28⟩ : ∃ q c, (a.tmps[28]?.getD undef) = .slice q (LX ++ [kwN 2]).length c ∧ OwnX w1.heap.size w9 (.slice q (LX ++ [kwN 2]).length c) (LX ++ [kwN 2]) := hk 3 28 (by kernel_rfl) rfl
      obtain ⟨a31, c31, t31, o31⟩ : ∃ q c, (a.tmps[31]?.getD undef) = .slice q p.vars.length c ∧ OwnX (w1.heap.size) w9 (.slice q p.vars.length c) p.vars := hk 6 31 (by kernel_rfl) rfl
      have hzw := hw.size; exact wp_append_XG _ _ rfl (w1.heap.size) _ (LX ++ [kwN 2]) (by first | (simp [Act.eval, Act.get]; exact t28) | simp [Act.eval, t28]) (o28) _ (p.vars) (by first | (simp [Act.eval, Act.get]; exact t31) | simp [Act.eval, t31]) (o31.rd) (by first | (simp only [List.length_append, List.length_cons, List.length_nil]; omega) | omega) hzw (fun v2 w2 h2 g2 => by obtain ⟨q, c, h9⟩ := h2.slice; subst h9; exact ⟨g2 _ (Nat.le_refl _), _, rfl, _, _, rfl, h2⟩)
    · intro a w9 hw hj ho hk
      refine .inl ⟨by rfl, ?_⟩
      simp only [Bool.false_eq_true, if_false, if_true, eq_self_iff_true]
      go_simp; first | exact ⟨(New.refl _).alloc _, _, rfl, _, rfl, Blk.alloc_at rfl⟩ | exact ⟨(New.refl _).alloc _, _, by simp, Blk.alloc_at rfl⟩
    · intro a w9 hw hj ho hk
      refine .inl ⟨by rfl, ?_⟩
      simp only [Bool.false_eq_true, if_false, if_true, eq_self_iff_true]
      obtain ⟨q33, t33, k33⟩ : ∃ q, (a.tmps[33]?.getD undef) = .slice (some ⟨q, 0, none⟩) 1 1 ∧ Blk w9 q #[.string cSe] 9 := hk 8 33 (by kernel_rfl) rfl
      go_simp
      refine (sTokens_any _ [cSe] _ (rdS_blk [cSe] k33) ok_Se (by simp)).mono ?_; rintro e w2 ⟨r, rfl, hb, o⟩
      have hzw := hw.size; obtain ⟨q, c, rfl⟩ := o.slice; exact ⟨hb, _, rfl, _, _, rfl, o.base (by first | (simp only [World.size_alloc] at hzw; omega) | omega)⟩
    · intro a w9 hw hj ho hk
      refine .inl ⟨by rfl, ?_⟩
      simp only [Bool.false_eq_true, if_false, if_true, eq_self_iff_true]
      obtain ⟨a32, c32, t32, o32⟩ : ∃ q c, (a.tmps[32]?.getD undef) = .slice q (LX ++ [kwN 2] ++ p.vars).length c ∧ OwnX w1.heap.size w9 (.slice q (LX ++ [kwN 2] ++ p.vars).length c) (LX ++ [kwN 2] ++ p.vars) := hk 7 32 (by kernel_rfl) rfl
      obtain ⟨a34, c34, t34, o34⟩ : ∃ q c, (a.tmps[34]?.getD undef) = .slice q 1 c ∧ OwnX (w1.heap.size) w9 (.slice q 1 c) [cSe] := hk 9 34 (by kernel_rfl) rfl
      have hzw := hw.size; exact wp_append_XG _ _ rfl (w1.heap.size) _ (LX ++ [kwN 2] ++ p.vars) (by first | (simp [Act.eval, Act.get]; exact t32) | simp [Act.eval, t32]) (o32) _ ([cSe]) (by first | (simp [Act.eval, Act.get]; exact t34) | simp [Act.eval, t34]) (o34.rd) (by first | (simp only [List.length_append, List.length_cons, List.length_nil]; omega) | omega) hzw (fun v2 w2 h2 g2 => by rw [HV2.out] at h2; obtain ⟨q, c, h9⟩ := h2.slice; subst h9; exact ⟨g2 _ (Nat.le_refl _), _, rfl, _, _, rfl, h2⟩)
  intro w5 b5
  intro _ _
  rintro _ ⟨q26, rfl, k26⟩
  intro _ _
  intro _ _
  rintro _ rfl
  rintro _ rfl
  intro _ _
  intro _ _
  rintro _ ⟨q33, rfl, k33⟩
  intro _ _
  intro x35 h35; obtain ⟨a35, c35, rfl, o35⟩ := h35 (by simp)
  try with_reducible replace b5 := New.undrawN b5
  try with_reducible replace b5 := New.undraw b5
  obtain ⟨c5, f5⟩ := b5.rules
  have z5 := b5.size
  try simp only [World.size_alloc, World.size_drew, World.heap_drewN, World.size_setCell] at z5
  have z5_0 : w.heap.size < w5.heap.size := by omega
  simp only [RC.EndAll, List.nil_append, List.cons_append, List.length_cons, List.length_nil, Nat.zero_add, Nat.reduceAdd, List.take_succ_cons, List.take_zero, List.drop_succ_cons, List.drop_zero, putAll, RG.putAll, Act.put, List.setIfInBounds_toArray, List.set_cons_succ, List.set_cons_zero]
  have lC := (KW0.new b5).lt
  go_wp2_with fail
  refine RC.wp_facts (132) (w1) (fun w' => OwnX w1.heap.size w' (.slice a35 (LV).length c35) LV) [fun X W' => ∃ q n c, X = .slice q n c ∧ OwnX w1.heap.size W' (.slice q n c) (LV), fun X W' => ∃ q, X = .slice (some ⟨q, 0, none⟩) 1 1 ∧ Blk W' q #[.string (kwN 3)] 9, fun X W' => ∃ q c, X = .slice q 1 c ∧ OwnX (w1.heap.size) W' (.slice q 1 c) [kwN 3], fun X W' => ∃ q c, X = .slice q (LV ++ [kwN 3]).length c ∧ OwnX w1.heap.size W' (.slice q (LV ++ [kwN 3]).length c) (LV ++ [kwN 3]), fun X _ => X = .pointer (some ⟨w.heap.size, 3, none⟩), fun X _ => X = .slice oa p.outputs.length oc, fun X W' => ∃ q c, X = .slice q p.outputs.length c ∧ OwnX (w1.heap.size) W' (.slice q p.outputs.length c) p.outputs, fun X W' => ∃ q c, X = .slice q (LV ++ [kwN 3] ++ p.outputs).length c ∧ OwnX w1.heap.size W' (.slice q (LV ++ [kwN 3] ++ p.outputs).length c) (LV ++ [kwN 3] ++ p.outputs), fun X W' => ∃ q, X = .slice (some ⟨q, 0, none⟩) 1 1 ∧ Blk W' q #[.string cSe] 9, fun X W' => ∃ q c, X = .slice q 1 c ∧ OwnX (w1.heap.size) W' (.slice q 1 c) [cSe], fun X W' => ∃ q c, X = .slice q (LO).length c ∧ OwnX w1.heap.size W' (.slice q (LO).length c) (LO)] [some 3, none, some 3, some 7, none, none, some 7, some 10, none, some 10, some 61] [false, false, false, true, false, false, false, true, false, false, true] (by kernel_rfl) (by kernel_rfl) (by kernel_rfl) (b5) (o35) (fun _ _ n h => h.new n) ⟨fun X w0 w1 hn ⟨a36, n36, c36, t36, o36⟩ => ⟨a36, n36, c36, t36, o36.new hn⟩, fun X w0 w1 hn ⟨q37, t37, k37⟩ => ⟨q37, t37, k37.new hn⟩, fun X w0 w1 hn ⟨a38, c38, t38, o38⟩ => ⟨a38, c38, t38, o38.new hn⟩, fun X w0 w1 hn ⟨a39, c39, t39, o39⟩ => ⟨a39, c39, t39, o39.new hn⟩, RG.stable_eq _, RG.stable_eq _, fun X w0 w1 hn ⟨a42, c42, t42, o42⟩ => ⟨a42, c42, t42, o42.new hn⟩, fun X w0 w1 hn ⟨a43, c43, t43, o43⟩ => ⟨a43, c43, t43, o43.new hn⟩, fun X w0 w1 hn ⟨q44, t44, k44⟩ => ⟨q44, t44, k44.new hn⟩, fun X w0 w1 hn ⟨a45, c45, t45, o45⟩ => ⟨a45, c45, t45, o45.new hn⟩, fun X w0 w1 hn ⟨a46, c46, t46, o46⟩ => ⟨a46, c46, t46, o46.new hn⟩, trivial⟩ ⟨fun X w0 w1 hw0 hn ⟨q37, t37, k37⟩ => ⟨q37, t37, hn.blk _ _ _ k37 (by decide)⟩, RC.stable_eqG _ _ _, RC.stable_eqG _ _ _, fun X w0 w1 hw0 hn ⟨q44, t44, k44⟩ => ⟨q44, t44, hn.blk _ _ _ k44 (by decide)⟩, trivial⟩ ?_ ?_
  · refine ⟨?_, ?_, ?_, ?_, ?_, ?_, ?_, ?_, ?_, ?_, ?_, trivial⟩
    · intro a w9 hw hj ho hk
      refine .inl ⟨by rfl, ?_⟩
      simp only [Bool.false_eq_true, if_false, if_true, eq_self_iff_true]
      have t2 := ho 4 rfl; dsimp at t2; have oJ := hj (by kernel_rfl); dsimp only at oJ; go_simp; first | exact ⟨New.refl _, _, rfl, _, _, _, rfl, oJ⟩ | exact ⟨New.refl _, _, _, _, by simp, oJ⟩
    · intro a w9 hw hj ho hk
      refine .inl ⟨by rfl, ?_⟩
      simp only [Bool.false_eq_true, if_false, if_true, eq_self_iff_true]
      go_simp; first | exact ⟨(New.refl _).alloc _, _, rfl, _, rfl, Blk.alloc_at rfl⟩ | exact ⟨(New.refl _).alloc _, _, by simp, Blk.alloc_at rfl⟩
    · intro a w9 hw hj ho hk
      refine .inl ⟨by rfl, ?_⟩
      simp only [Bool.false_eq_true, if_false, if_true, eq_self_iff_true]
      obtain ⟨q37, t37, k37⟩ : ∃ q, (a.tmps[37]?.getD undef) = .slice (some ⟨q, 0, none⟩) 1 1 ∧ Blk w9 q #[.string (kwN 3)] 9 := hk 1 37 (by kernel_rfl) rfl
      go_simp
      refine (sTokens_any _ [kwN 3] _ (rdS_blk [kwN 3] k37) (ok_kw 3) (by simp)).mono ?_; rintro e w2 ⟨r, rfl, hb, o⟩
      have hzw := hw.size; obtain ⟨q, c, rfl⟩ := o.slice; exact ⟨hb, _, rfl, _, _, rfl, o.base (by first | (simp only [World.size_alloc] at hzw; omega) | omega)⟩
    · intro a w9 hw hj ho hk
      refine .inl ⟨by rfl, ?_⟩
      simp only [Bool.false_eq_true, if_false, if_true, eq_self_iff_true]
      obtain ⟨a36, n36, c36, t36, o36⟩ : ∃ q n c, (a.tmps[36]?.getD undef) = .slice q n c ∧ OwnX w1.heap.size w9 (.slice q n c) (LV) := hk 0 36 (by kernel_rfl) rfl
      obtain ⟨a38, c38, t38, o38⟩ : ∃ q c, (a.tmps[38]?.getD undef) = .slice q 1 c ∧ OwnX (w1.heap.size) w9 (.slice q 1 c) [kwN 3] := hk 2 38 (by kernel_rfl) rfl
      have hzw := hw.size; exact wp_append_XG _ _ rfl (w1.heap.size) _ (LV) (by first | (simp [Act.eval, Act.get]; exact t36) | simp [Act.eval, t36]) (o36) _ ([kwN 3]) (by first | (simp [Act.eval, Act.get]; exact t38) | simp [Act.eval, t38]) (o38.rd) (by first | (simp only [List.length_append, List.length_cons, List.length_nil]; omega) | omega) hzw (fun v2 w2 h2 g2 => by obtain ⟨q, c, h9⟩ := h2.slice; subst h9; exact ⟨g2 _ (Nat.le_refl _), _, rfl, _, _, rfl, h2⟩)
    · intro a w9 hw hj ho hk
      refine .inl ⟨by rfl, ?_⟩
      simp only [Bool.false_eq_true, if_false, if_true, eq_self_iff_true]
      have t2 := ho 1 rfl
      dsimp at t2
      try with_reducible replace hw := New.undrawN hw
      try with_reducible replace hw := New.undraw hw
      obtain ⟨c, f'⟩ := hw.rules
      go_simp
      exact New.refl _
    · intro a w9 hw hj ho hk
      refine .inl ⟨by rfl, ?_⟩
      simp only [Bool.false_eq_true, if_false, if_true, eq_self_iff_true]
      have t40 : a.tmps[40]?.getD undef = .pointer (some ⟨w.heap.size, 3, none⟩) := hk 4 40 (by kernel_rfl) rfl
      try with_reducible replace hw := New.undrawN hw
      try with_reducible replace hw := New.undraw hw
      obtain ⟨c, f'⟩ := hw.rules
      go_simp
      exact New.refl _
    · intro a w9 hw hj ho hk
      refine .inl ⟨by rfl, ?_⟩
      simp only [Bool.false_eq_true, if_false, if_true, eq_self_iff_true]
      have t41 : a.tmps[41]?.getD undef = .slice oa p.outputs.length oc := hk 5 41 (by kernel_rfl) rfl
      go_simp
      refine (sTokens_any _ p.outputs _ (HS3.out.new hw) KO3.out (by omega)).mono ?_; rintro e w2 ⟨r, rfl, hb, o⟩
      have hzw := hw.size; obtain ⟨q, c, rfl⟩ := o.slice; exact ⟨hb, _, rfl, _, _, rfl, o.base (by first | (simp only [World.size_alloc] at hzw; omega) | omega)⟩
    · intro a w9 hw hj ho hk
      refine .inl ⟨by rfl, ?_⟩
      simp only [Bool.false_eq_true, if_false, if_true, eq_self_iff_true]
      obtain ⟨a39, c39, t39, o39⟩ : ∃ q c, (a.tmps[39]?.getD undef) = .slice q (LV ++ [kwN 3]).length c ∧ OwnX w1.heap.size w9 (.slice q (LV ++ [kwN 3]).length c) (LV ++ [kwN 3]) := hk 3 39 (by kernel_rfl) rfl
      obtain ⟨a42, c42, t42, o42⟩ : ∃ q c, (a.tmps[42]?.getD undef) = .slice q p.outputs.length c ∧ OwnX (w1.heap.size) w9 (.slice q p.outputs.length c) p.outputs := hk 6 42 (by kernel_rfl) rfl
      have hzw := hw.size; exact wp_append_XG _ _ rfl (w1.heap.size) _ (LV ++ [kwN 3]) (by first | (simp [Act.eval, Act.get]; exact t39) | simp [Act.eval, t39]) (o39) _ (p.outputs) (by first | (simp [Act.eval, Act.get]; exact t42) | simp [Act.eval, t42]) (o42.rd) (by first | (simp only [List.length_append, List.length_cons, List.length_nil]; omega) | omega) hzw (fun v2 w2 h2 g2 => by obtain ⟨q, c, h9⟩ := h2.slice; subst h9; exact ⟨g2 _ (Nat.le_refl _), _, rfl, _, _, rfl, h2⟩)
    · intro a w9 hw hj ho hk
      refine .inl ⟨by rfl, ?_⟩
      simp only [Bool.false_eq_true, if_false, if_true, eq_self_iff_true]
      go_simp; first | exact ⟨(New.refl _).alloc _, _, rfl, _, rfl, Blk.alloc_at rfl⟩ | exact ⟨(New.refl _).alloc _, _, by simp, Blk.alloc_at rfl⟩
    · intro a w9 hw hj ho hk
      refine .inl ⟨by rfl, ?_⟩
      simp only [Bool.false_eq_true, if_false, if_true, eq_self_iff_true]
      obtain ⟨q44, t44, k44⟩ : ∃ q, (a.tmps[44]?.getD undef) = .slice (some ⟨q, 0, none⟩) 1 1 ∧ Blk w9 q #[.string cSe] 9 := hk 8 44 (by kernel_rfl) rfl
      go_simp
      refine (sTokens_any _ [cSe] _ (rdS_blk [cSe] k44) ok_Se (by simp)).mono ?_; rintro e w2 ⟨r, rfl, hb, o⟩
      have hzw := hw.size; obtain ⟨q, c, rfl⟩ := o.slice; exact ⟨hb, _, rfl, _, _, rfl, o.base (by first | (simp only [World.size_alloc] at hzw; omega) | omega)⟩
    · intro a w9 hw hj ho hk
      refine .inl ⟨by rfl, ?_⟩
      simp only [Bool.false_eq_true, if_false, if_true, eq_self_iff_true]
      obtain ⟨a43, c43, t43, o43⟩ : ∃ q c, (a.tmps[43]?.getD undef) = .slice q (LV ++ [kwN 3] ++ p.outputs).length c ∧ OwnX w1.heap.size w9 (.slice q (LV ++ [kwN 3] ++ p.outputs).length c) (LV ++ [kwN 3] ++ p.outputs) := hk 7 43 (by kernel_rfl) rfl
      obtain ⟨a45, c45, t45, o45⟩ : ∃ q c, (a.tmps[45]?.getD undef) = .slice q 1 c ∧ OwnX (w1.heap.size) w9 (.slice q 1 c) [cSe] := hk 9 45 (by kernel_rfl) rfl
      have hzw := hw.size; exact wp_append_XG _ _ rfl (w1.heap.size) _ (LV ++ [kwN 3] ++ p.outputs) (by first | (simp [Act.eval, Act.get]; exact t43) | simp [Act.eval, t43]) (o43) _ ([cSe]) (by first | (simp [Act.eval, Act.get]; exact t45) | simp [Act.eval, t45]) (o45.rd) (by first | (simp only [List.length_append, List.length_cons, List.length_nil]; omega) | omega) hzw (fun v2 w2 h2 g2 => by rw [HLO.out] at h2; obtain ⟨q, c, h9⟩ := h2.slice; subst h9; exact ⟨g2 _ (Nat.le_refl _), _, rfl, _, _, rfl, h2⟩)
  intro w6 b6
  intro _ _
  rintro _ ⟨q37, rfl, k37⟩
  intro _ _
  intro _ _
  rintro _ rfl
  rintro _ rfl
  intro _ _
  intro _ _
  rintro _ ⟨q44, rfl, k44⟩
  intro _ _
  intro x46 h46; obtain ⟨a46, c46, rfl, o46⟩ := h46 (by simp)
  try with_reducible replace b6 := New.undrawN b6
  try with_reducible replace b6 := New.undraw b6
  obtain ⟨c6, f6⟩ := b6.rules
  have z6 := b6.size
  try simp only [World.size_alloc, World.size_drew, World.heap_drewN, World.size_setCell] at z6
  have z6_0 : w.heap.size < w6.heap.size := by omega
  simp only [RC.EndAll, List.nil_append, List.cons_append, List.length_cons, List.length_nil, Nat.zero_add, Nat.reduceAdd, List.take_succ_cons, List.take_zero, List.drop_succ_cons, List.drop_zero, putAll, RG.putAll, Act.put, List.setIfInBounds_toArray, List.set_cons_succ, List.set_cons_zero]
  have lD := (KW0.new b6).lt
  go_wp2_with fail
  refine (sTokens_any _ [kwN 4, p.guard, cSe] _ (rdS_layB [kwN 4, p.guard, cSe] _) KG.out (by simp)).mono ?_; rintro e w7 ⟨r7, rfl, b7, o7⟩
  obtain ⟨a7, k7, rfl⟩ := o7.slice
  obtain ⟨c7, f7⟩ := b7.rules
  have z7 := b7.size
  try simp only [World.size_alloc, World.size_drew, World.heap_drewN, World.size_setCell] at z7
  have z7_0 : w.heap.size < w7.heap.size := by omega
  go_wp2_with (first | (at_builtin; refine wpList_append_XK rfl _ _ rfl w1.heap.size _ _ rfl (o46.new (((New.refl _).alloc _).trans b7)) _ ([kwN 4, p.guard, cSe]) rfl (o7.rd) (by first  |  (simp only [List.length_cons, List.length_nil, List.length_append] at *; omega)  |  omega) (by first  |  (simp; done)  |  (simp; omega)  |  omega) ?_; intro vaG waG hoG hgG hkG; have naG : New w1 waG := hgG _ (by exact (by repeat (first | with_reducible exact New.refl _ | with_reducible assumption | with_reducible refine New.drew ?_ | with_reducible refine New.drewN ?_ _ | with_reducible refine New.alloc ?_ _ | with_reducible refine New.setCell ?_ (by first | (simp; done) | (simp; omega) | omega) _ | with_reducible refine New.trans ?_ (by with_reducible assumption)))) (Nat.le_refl _); rw [HB0.out] at hoG; obtain ⟨aaG, mmG, kaG, rfl⟩ := hoG.sliceP; obtain ⟨caG, faG⟩ := (KW0.new naG).rules; have laG := (KW0.new naG).lt; have zaG := naG.size))
  go_loopw [4, 5] (fun o i wr => ∃ j : Nat, j ≤ ps.length ∧ i = .int .i64 j ∧ New w1 wr ∧ OwnX w1.heap.size wr o (bodyT p j)) (fun _ i _ => ps.length - (intOf i).toNat)
  case atStart => exact ⟨0, Nat.zero_le _, rfl, naG, hoG⟩
  case round =>
    obtain ⟨j, hj, rfl, hN, hown⟩ := hrel
    have hNz := hN.size
    have hNw := NW0.trans hN
    have hlB := HHB.out j
    obtain ⟨ao, mo, ko, rfl⟩ := hown.sliceP
    have lK := (KW0.new hN).lt
    obtain ⟨cK, fK⟩ := (KW0.new hN).rules
    by_cases hlt : j < ps.length
    · obtain ⟨b, off, rfl, hbl, hx⟩ := HC.out j hlt
      have x0 : w1.cell? ⟨b, off + j * 2, none⟩ = some (.string ps[j].1.target) := (NW0.cell hbl).trans (hx 0 _ (by omega) rfl)
      have x1 : w1.cell? ⟨b, off + j * 2 + 1, none⟩ = some ps[j].2 := (NW0.cell hbl).trans (hx 1 _ (by omega) rfl)
      clear hx
      have hbW : b < w1.heap.size := by have := NW0.size; omega
      obtain ⟨hlp, hle⟩ := lines_of HPS.out hlt
      have hrt := HT.out ps[j] (List.getElem_mem hlt)
      obtain ⟨ea, ec, hev, _⟩ := id hrt
      rw [hev] at x1 hrt
      clear hev
      obtain ⟨hl1, hl2⟩ := HLN.out ps[j].1 (by rw [← hle]; exact List.getElem_mem hlp)
      obtain ⟨he1, he2, _⟩ := exprT_facts hl2
      have HTG := Lib.hid (show okT [ps[j].1.target, cEq] from okT_cons (name_size hl1) (okT_cons (by decide) okT_nil))
      have HBN := Lib.hid (show bodyT p j ++ [ps[j].1.target, cEq] ++ exprT ps[j].1.terms ++ [cSe] = bodyT p (j + 1) by rw [bodyT_next hlp, hle, lineT]; simp)
      have HE := Lib.hid (fun (w0 : World) (h : New w w0) => sExprTokens_any (.slice ea ps[j].1.terms.length ec) ps[j].1.terms w0 (Rd.new hrt h) hl2)
      clear hle hl1 hl2 hrt he2
      generalize exprT ps[j].1.terms = ET at he1 HBN HE
      generalize ps[j].1.terms = tm at x1 HE
      generalize ps[j].1.target = tg at x0 HTG HBN
      generalize bodyT p j = BJ at hown hlB HBN
      obtain ⟨BN, hBN⟩ : ∃ BN, BN = bodyT p (j + 1) := ⟨_, rfl⟩
      rw [← hBN] at HBN
      have HBE := Lib.hid hBN.symm
      clear hBN
      have hji : (j : Int) < (ps.length : Int) := by omega
      have hj0 : ¬ ((j : Int) < 0) := by omega
      go_wp2_with fail
      clear cK fK
      refine RC.wp_facts (132) (w1) (fun w' => OwnX w1.heap.size w' (.slice ao mo ko) BJ) [fun X W' => ∃ q n c, X = .slice q n c ∧ OwnX w1.heap.size W' (.slice q n c) (BJ), fun X _ => X = .pointer (some ⟨w.heap.size, 5, none⟩), fun X _ => X = .slice (some ⟨b, off, none⟩) ps.length lc, fun X _ => X = .int .i64 (j : Int), fun X _ => X = .pointer (some ⟨b, off + j * 2, none⟩), fun X _ => X = .pointer (some ⟨b, off + j * 2, none⟩), fun X _ => X = .string tg, fun X W' => ∃ q, X = .slice (some ⟨q, 0, none⟩) 2 2 ∧ Blk W' q #[.string tg, .string cEq] 9, fun X W' => ∃ q c, X = .slice q 2 c ∧ OwnX (w1.heap.size) W' (.slice q 2 c) [tg, cEq], fun X W' => ∃ q c, X = .slice q (BJ ++ [tg, cEq]).length c ∧ OwnX w1.heap.size W' (.slice q (BJ ++ [tg, cEq]).length c) (BJ ++ [tg, cEq]), fun X _ => X = .pointer (some ⟨w.heap.size, 5, none⟩), fun X _ => X = .slice (some ⟨b, off, none⟩) ps.length lc, fun X _ => X = .int .i64 (j : Int), fun X _ => X = .pointer (some ⟨b, off + j * 2, none⟩), fun X _ => X = .pointer (some ⟨b, off + j * 2 + 1, none⟩), fun X _ => X = .slice ea tm.length ec, fun X W' => ∃ q c, X = .slice q ET.length c ∧ RdX W' (.slice q ET.length c) ET, fun X W' => ∃ q c, X = .slice q (BJ ++ [tg, cEq] ++ ET).length c ∧ OwnX w1.heap.size W' (.slice q (BJ ++ [tg, cEq] ++ ET).length c) (BJ ++ [tg, cEq] ++ ET)] [some 9, none, none, none, none, none, none, none, some 9, some 17, none, none, none, none, none, none, some 17, some 68] [false, false, false, false, false, false, false, false, false, true, false, false, false, false, false, false, false, true] (by kernel_rfl) (by kernel_rfl) (by kernel_rfl) (hN) (hown) (fun _ _ n h => h.new n) ⟨fun X w0 w1 hn ⟨a63, n63, c63, t63, o63⟩ => ⟨a63, n63, c63, t63, o63.new hn⟩, RG.stable_eq _, RG.stable_eq _, RG.stable_eq _, RG.stable_eq _, RG.stable_eq _, RG.stable_eq _, fun X w0 w1 hn ⟨q70, t70, k70⟩ => ⟨q70, t70, k70.new hn⟩, fun X w0 w1 hn ⟨a71, c71, t71, o71⟩ => ⟨a71, c71, t71, o71.new hn⟩, fun X w0 w1 hn ⟨a72, c72, t72, o72⟩ => ⟨a72, c72, t72, o72.new hn⟩, RG.stable_eq _, RG.stable_eq _, RG.stable_eq _, RG.stable_eq _, RG.stable_eq _, RG.stable_eq _, fun X w0 w1 hn ⟨a79, c79, t79, k79⟩ => ⟨a79, c79, t79, k79.new hn⟩, fun X w0 w1 hn ⟨a80, c80, t80, o80⟩ => ⟨a80, c80, t80, o80.new hn⟩, trivial⟩ ⟨RC.stable_eqG _ _ _, RC.stable_eqG _ _ _, RC.stable_eqG _ _ _, RC.stable_eqG _ _ _, RC.stable_eqG _ _ _, RC.stable_eqG _ _ _, fun X w0 w1 hw0 hn ⟨q70, t70, k70⟩ => ⟨q70, t70, hn.blk _ _ _ k70 (by decide)⟩, RC.stable_eqG _ _ _, RC.stable_eqG _ _ _, RC.stable_eqG _ _ _, RC.stable_eqG _ _ _, RC.stable_eqG _ _ _, RC.stable_eqG _ _ _, trivial⟩ ?_ ?_
      · refine ⟨?_, ?_, ?_, ?_, ?_, ?_, ?_, ?_, ?_, ?_, ?_, ?_, ?_, ?_, ?_, ?_, ?_, ?_, trivial⟩
        · intro a w9 hw hj ho hk
          refine .inl ⟨by rfl, ?_⟩
          simp only [Bool.false_eq_true, if_false, if_true, eq_self_iff_true]
          have t2 := ho 4 rfl; dsimp at t2; have oJ := hj (by kernel_rfl); dsimp only at oJ; go_simp; first | exact ⟨New.refl _, _, rfl, _, _, _, rfl, oJ⟩ | exact ⟨New.refl _, _, _, _, by simp, oJ⟩
        · intro a w9 hw hj ho hk
          refine .inl ⟨by rfl, ?_⟩
          simp only [Bool.false_eq_true, if_false, if_true, eq_self_iff_true]
          have t2 := ho 1 rfl
          dsimp at t2
          try with_reducible replace hw := New.undrawN hw
          try with_reducible replace hw := New.undraw hw
          obtain ⟨c, f'⟩ := hw.rules
          go_simp
          exact New.refl _
        · intro a w9 hw hj ho hk
          refine .inl ⟨by rfl, ?_⟩
          simp only [Bool.false_eq_true, if_false, if_true, eq_self_iff_true]
          have t64 : a.tmps[64]?.getD undef = .pointer (some ⟨w.heap.size, 5, none⟩) := hk 1 64 (by kernel_rfl) rfl
          try with_reducible replace hw := New.undrawN hw
          try with_reducible replace hw := New.undraw hw
          obtain ⟨c, f'⟩ := hw.rules
          go_simp
          exact New.refl _
        · intro a w9 hw hj ho hk
          refine .inl ⟨by rfl, ?_⟩
          simp only [Bool.false_eq_true, if_false, if_true, eq_self_iff_true]
          have t2 := ho 5 rfl
          dsimp at t2
          try with_reducible replace hw := New.undrawN hw
          try with_reducible replace hw := New.undraw hw
          obtain ⟨c, f'⟩ := hw.rules
          go_simp
          exact New.refl _
        · intro a w9 hw hj ho hk
          refine .inl ⟨by rfl, ?_⟩
          simp only [Bool.false_eq_true, if_false, if_true, eq_self_iff_true]
          have t65 : a.tmps[65]?.getD undef = .slice (some ⟨b, off, none⟩) ps.length lc := hk 2 65 (by kernel_rfl) rfl
          have t66 : a.tmps[66]?.getD undef = .int .i64 (j : Int) := hk 3 66 (by kernel_rfl) rfl
          go_simp
          exact New.refl _
        · intro a w9 hw hj ho hk
          refine .inl ⟨by rfl, ?_⟩
          simp only [Bool.false_eq_true, if_false, if_true, eq_self_iff_true]
          have t67 : a.tmps[67]?.getD undef = .pointer (some ⟨b, off + j * 2, none⟩) := hk 4 67 (by kernel_rfl) rfl
          go_simp
          exact New.refl _
        · intro a w9 hw hj ho hk
          refine .inl ⟨by rfl, ?_⟩
          simp only [Bool.false_eq_true, if_false, if_true, eq_self_iff_true]
          have t68 : a.tmps[68]?.getD undef = .pointer (some ⟨b, off + j * 2, none⟩) := hk 5 68 (by kernel_rfl) rfl
          try with_reducible replace hw := New.undrawN hw
          try with_reducible replace hw := New.undraw hw
          obtain ⟨c, f'⟩ := hw.rules
          go_simp
          exact New.refl _
        · intro a w9 hw hj ho hk
          refine .inl ⟨by rfl, ?_⟩
          simp only [Bool.false_eq_true, if_false, if_true, eq_self_iff_true]
          have t69 : a.tmps[69]?.getD undef = .string tg := hk 6 69 (by kernel_rfl) rfl
          go_simp; first | exact ⟨(New.refl _).alloc _, _, rfl, _, rfl, Blk.alloc_at rfl⟩ | exact ⟨(New.refl _).alloc _, _, by simp, Blk.alloc_at rfl⟩
        · intro a w9 hw hj ho hk
          refine .inl ⟨by rfl, ?_⟩
          simp only [Bool.false_eq_true, if_false, if_true, eq_self_iff_true]
          obtain ⟨q70, t70, k70⟩ : ∃ q, (a.tmps[70]?.getD undef) = .slice (some ⟨q, 0, none⟩) 2 2 ∧ Blk w9 q #[.string tg, .string cEq] 9 := hk 7 70 (by kernel_rfl) rfl
          go_simp
          refine (sTokens_any _ [tg, cEq] _ (rdS_blk [tg, cEq] k70) HTG.out (by simp)).mono ?_; rintro e w2 ⟨r, rfl, hb, o⟩
          have hzw := hw.size; obtain ⟨q, c, rfl⟩ := o.slice; exact ⟨hb, _, rfl, _, _, rfl, o.base (by first | (simp only [World.size_alloc] at hzw; omega) | omega)⟩
        · intro a w9 hw hj ho hk
          refine .inl ⟨by rfl, ?_⟩
          simp only [Bool.false_eq_true, if_false, if_true, eq_self_iff_true]
          obtain ⟨a63, n63, c63, t63, o63⟩ : ∃ q n c, (a.tmps[63]?.getD undef) = .slice q n c ∧ OwnX w1.heap.size w9 (.slice q n c) (BJ) := hk 0 63 (by kernel_rfl) rfl
          obtain ⟨a71, c71, t71, o71⟩ : ∃ q c, (a.tmps[71]?.getD undef) = .slice q 2 c ∧ OwnX (w1.heap.size) w9 (.slice q 2 c) [tg, cEq] := hk 8 71 (by kernel_rfl) rfl
          have hzw := hw.size; exact wp_append_XG _ _ rfl (w1.heap.size) _ (BJ) (by first | (simp [Act.eval, Act.get]; exact t63) | simp [Act.eval, t63]) (o63) _ ([tg, cEq]) (by first | (simp [Act.eval, Act.get]; exact t71) | simp [Act.eval, t71]) (o71.rd) (by first | (simp only [List.length_append, List.length_cons, List.length_nil]; omega) | omega) hzw (fun v2 w2 h2 g2 => by obtain ⟨q, c, h9⟩ := h2.slice; subst h9; exact ⟨g2 _ (Nat.le_refl _), _, rfl, _, _, rfl, h2⟩)
        · intro a w9 hw hj ho hk
          refine .inl ⟨by rfl, ?_⟩
          simp only [Bool.false_eq_true, if_false, if_true, eq_self_iff_true]
          have t2 := ho 1 rfl
          dsimp at t2
          try with_reducible replace hw := New.undrawN hw
          try with_reducible replace hw := New.undraw hw
          obtain ⟨c, f'⟩ := hw.rules
          go_simp
          exact New.refl _
        · intro a w9 hw hj ho hk
          refine .inl ⟨by rfl, ?_⟩
          simp only [Bool.false_eq_true, if_false, if_true, eq_self_iff_true]
          have t73 : a.tmps[73]?.getD undef = .pointer (some ⟨w.heap.size, 5, none⟩) := hk 10 73 (by kernel_rfl) rfl
          try with_reducible replace hw := New.undrawN hw
          try with_reducible replace hw := New.undraw hw
          obtain ⟨c, f'⟩ := hw.rules
          go_simp
          exact New.refl _
        · intro a w9 hw hj ho hk
          refine .inl ⟨by rfl, ?_⟩
          simp only [Bool.false_eq_true, if_false, if_true, eq_self_iff_true]
          have t2 := ho 5 rfl
          dsimp at t2
          try with_reducible replace hw := New.undrawN hw
          try with_reducible replace hw := New.undraw hw
          obtain ⟨c, f'⟩ := hw.rules
          go_simp
          exact New.refl _
        · intro a w9 hw hj ho hk
          refine .inl ⟨by rfl, ?_⟩
          simp only [Bool.false_eq_true, if_false, if_true, eq_self_iff_true]
          have t74 : a.tmps[74]?.getD undef = .slice (some ⟨b, off, none⟩) ps.length lc := hk 11 74 (by kernel_rfl) rfl
          have t75 : a.tmps[75]?.getD undef = .int .i64 (j : Int) := hk 12 75 (by kernel_rfl) rfl
          go_simp
          exact New.refl _
        · intro a w9 hw hj ho hk
          refine .inl ⟨by rfl, ?_⟩
          simp only [Bool.false_eq_true, if_false, if_true, eq_self_iff_true]
          have t76 : a.tmps[76]?.getD undef = .pointer (some ⟨b, off + j * 2, none⟩) := hk 13 76 (by kernel_rfl) rfl
          go_simp
          exact New.refl _
        · intro a w9 hw hj ho hk
          refine .inl ⟨by rfl, ?_⟩
          simp only [Bool.false_eq_true, if_false, if_true, eq_self_iff_true]
          have t77 : a.tmps[77]?.getD undef = .pointer (some ⟨b, off + j * 2 + 1, none⟩) := hk 14 77 (by kernel_rfl) rfl
          try with_reducible replace hw := New.undrawN hw
          try with_reducible replace hw := New.undraw hw
          obtain ⟨c, f'⟩ := hw.rules
          go_simp
          exact New.refl _
        · intro a w9 hw hj ho hk
          refine .inl ⟨by rfl, ?_⟩
          simp only [Bool.false_eq_true, if_false, if_true, eq_self_iff_true]
          have t78 : a.tmps[78]?.getD undef = .slice ea tm.length ec := hk 15 78 (by kernel_rfl) rfl
          go_simp
          refine (HE.out _ (NW0.trans hw)).mono ?_; rintro e w2 ⟨q, c, rfl, hb, o⟩
          first | exact ⟨hb, _, rfl, _, _, rfl, o⟩ | exact ⟨hb, _, _, by simp, o⟩
        · intro a w9 hw hj ho hk
          refine .inl ⟨by rfl, ?_⟩
          simp only [Bool.false_eq_true, if_false, if_true, eq_self_iff_true]
          obtain ⟨a72, c72, t72, o72⟩ : ∃ q c, (a.tmps[72]?.getD undef) = .slice q (BJ ++ [tg, cEq]).length c ∧ OwnX w1.heap.size w9 (.slice q (BJ ++ [tg, cEq]).length c) (BJ ++ [tg, cEq]) := hk 9 72 (by kernel_rfl) rfl
          obtain ⟨a79, c79, t79, k79⟩ : ∃ q c, (a.tmps[79]?.getD undef) = .slice q ET.length c ∧ RdX w9 (.slice q ET.length c) ET := hk 16 79 (by kernel_rfl) rfl
          have hzw := hw.size; exact wp_append_XG _ _ rfl (w1.heap.size) _ (BJ ++ [tg, cEq]) (by first | (simp [Act.eval, Act.get]; exact t72) | simp [Act.eval, t72]) (o72) _ (ET) (by first | (simp [Act.eval, Act.get]; exact t79) | simp [Act.eval, t79]) (k79) (by first | (simp only [List.length_append, List.length_cons, List.length_nil]; omega) | omega) hzw (fun v2 w2 h2 g2 => by obtain ⟨q, c, h9⟩ := h2.slice; subst h9; exact ⟨g2 _ (Nat.le_refl _), _, rfl, _, _, rfl, h2⟩)
      intro w7 b7
      intro _ _
      rintro _ rfl
      rintro _ rfl
      rintro _ rfl
      rintro _ rfl
      rintro _ rfl
      rintro _ rfl
      rintro _ ⟨q70, rfl, k70⟩
      intro _ _
      intro _ _
      rintro _ rfl
      rintro _ rfl
      rintro _ rfl
      rintro _ rfl
      rintro _ rfl
      rintro _ rfl
      intro _ _
      intro x80 h80; obtain ⟨a80, c80, rfl, o80⟩ := h80 (by simp)
      try with_reducible replace b7 := New.undrawN b7
      try with_reducible replace b7 := New.undraw b7
      obtain ⟨c7, f7⟩ := b7.rules
      have z7 := b7.size
      try simp only [World.size_alloc, World.size_drew, World.heap_drewN, World.size_setCell] at z7
      have z7_0 : w.heap.size < w7.heap.size := by omega
      simp only [RC.EndAll, List.nil_append, List.cons_append, List.length_cons, List.length_nil, Nat.zero_add, Nat.reduceAdd, List.take_succ_cons, List.take_zero, List.drop_succ_cons, List.drop_zero, putAll, RG.putAll, Act.put, List.setIfInBounds_toArray, List.set_cons_succ, List.set_cons_zero]
      obtain ⟨a80', n80, c80', e80⟩ := o80.sliceP
      have HL80 := Lib.hid (show (BJ ++ [tg, cEq] ++ ET).length ≤ 10300 by simp only [List.length_append, List.length_cons, List.length_nil]; omega)
      generalize (BJ ++ [tg, cEq] ++ ET) = LE at o80 HBN HL80 ⊢
      have hl80 := HL80.out
      go_wp2_with fail
      refine (sTokens_any _ [cSe] _ (rdS_layB [cSe] _) ok_Se (by simp)).mono ?_; rintro e w8 ⟨r8, rfl, b8, o8⟩
      obtain ⟨a8, k8, rfl⟩ := o8.slice
      obtain ⟨c8, f8⟩ := b8.rules
      have z8 := b8.size
      try simp only [World.size_alloc, World.size_drew, World.heap_drewN, World.size_setCell] at z8
      have z8_0 : w.heap.size < w8.heap.size := by omega
      go_wp2_with (first | (at_builtin; refine wpList_append_XK rfl _ _ rfl w1.heap.size _ _ rfl (o80.new (((New.refl _).alloc _).trans b8)) _ ([cSe]) rfl (o8.rd) (by first  |  (simp only [List.length_cons, List.length_nil, List.length_append] at *; omega)  |  omega) (by first  |  (simp; done)  |  (simp; omega)  |  omega) ?_; intro vaS waS hoS hgS hkS; have naS : New w1 waS := hgS _ (by exact (by repeat (first | with_reducible exact New.refl _ | with_reducible assumption | with_reducible refine New.drew ?_ | with_reducible refine New.drewN ?_ _ | with_reducible refine New.alloc ?_ _ | with_reducible refine New.setCell ?_ (by first | (simp; done) | (simp; omega) | omega) _ | with_reducible refine New.trans ?_ (by with_reducible assumption)))) (Nat.le_refl _); rw [HBN.out] at hoS; obtain ⟨aaS, mmS, kaS, rfl⟩ := hoS.sliceP; obtain ⟨caS, faS⟩ := (KW0.new naS).rules; have laS := (KW0.new naS).lt; have zaS := naS.size))
      go_roundw
      case rel => exact ⟨j + 1, by omega, by go_num, naS, by rw [HBE.out]; exact hoS⟩
      case measure => simp [intOf]; omega
    · obtain rfl : j = ps.length := by omega
      have HPT := Lib.hid (show bodyT p ps.length ++ [kwN 5, cSe] = progT p by rw [progT, ← HPL.out])
      generalize bodyT p ps.length = BJ at hown hlB HPT
      go_wp2_with fail
      refine (sTokens_any _ [kwN 5, cSe] _ (rdS_layB [kwN 5, cSe] _) (okT_cons (kwN_size 5) ok_Se) (by simp)).mono ?_; rintro e w9 ⟨r9, rfl, b9, o9⟩
      obtain ⟨a9, k9, rfl⟩ := o9.slice
      obtain ⟨c9, f9⟩ := b9.rules
      have z9 := b9.size
      try simp only [World.size_alloc, World.size_drew, World.heap_drewN, World.size_setCell] at z9
      have z9_0 : w.heap.size < w9.heap.size := by omega
      go_wp2_with (first | (at_builtin; refine wpList_append_XK rfl _ _ rfl w1.heap.size _ _ rfl (hown.new (((New.refl _).alloc _).trans b9)) _ ([kwN 5, cSe]) rfl (o9.rd) (by first  |  (simp only [List.length_cons, List.length_nil, List.length_append] at *; omega)  |  omega) (by first  |  (simp; done)  |  (simp; omega)  |  omega) ?_; intro vaE waE hoE hgE hkE; have naE : New w1 waE := hgE _ (by exact (by repeat (first | with_reducible exact New.refl _ | with_reducible assumption | with_reducible refine New.drew ?_ | with_reducible refine New.drewN ?_ _ | with_reducible refine New.alloc ?_ _ | with_reducible refine New.setCell ?_ (by first | (simp; done) | (simp; omega) | omega) _ | with_reducible refine New.trans ?_ (by with_reducible assumption)))) (Nat.le_refl _); rw [HPT.out] at hoE; obtain ⟨aaE, mmE, kaE, rfl⟩ := hoE.sliceP; obtain ⟨caE, faE⟩ := (KW0.new naE).rules; have laE := (KW0.new naE).lt; have zaE := naE.size))
      refine (HX.out _ _ hoE.rd).mono ?_; rintro e w10 ⟨rfl, b10⟩
      try with_reducible replace b10 := New.undrawN b10
      try with_reducible replace b10 := New.undraw b10
      obtain ⟨c10, f10⟩ := b10.rules
      have z10 := b10.size
      try simp only [World.size_alloc, World.size_drew, World.heap_drewN, World.size_setCell] at z10
      go_wp2_with fail
      go_ret2
      exact ⟨rfl, (NW0.trans naE).trans b10⟩
set_option maxHeartbeats 8000000 in
theorem sProgramTextV_any (p : ProgD) (iv vv ov lv : Value) (w : World) (hp : RdP w p iv vv ov lv) (hf : FitP p) (hw : wB p = true) (hv : p.vars ≠ []) (hg : p.guard.toList.isEmpty = true) :
    Calls Tryz.prog 18 #[valP p iv vv ov lv] w fun e w' => e = .returned (.tuple #[.string (strL (stdT (progT p))), .int .i64 0]) ∧ New w w' := by
  have hvi : (0 : Int) < (p.vars.length : Int) := by have := List.length_pos_iff.2 hv; omega
  have hvt : varT p = [kwN 2] ++ p.vars ++ [cSe] := by rw [varT, if_neg hv]
  have hgg : (p.guard.toList == []) = true := by rw [← hg]; cases p.guard.toList <;> rfl
  have HGT := Lib.hid (show guardT p = [] by rw [guardT, hg]; rfl)
  have HVT := Lib.hid hvt
  clear hv hg hvt
  obtain ⟨nm1, ni1, nv1, no1, _, n1, n2, n3, n4, hln⟩ := wB_parts hw
  have HI := Lib.hid (fun (w0 : World) (h : New w w0) => sIsWritten_any p iv vv ov lv w0 (hp.new h) hf)
  rw [hw] at HI
  have HP := Lib.hid hp
  have HLN := Lib.hid hln
  have KN := Lib.hid (show okT [kwN 0, p.name, cSe, kwN 1] from okT_cons (kwN_size 0) (okT_cons (name_size nm1) (okT_cons (by decide) (okT_cons (kwN_size 1) okT_nil))))
  have KO1 := Lib.hid (okT_names ni1)
  have KO2 := Lib.hid (okT_names nv1)
  have KO3 := Lib.hid (okT_names no1)
  obtain ⟨h1, h2, h3, hl⟩ := hp
  obtain ⟨ia, ic, rfl, _⟩ := id h1
  obtain ⟨va, vc, rfl, _⟩ := id h2
  obtain ⟨oa, oc, rfl, _⟩ := id h3
  obtain ⟨ps, hps, hl1, hl2⟩ := hl
  obtain ⟨la, lc, rfl, hm, HC⟩ := Rd.flat encLV_len (by omega) hl1
  have HT := Lib.hid hl2
  have HPS := Lib.hid hps
  have HPL := Lib.hid (show p.lines.length = ps.length by rw [← hps, List.length_map])
  have hpl : ps.length ≤ 40 := by rw [← hps, List.length_map] at n4; exact n4
  have HHB := Lib.hid (fun k => (bodyT_facts hw k).2)
  obtain ⟨e1, e2⟩ := progT_facts hw
  have HX := Lib.hid (fun (u : Value) (w0 : World) (hu : RdX w0 u (progT p)) => sTextX_any u (progT p) w0 hu e1 (by omega))
  clear h1 h2 h3 hl1 hl2 hps hln hw n4 hf e1 e2 nm1 ni1 nv1 no1
  obtain ⟨LX, hLX⟩ : ∃ LX, LX = [kwN 0, p.name, cSe, kwN 1] ++ p.inputs ++ [cSe] := ⟨_, rfl⟩
  have hlX : LX.length ≤ 30 := by rw [hLX]; simp only [List.length_append, List.length_cons, List.length_nil]; omega
  have HLX := Lib.hid hLX.symm
  obtain ⟨LV, hLV⟩ : ∃ LV, LV = LX ++ varT p := ⟨_, rfl⟩
  have hlVT : (varT p).length ≤ 22 := by
    rw [varT]; split
    · simp
    · simp only [List.length_append, List.length_cons, List.length_nil]; omega
  have hlV : LV.length ≤ 60 := by rw [hLV, List.length_append]; omega
  obtain ⟨LO, hLO⟩ : ∃ LO, LO = LV ++ [kwN 3] ++ p.outputs ++ [cSe] := ⟨_, rfl⟩
  have hlO : LO.length ≤ 90 := by rw [hLO]; simp only [List.length_append, List.length_cons, List.length_nil]; omega
  have HLO := Lib.hid hLO.symm
  have HB0 := Lib.hid (show LO ++ guardT p = bodyT p 0 by rw [hLO, hLV, hLX, bodyT, headT]; simp)
  have HLV := Lib.hid hLV.symm
  clear hLX hLV hLO
  have zz : w.heap.size < w.heap.size + 1 := by omega
  go_enter Tryz.func18, Tryz.ntmps18
  go_wp2_with fail
  refine (HI.out _ (by repeat (first | with_reducible exact New.refl _ | with_reducible assumption | with_reducible refine New.drew ?_ | with_reducible refine New.drewN ?_ _ | with_reducible refine New.alloc ?_ _ | with_reducible refine New.setCell ?_ (by first | (simp; done) | (simp; omega) | omega) _ | with_reducible refine New.trans ?_ (by with_reducible assumption)))).mono ?_; rintro e w1 ⟨rfl, b1⟩
  try with_reducible replace b1 := New.undrawN b1
  try with_reducible replace b1 := New.undraw b1
  obtain ⟨c1, f1⟩ := b1.rules
  have z1 := b1.size
  try simp only [World.size_alloc, World.size_drew, World.heap_drewN, World.size_setCell] at z1
  have z1_0 : w.heap.size < w1.heap.size := by omega
  go_wp2_with fail
  have KW0 : Blk w1 w.heap.size #[.string p.name, .slice ia p.inputs.length ic, .slice va p.vars.length vc, .slice oa p.outputs.length oc, .string p.guard, .slice la ps.length lc] 48 := Blk.new (Blk.alloc_at rfl) b1
  have NW0 : New w w1 := by exact (by repeat (first | with_reducible exact New.refl _ | with_reducible assumption | with_reducible refine New.drew ?_ | with_reducible refine New.drewN ?_ _ | with_reducible refine New.alloc ?_ _ | with_reducible refine New.setCell ?_ (by first | (simp; done) | (simp; omega) | omega) _ | with_reducible refine New.trans ?_ (by with_reducible assumption)))
  have zW0 := KW0.lt
  have HS1 := Lib.hid (HP.out.ins.new NW0)
  have HS2 := Lib.hid (HP.out.vars.new NW0)
  have HS3 := Lib.hid (HP.out.outs.new NW0)
  obtain ⟨c0, f0⟩ := KW0.rules
  clear c1 f1 b1 HP
  refine (sTokens_any _ [kwN 0, p.name, cSe, kwN 1] _ (rdS_layB [kwN 0, p.name, cSe, kwN 1] _) KN.out (by simp)).mono ?_; rintro e w2 ⟨r2, rfl, b2, o2⟩
  obtain ⟨a2, k2, rfl⟩ := o2.slice; replace o2 := o2.base (b' := w1.heap.size) (by first | (simp; done) | (simp; omega))
  obtain ⟨c2, f2⟩ := b2.rules
  have z2 := b2.size
  try simp only [World.size_alloc, World.size_drew, World.heap_drewN, World.size_setCell] at z2
  have z2_0 : w.heap.size < w2.heap.size := by omega
  go_wp2_with fail
  have nn2 : New w1 w2 := by exact (by repeat (first | with_reducible exact New.refl _ | with_reducible assumption | with_reducible refine New.drew ?_ | with_reducible refine New.drewN ?_ _ | with_reducible refine New.alloc ?_ _ | with_reducible refine New.setCell ?_ (by first | (simp; done) | (simp; omega) | omega) _ | with_reducible refine New.trans ?_ (by with_reducible assumption)))
  refine (sTokens_any _ p.inputs _ (Rd.new HS1.out nn2) KO1.out (by omega)).mono ?_; rintro e w3 ⟨r3, rfl, b3, o3⟩
  obtain ⟨a3, k3, rfl⟩ := o3.slice
  obtain ⟨c3, f3⟩ := b3.rules
  have z3 := b3.size
  try simp only [World.size_alloc, World.size_drew, World.heap_drewN, World.size_setCell] at z3
  have z3_0 : w.heap.size < w3.heap.size := by omega
  go_wp2_with (first | (at_builtin; refine wpList_append_XK rfl _ _ rfl w1.heap.size _ _ rfl (o2.new b3) _ (p.inputs) rfl (o3.rd) (by first  |  (simp only [List.length_cons, List.length_nil, List.length_append] at *; omega)  |  omega) (by first  |  (simp; done)  |  (simp; omega)  |  omega) ?_; intro vaA waA hoA hgA hkA; have naA : New w1 waA := hgA _ (by exact (by repeat (first | with_reducible exact New.refl _ | with_reducible assumption | with_reducible refine New.drew ?_ | with_reducible refine New.drewN ?_ _ | with_reducible refine New.alloc ?_ _ | with_reducible refine New.setCell ?_ (by first | (simp; done) | (simp; omega) | omega) _ | with_reducible refine New.trans ?_ (by with_reducible assumption)))) (Nat.le_refl _); obtain ⟨aaA, mmA, kaA, rfl⟩ := hoA.sliceP; obtain ⟨caA, faA⟩ := (KW0.new naA).rules; have laA := (KW0.new naA).lt; have zaA := naA.size))
  refine (sTokens_any _ [cSe] _ (rdS_layB [cSe] _) ok_Se (by simp)).mono ?_; rintro e w4 ⟨r4, rfl, b4, o4⟩
  obtain ⟨a4, k4, rfl⟩ := o4.slice
  obtain ⟨c4, f4⟩ := b4.rules
  have z4 := b4.size
  try simp only [World.size_alloc, World.size_drew, World.heap_drewN, World.size_setCell] at z4
  have z4_0 : w.heap.size < w4.heap.size := by omega
  go_wp2_with (first | (at_builtin; refine wpList_append_XK rfl _ _ rfl w1.heap.size _ _ rfl (hoA.new (((New.refl _).alloc _).trans b4)) _ ([cSe]) rfl (o4.rd) (by first  |  (simp only [List.length_cons, List.length_nil, List.length_append] at *; omega)  |  omega) (by first  |  (simp; done)  |  (simp; omega)  |  omega) ?_; intro vaB waB hoB hgB hkB; have naB : New w1 waB := hgB _ (by exact (by repeat (first | with_reducible exact New.refl _ | with_reducible assumption | with_reducible refine New.drew ?_ | with_reducible refine New.drewN ?_ _ | with_reducible refine New.alloc ?_ _ | with_reducible refine New.setCell ?_ (by first | (simp; done) | (simp; omega) | omega) _ | with_reducible refine New.trans ?_ (by with_reducible assumption)))) (Nat.le_refl _); rw [HLX.out] at hoB; obtain ⟨aaB, mmB, kaB, rfl⟩ := hoB.sliceP; obtain ⟨caB, faB⟩ := (KW0.new naB).rules; have laB := (KW0.new naB).lt; have zaB := naB.size))
  rw [HGT.out] at HB0
  have HV2 := Lib.hid (show LX ++ [kwN 2] ++ p.vars ++ [cSe] = LV by rw [← HLV.out, HVT.out]; simp)
  refine RC.wp_facts (132) (w1) (fun w' => OwnX w1.heap.size w' (.slice aaB mmB kaB) LX) [fun X W' => ∃ q n c, X = .slice q n c ∧ OwnX w1.heap.size W' (.slice q n c) (LX), fun X W' => ∃ q, X = .slice (some ⟨q, 0, none⟩) 1 1 ∧ Blk W' q #[.string (kwN 2)] 9, fun X W' => ∃ q c, X = .slice q 1 c ∧ OwnX (w1.heap.size) W' (.slice q 1 c) [kwN 2], fun X W' => ∃ q c, X = .slice q (LX ++ [kwN 2]).length c ∧ OwnX w1.heap.size W' (.slice q (LX ++ [kwN 2]).length c) (LX ++ [kwN 2]), fun X _ => X = .pointer (some ⟨w.heap.size, 2, none⟩), fun X _ => X = .slice va p.vars.length vc, fun X W' => ∃ q c, X = .slice q p.vars.length c ∧ OwnX (w1.heap.size) W' (.slice q p.vars.length c) p.vars, fun X W' => ∃ q c, X = .slice q (LX ++ [kwN 2] ++ p.vars).length c ∧ OwnX w1.heap.size W' (.slice q (LX ++ [kwN 2] ++ p.vars).length c) (LX ++ [kwN 2] ++ p.vars), fun X W' => ∃ q, X = .slice (some ⟨q, 0, none⟩) 1 1 ∧ Blk W' q #[.string cSe] 9, fun X W' => ∃ q c, X = .slice q 1 c ∧ OwnX (w1.heap.size) W' (.slice q 1 c) [cSe], fun X W' => ∃ q c, X = .slice q (LV).length c ∧ OwnX w1.heap.size W' (.slice q (LV).length c) (LV)] [some 3, none, some 3, some 7, none, none, some 7, some 10, none, some 10, some 61] [false, false, false, true, false, false, false, true, false, false, true] (by kernel_rfl) (by kernel_rfl) (by kernel_rfl) (naB) (hoB) (fun _ _ n h => h.new n) ⟨fun X w0 w1 hn ⟨a25, n25, c25, t25, o25⟩ => ⟨a25, n25, c25, t25, o25.new hn⟩, fun X w0 w1 hn ⟨q26, t26, k26⟩ => ⟨q26, t26, k26.new hn⟩, fun X w0 w1 hn ⟨a27, c27, t27, o27⟩ => ⟨a27, c27, t27, o27.new hn⟩, fun X w0 w1 hn ⟨a28, c28, t28, o28⟩ => ⟨a28, c28, t28, o28.new hn⟩, RG.stable_eq _, RG.stable_eq _, fun X w0 w1 hn ⟨a31, c31, t31, o31⟩ => ⟨a31, c31, t31, o31.new hn⟩, fun X w0 w1 hn ⟨a32, c32, t32, o32⟩ => ⟨a32, c32, t32, o32.new hn⟩, fun X w0 w1 hn ⟨q33, t33, k33⟩ => ⟨q33, t33, k33.new hn⟩, fun X w0 w1 hn ⟨a34, c34, t34, o34⟩ => ⟨a34, c34, t34, o34.new hn⟩, fun X w0 w1 hn ⟨a35, c35, t35, o35⟩ => ⟨a35, c35, t35, o35.new hn⟩, trivial⟩ ⟨fun X w0 w1 hw0 hn ⟨q26, t26, k26⟩ => ⟨q26, t26, hn.blk _ _ _ k26 (by decide)⟩, RC.stable_eqG _ _ _, RC.stable_eqG _ _ _, fun X w0 w1 hw0 hn ⟨q33, t33, k33⟩ => ⟨q33, t33, hn.blk _ _ _ k33 (by decide)⟩, trivial⟩ ?_ ?_
  · refine ⟨?_, ?_, ?_, ?_, ?_, ?_, ?_, ?_, ?_, ?_, ?_, trivial⟩
    · intro a w9 hw hj ho hk
      refine .inl ⟨by rfl, ?_⟩
      simp only [Bool.false_eq_true, if_false, if_true, eq_self_iff_true]
      have t2 := ho 4 rfl; dsimp at t2; have oJ := hj (by kernel_rfl); dsimp only at oJ; go_simp; first | exact ⟨New.refl _, _, rfl, _, _, _, rfl, oJ⟩ | exact ⟨New.refl _, _, _, _, by simp, oJ⟩
    · intro a w9 hw hj ho hk
      refine .inl ⟨by rfl, ?_⟩
      simp only [Bool.false_eq_true, if_false, if_true, eq_self_iff_true]
      go_simp; first | exact ⟨(New.refl _).alloc _, _, rfl, _, rfl, Blk.alloc_at rfl⟩ | exact ⟨(New.refl _).alloc _, _, by simp, Blk.alloc_at rfl⟩
    · intro a w9 hw hj ho hk
      refine .inl ⟨by rfl, ?_⟩
      simp only [Bool.false_eq_true, if_false, if_true, eq_self_iff_true]
      obtain ⟨q26, t26, k26⟩ : ∃ q, (a.tmps[26]?.getD undef) = .slice (some ⟨q, 0, none⟩) 1 1 ∧ Blk w9 q #[.string (kwN 2)] 9 := hk 1 26 (by kernel_rfl) rfl
      go_simp
      refine (sTokens_any _ [kwN 2] _ (rdS_blk [kwN 2] k26) (ok_kw 2) (by simp)).mono ?_; rintro e w2 ⟨r, rfl, hb, o⟩
      have hzw := hw.size; obtain ⟨q, c, rfl⟩ := o.slice; exact ⟨hb, _, rfl, _, _, rfl, o.base (by first | (simp only [World.size_alloc] at hzw; omega) | omega)⟩
    · intro a w9 hw hj ho hk
      refine .inl ⟨by rfl, ?_⟩
      simp only [Bool.false_eq_true, if_false, if_true, eq_self_iff_true]
      obtain ⟨a25, n25, c25, t25, o25⟩ : ∃ q n c, (a.tmps[25]?.getD undef) = .slice q n c ∧ OwnX w1.heap.size w9 (.slice q n c) (LX) := hk 0 25 (by kernel_rfl) rfl
      obtain ⟨a27, c27, t27, o27⟩ : ∃ q c, (a.tmps[27]?.getD undef) = .slice q 1 c ∧ OwnX (w1.heap.size) w9 (.slice q 1 c) [kwN 2] := hk 2 27 (by kernel_rfl) rfl
      have hzw := hw.size; exact wp_append_XG _ _ rfl (w1.heap.size) _ (LX) (by first | (simp [Act.eval, Act.get]; exact t25) | simp [Act.eval, t25]) (o25) _ ([kwN 2]) (by first | (simp [Act.eval, Act.get]; exact t27) | simp [Act.eval, t27]) (o27.rd) (by first | (simp only [List.length_append, List.length_cons, List.length_nil]; omega) | omega) hzw (fun v2 w2 h2 g2 => by obtain ⟨q, c, h9⟩ := h2.slice; subst h9; exact ⟨g2 _ (Nat.le_refl _), _, rfl, _, _, rfl, h2⟩)
    · intro a w9 hw hj ho hk
      refine .inl ⟨by rfl, ?_⟩
      simp only [Bool.false_eq_true, if_false, if_true, eq_self_iff_true]
      have t2 := ho 1 rfl
      dsimp at t2
      try with_reducible replace hw := New.undrawN hw
      try with_reducible replace hw := New.undraw hw
      obtain ⟨c, f'⟩ := hw.rules
      go_simp
      exact New.refl _
    · intro a w9 hw hj ho hk
      refine .inl ⟨by rfl, ?_⟩
      simp only [Bool.false_eq_true, if_false, if_true, eq_self_iff_true]
      have t29 : a.tmps[29]?.getD undef = .pointer (some ⟨w.heap.size, 2, none⟩) := hk 4 29 (by kernel_rfl) rfl
      try with_reducible replace hw := New.undrawN hw
      try with_reducible replace hw := New.undraw hw
      obtain ⟨c, f'⟩ := hw.rules
      go_simp
      exact New.refl _
    · intro a w9 hw hj ho hk
      refine .inl ⟨by rfl, ?_⟩
      simp only [Bool.false_eq_true, if_false, if_true, eq_self_iff_true]
      have t30 : a.tmps[30]?.getD undef = .slice va p.vars.length vc := hk 5 30 (by kernel_rfl) rfl
      go_simp
      refine (sTokens_any _ p.vars _ (HS2.out.new hw) KO2.out (by omega)).mono ?_; rintro e w2 ⟨r, rfl, hb, o⟩
      have hzw := hw.size; obtain ⟨q, c, rfl⟩ := o.slice; exact ⟨hb, _, rfl, _, _, rfl, o.base (by first | (simp only [World.size_alloc] at hzw; omega) | omega)⟩
    · intro a w9 hw hj ho hk
      refine .inl ⟨by rfl, ?_⟩
      simp only [Bool.false_eq_true, if_false, if_true, eq_self_iff_true]
      obtain ⟨a28, c28, t28, o28⟩ : ∃ q c, (a.tmps[28]?.getD undef) = .slice q (LX ++ [kwN 2]).length c ∧ OwnX w1.heap.size w9 (.slice q (LX ++ [kwN 2]).length c) (LX ++ [kwN 2]) := hk 3 28 (by kernel_rfl) rfl
      obtain ⟨a31, c31, t31, o31⟩ : ∃ q c, (a.tmps[31]?.getD undef) = .slice q p.vars.length c ∧ OwnX (w1.heap.size) w9 (.slice q p.vars.length c) p.vars := hk 6 31 (by kernel_rfl) rfl
      have hzw := hw.size; exact wp_append_XG _ _ rfl (w1.heap.size) _ (LX ++ [kwN 2]) (by first | (simp [Act.eval, Act.get]; exact t28) | simp [Act.eval, t28]) (o28) _ (p.vars) (by first | (simp [Act.eval, Act.get]; exact t31) | simp [Act.eval, t31]) (o31.rd) (by first | (simp only [List.length_append, List.length_cons, List.length_nil]; omega) | omega) hzw (fun v2 w2 h2 g2 => by obtain ⟨q, c, h9⟩ := h2.slice; subst h9; exact ⟨g2 _ (Nat.le_refl _), _, rfl, _, _, rfl, h2⟩)
    · intro a w9 hw hj ho hk
      refine .inl ⟨by rfl, ?_⟩
      simp only [Bool.false_eq_true, if_false, if_true, eq_self_iff_true]
      go_simp; first | exact ⟨(New.refl _).alloc _, _, rfl, _, rfl, Blk.alloc_at rfl⟩ | exact ⟨(New.refl _).alloc _, _, by simp, Blk.alloc_at rfl⟩
    · intro a w9 hw hj ho hk
      refine .inl ⟨by rfl, ?_⟩
      simp only [Bool.false_eq_true, if_false, if_true, eq_self_iff_true]
      obtain ⟨q33, t33, k33⟩ : ∃ q, (a.tmps[33]?.getD undef) = .slice (some ⟨q, 0, none⟩) 1 1 ∧ Blk w9 q #[.string cSe] 9 := hk 8 33 (by kernel_rfl) rfl
      go_simp
      refine (sTokens_any _ [cSe] _ (rdS_blk [cSe] k33) ok_Se (by simp)).mono ?_; rintro e w2 ⟨r, rfl, hb, o⟩
      have hzw := hw.size; obtain ⟨q, c, rfl⟩ := o.slice; exact ⟨hb, _, rfl, _, _, rfl, o.base (by first | (simp only [World.size_alloc] at hzw; omega) | omega)⟩
    · intro a w9 hw hj ho hk
      refine .inl ⟨by rfl, ?_⟩
      simp only [Bool.false_eq_true, if_false, if_true, eq_self_iff_true]
      obtain ⟨a32, c32, t32, o32⟩ : ∃ q c, (a.tmps[32]?.getD undef) = .slice q (LX ++ [kwN 2] ++ p.vars).length c ∧ OwnX w1.heap.size w9 (.slice q (LX ++ [kwN 2] ++ p.vars).length c) (LX ++ [kwN 2] ++ p.vars) := hk 7 32 (by kernel_rfl) rfl
      obtain ⟨a34, c34, t34, o34⟩ : ∃ q c, (a.tmps[34]?.getD undef) = .slice q 1 c ∧ OwnX (w1.heap.size) w9 (.slice q 1 c) [cSe] := hk 9 34 (by kernel_rfl) rfl
      have hzw := hw.size; exact wp_append_XG _ _ rfl (w1.heap.size) _ (LX ++ [kwN 2] ++ p.vars) (by first | (simp [Act.eval, Act.get]; exact t32) | simp [Act.eval, t32]) (o32) _ ([cSe]) (by first | (simp [Act.eval, Act.get]; exact t34) | simp [Act.eval, t34]) (o34.rd) (by first | (simp only [List.length_append, List.length_cons, List.length_nil]; omega) | omega) hzw (fun v2 w2 h2 g2 => by rw [HV2.out] at h2; obtain ⟨q, c, h9⟩ := h2.slice; subst h9; exact ⟨g2 _ (Nat.le_refl _), _, rfl, _, _, rfl, h2⟩)
  intro w5 b5
  intro _ _
  rintro _ ⟨q26, rfl, k26⟩
  intro _ _
  intro _ _
  rintro _ rfl
  rintro _ rfl
  intro _ _
  intro _ _
  rintro _ ⟨q33, rfl, k33⟩
  intro _ _
  intro x35 h35; obtain ⟨a35, c35, rfl, o35⟩ := h35 (by simp)
  try with_reducible replace b5 := New.undrawN b5
  try with_reducible replace b5 := New.undraw b5
  obtain ⟨c5, f5⟩ := b5.rules
  have z5 := b5.size
  try simp only [World.size_alloc, World.size_drew, World.heap_drewN, World.size_setCell] at z5
  have z5_0 : w.heap.size < w5.heap.size := by omega
  simp only [RC.EndAll, List.nil_append, List.cons_append, List.length_cons, List.length_nil, Nat.zero_add, Nat.reduceAdd, List.take_succ_cons, List.take_zero, List.drop_succ_cons, List.drop_zero, putAll, RG.putAll, Act.put, List.setIfInBounds_toArray, List.set_cons_succ, List.set_cons_zero]
  have lC := (KW0.new b5).lt
  go_wp2_with fail
  refine RC.wp_facts (132) (w1) (fun w' => OwnX w1.heap.size w' (.slice a35 (LV).length c35) LV) [fun X W' => ∃ q n c, X = .slice q n c ∧ OwnX w1.heap.size W' (.slice q n c) (LV), fun X W' => ∃ q, X = .slice (some ⟨q, 0, none⟩) 1 1 ∧ Blk W' q #[.string (kwN 3)] 9, fun X W' => ∃ q c, X = .slice q 1 c ∧ OwnX (w1.heap.size) W' (.slice q 1 c) [kwN 3], fun X W' => ∃ q c, X = .slice q (LV ++ [kwN 3]).length c ∧ OwnX w1.heap.size W' (.slice q (LV ++ [kwN 3]).length c) (LV ++ [kwN 3]), fun X _ => X = .pointer (some ⟨w.heap.size, 3, none⟩), fun X _ => X = .slice oa p.outputs.length oc, fun X W' => ∃ q c, X = .slice q p.outputs.length c ∧ OwnX (w1.heap.size) W' (.slice q p.outputs.length c) p.outputs, fun X W' => ∃ q c, X = .slice q (LV ++ [kwN 3] ++ p.outputs).length c ∧ OwnX w1.heap.size W' (.slice q (LV ++ [kwN 3] ++ p.outputs).length c) (LV ++ [kwN 3] ++ p.outputs), fun X W' => ∃ q, X = .slice (some ⟨q, 0, none⟩) 1 1 ∧ Blk W' q #[.string cSe] 9, fun X W' => ∃ q c, X = .slice q 1 c ∧ OwnX (w1.heap.size) W' (.slice q 1 c) [cSe], fun X W' => ∃ q c, X = .slice q (LO).length c ∧ OwnX w1.heap.size W' (.slice q (LO).length c) (LO)] [some 3, none, some 3, some 7, none, none, some 7, some 10, none, some 10, some 61] [false, false, false, true, false, false, false, true, false, false, true] (by kernel_rfl) (by kernel_rfl) (by kernel_rfl) (b5) (o35) (fun _ _ n h => h.new n) ⟨fun X w0 w1 hn ⟨a36, n36, c36, t36, o36⟩ => ⟨a36, n36, c36, t36, o36.new hn⟩, fun X w0 w1 hn ⟨q37, t37, k37⟩ => ⟨q37, t37, k37.new hn⟩, fun X w0 w1 hn ⟨a38, c38, t38, o38⟩ => ⟨a38, c38, t38, o38.new hn⟩, fun X w0 w1 hn ⟨a39, c39, t39, o39⟩ => ⟨a39, c39, t39, o39.new hn⟩, RG.stable_eq _, RG.stable_eq _, fun X w0 w1 hn ⟨a42, c42, t42, o42⟩ => ⟨a42, c42, t42, o42.new hn⟩, fun X w0 w1 hn ⟨a43, c43, t43, o43⟩ => ⟨a43, c43, t43, o43.new hn⟩, fun X w0 w1 hn ⟨q44, t44, k44⟩ => ⟨q44, t44, k44.new hn⟩, fun X w0 w1 hn ⟨a45, c45, t45, o45⟩ => ⟨a45, c45, t45, o45.new hn⟩, fun X w0 w1 hn ⟨a46, c46, t46, o46⟩ => ⟨a46, c46, t46, o46.new hn⟩, trivial⟩ ⟨fun X w0 w1 hw0 hn ⟨q37, t37, k37⟩ => ⟨q37, t37, hn.blk _ _ _ k37 (by decide)⟩, RC.stable_eqG _ _ _, RC.stable_eqG _ _ _, fun X w0 w1 hw0 hn ⟨q44, t44, k44⟩ => ⟨q44, t44, hn.blk _ _ _ k44 (by decide)⟩, trivial⟩ ?_ ?_
  · refine ⟨?_, ?_, ?_, ?_, ?_, ?_, ?_, ?_, ?_, ?_, ?_, trivial⟩
    · intro a w9 hw hj ho hk
      refine .inl ⟨by rfl, ?_⟩
      simp only [Bool.false_eq_true, if_false, if_true, eq_self_iff_true]
      have t2 := ho 4 rfl; dsimp at t2; have oJ := hj (by kernel_rfl); dsimp only at oJ; go_simp; first | exact ⟨New.refl _, _, rfl, _, _, _, rfl, oJ⟩ | exact ⟨New.refl _, _, _, _, by simp, oJ⟩
    · intro a w9 hw hj ho hk
      refine .inl ⟨by rfl, ?_⟩
      simp only [Bool.false_eq_true, if_false, if_true, eq_self_iff_true]
      go_simp; first | exact ⟨(New.refl _).alloc _, _, rfl, _, rfl, Blk.alloc_at rfl⟩ | exact ⟨(New.refl _).alloc _, _, by simp, Blk.alloc_at rfl⟩
    · intro a w9 hw hj ho hk
      refine .inl ⟨by rfl, ?_⟩
      simp only [Bool.false_eq_true, if_false, if_true, eq_self_iff_true]
      obtain ⟨q37, t37, k37⟩ : ∃ q, (a.tmps[37]?.getD undef) = .slice (some ⟨q, 0, none⟩) 1 1 ∧ Blk w9 q #[.string (kwN 3)] 9 := hk 1 37 (by kernel_rfl) rfl
      go_simp
      refine (sTokens_any _ [kwN 3] _ (rdS_blk [kwN 3] k37) (ok_kw 3) (by simp)).mono ?_; rintro e w2 ⟨r, rfl, hb, o⟩
      have hzw := hw.size; obtain ⟨q, c, rfl⟩ := o.slice; exact ⟨hb, _, rfl, _, _, rfl, o.base (by first | (simp only [World.size_alloc] at hzw; omega) | omega)⟩
    · intro a w9 hw hj ho hk
      refine .inl ⟨by rfl, ?_⟩
      simp only [Bool.false_eq_true, if_false, if_true, eq_self_iff_true]
      obtain ⟨a36, n36, c36, t36, o36⟩ : ∃ q n c, (a.tmps[36]?.getD undef) = .slice q n c ∧ OwnX w1.heap.size w9 (.slice q n c) (LV) := hk 0 36 (by kernel_rfl) rfl
      obtain ⟨a38, c38, t38, o38⟩ : ∃ q c, (a.tmps[38]?.getD undef) = .slice q 1 c ∧ OwnX (w1.heap.size) w9 (.slice q 1 c) [kwN 3] := hk 2 38 (by kernel_rfl) rfl
      have hzw := hw.size; exact wp_append_XG _ _ rfl (w1.heap.size) _ (LV) (by first | (simp [Act.eval, Act.get]; exact t36) | simp [Act.eval, t36]) (o36) _ ([kwN 3]) (by first | (simp [Act.eval, Act.get]; exact t38) | simp [Act.eval, t38]) (o38.rd) (by first | (simp only [List.length_append, List.length_cons, List.length_nil]; omega) | omega) hzw (fun v2 w2 h2 g2 => by obtain ⟨q, c, h9⟩ := h2.slice; subst h9; exact ⟨g2 _ (Nat.le_refl _), _, rfl, _, _, rfl, h2⟩)
    · intro a w9 hw hj ho hk
      refine .inl ⟨by rfl, ?_⟩
      simp only [Bool.false_eq_true, if_false, if_true, eq_self_iff_true]
      have t2 := ho 1 rfl
      dsimp at t2
      try with_reducible replace hw := New.undrawN hw
      try with_reducible replace hw := New.undraw hw
      obtain ⟨c, f'⟩ := hw.rules
      go_simp
      exact New.refl _
    · intro a w9 hw hj ho hk
      refine .inl ⟨by rfl, ?_⟩
      simp only [Bool.false_eq_true, if_false, if_true, eq_self_iff_true]
      have t40 : a.tmps[40]?.getD undef = .pointer (some ⟨w.heap.size, 3, none⟩) := hk 4 40 (by kernel_rfl) rfl
      try with_reducible replace hw := New.undrawN hw
      try with_reducible replace hw := New.undraw hw
      obtain ⟨c, f'⟩ := hw.rules
      go_simp
      exact New.refl _
    · intro a w9 hw hj ho hk
      refine .inl ⟨by rfl, ?_⟩
      simp only [Bool.false_eq_true, if_false, if_true, eq_self_iff_true]
      have t41 : a.tmps[41]?.getD undef = .slice oa p.outputs.length oc := hk 5 41 (by kernel_rfl) rfl
      go_simp
      refine (sTokens_any _ p.outputs _ (HS3.out.new hw) KO3.out (by omega)).mono ?_; rintro e w2 ⟨r, rfl, hb, o⟩
      have hzw := hw.size; obtain ⟨q, c, rfl⟩ := o.slice; exact ⟨hb, _, rfl, _, _, rfl, o.base (by first | (simp only [World.size_alloc] at hzw; omega) | omega)⟩
    · intro a w9 hw hj ho hk
      refine .inl ⟨by rfl, ?_⟩
      simp only [Bool.false_eq_true, if_false, if_true, eq_self_iff_true]
      obtain ⟨a39, c39, t39, o39⟩ : ∃ q c, (a.tmps[39]?.getD undef) = .slice q (LV ++ [kwN 3]).length c ∧ OwnX w1.heap.size w9 (.slice q (LV ++ [kwN 3]).length c) (LV ++ [kwN 3]) := hk 3 39 (by kernel_rfl) rfl
      obtain ⟨a42, c42, t42, o42⟩ : ∃ q c, (a.tmps[42]?.getD undef) = .slice q p.outputs.length c ∧ OwnX (w1.heap.size) w9 (.slice q p.outputs.length c) p.outputs := hk 6 42 (by kernel_rfl) rfl
      have hzw := hw.size; exact wp_append_XG _ _ rfl (w1.heap.size) _ (LV ++ [kwN 3]) (by first | (simp [Act.eval, Act.get]; exact t39) | simp [Act.eval, t39]) (o39) _ (p.outputs) (by first | (simp [Act.eval, Act.get]; exact t42) | simp [Act.eval, t42]) (o42.rd) (by first | (simp only [List.length_append, List.length_cons, List.length_nil]; omega) | omega) hzw (fun v2 w2 h2 g2 => by obtain ⟨q, c, h9⟩ := h2.slice; subst h9; exact ⟨g2 _ (Nat.le_refl _), _, rfl, _, _, rfl, h2⟩)
    · intro a w9 hw hj ho hk
      refine .inl ⟨by rfl, ?_⟩
      simp only [Bool.false_eq_true, if_false, if_true, eq_self_iff_true]
      go_simp; first | exact ⟨(New.refl _).alloc _, _, rfl, _, rfl, Blk.alloc_at rfl⟩ | exact ⟨(New.refl _).alloc _, _, by simp, Blk.alloc_at rfl⟩
    · intro a w9 hw hj ho hk
      refine .inl ⟨by rfl, ?_⟩
      simp only [Bool.false_eq_true, if_false, if_true, eq_self_iff_true]
      obtain ⟨q44, t44, k44⟩ : ∃ q, (a.tmps[44]?.getD undef) = .slice (some ⟨q, 0, none⟩) 1 1 ∧ Blk w9 q #[.string cSe] 9 := hk 8 44 (by kernel_rfl) rfl
      go_simp
      refine (sTokens_any _ [cSe] _ (rdS_blk [cSe] k44) ok_Se (by simp)).mono ?_; rintro e w2 ⟨r, rfl, hb, o⟩
      have hzw := hw.size; obtain ⟨q, c, rfl⟩ := o.slice; exact ⟨hb, _, rfl, _, _, rfl, o.base (by first | (simp only [World.size_alloc] at hzw; omega) | omega)⟩
    · intro a w9 hw hj ho hk
      refine .inl ⟨by rfl, ?_⟩
      simp only [Bool.false_eq_true, if_false, if_true, eq_self_iff_true]
      obtain ⟨a43, c43, t43, o43⟩ : ∃ q c, (a.tmps[43]?.getD undef) = .slice q (LV ++ [kwN 3] ++ p.outputs).length c ∧ OwnX w1.heap.size w9 (.slice q (LV ++ [kwN 3] ++ p.outputs).length c) (LV ++ [kwN 3] ++ p.outputs) := hk 7 43 (by kernel_rfl) rfl
      obtain ⟨a45, c45, t45, o45⟩ : ∃ q c, (a.tmps[45]?.getD undef) = .slice q 1 c ∧ OwnX (w1.heap.size) w9 (.slice q 1 c) [cSe] := hk 9 45 (by kernel_rfl) rfl
      have hzw := hw.size; exact wp_append_XG _ _ rfl (w1.heap.size) _ (LV ++ [kwN 3] ++ p.outputs) (by first | (simp [Act.eval, Act.get]; exact t43) | simp [Act.eval, t43]) (o43) _ ([cSe]) (by first | (simp [Act.eval, Act.get]; exact t45) | simp [Act.eval, t45]) (o45.rd) (by first | (simp only [List.length_append, List.length_cons, List.length_nil]; omega) | omega) hzw (fun v2 w2 h2 g2 => by rw [HLO.out] at h2; obtain ⟨q, c, h9⟩ := h2.slice; subst h9; exact ⟨g2 _ (Nat.le_refl _), _, rfl, _, _, rfl, h2⟩)
  intro w6 b6
  intro _ _
  rintro _ ⟨q37, rfl, k37⟩
  intro _ _
  intro _ _
  rintro _ rfl
  rintro _ rfl
  intro _ _
  intro _ _
  rintro _ ⟨q44, rfl, k44⟩
  intro _ _
  intro x46 h46; obtain ⟨a46, c46, rfl, o46⟩ := h46 (by simp)
  try with_reducible replace b6 := New.undrawN b6
  try with_reducible replace b6 := New.undraw b6
  obtain ⟨c6, f6⟩ := b6.rules
  have z6 := b6.size
  try simp only [World.size_alloc, World.size_drew, World.heap_drewN, World.size_setCell] at z6
  have z6_0 : w.heap.size < w6.heap.size := by omega
  simp only [RC.EndAll, List.nil_append, List.cons_append, List.length_cons, List.length_nil, Nat.zero_add, Nat.reduceAdd, List.take_succ_cons, List.take_zero, List.drop_succ_cons, List.drop_zero, putAll, RG.putAll, Act.put, List.setIfInBounds_toArray, List.set_cons_succ, List.set_cons_zero]
  have lD := (KW0.new b6).lt
  go_wp2_with fail
  have HB1 := Lib.hid (show LO = bodyT p 0 by have := HB0.out; simpa using this)
  have o46' : OwnX w1.heap.size w6 (.slice a46 (LO).length c46) (bodyT p 0) := by rw [← HB1.out]; exact o46
  clear o46
  go_loopw [4, 5] (fun o i wr => ∃ j : Nat, j ≤ ps.length ∧ i = .int .i64 j ∧ New w1 wr ∧ OwnX w1.heap.size wr o (bodyT p j)) (fun _ i _ => ps.length - (intOf i).toNat)
  case atStart => exact ⟨0, Nat.zero_le _, rfl, b6, o46'⟩
  case round =>
    obtain ⟨j, hj, rfl, hN, hown⟩ := hrel
    have hNz := hN.size
    have hNw := NW0.trans hN
    have hlB := HHB.out j
    obtain ⟨ao, mo, ko, rfl⟩ := hown.sliceP
    have lK := (KW0.new hN).lt
    obtain ⟨cK, fK⟩ := (KW0.new hN).rules
    by_cases hlt : j < ps.length
    · obtain ⟨b, off, rfl, hbl, hx⟩ := HC.out j hlt
      have x0 : w1.cell? ⟨b, off + j * 2, none⟩ = some (.string ps[j].1.target) := (NW0.cell hbl).trans (hx 0 _ (by omega) rfl)
      have x1 : w1.cell? ⟨b, off + j * 2 + 1, none⟩ = some ps[j].2 := (NW0.cell hbl).trans (hx 1 _ (by omega) rfl)
      clear hx
      have hbW : b < w1.heap.size := by have := NW0.size; omega
      obtain ⟨hlp, hle⟩ := lines_of HPS.out hlt
      have hrt := HT.out ps[j] (List.getElem_mem hlt)
      obtain ⟨ea, ec, hev, _⟩ := id hrt
      rw [hev] at x1 hrt
      clear hev
      obtain ⟨hl1, hl2⟩ := HLN.out ps[j].1 (by rw [← hle]; exact List.getElem_mem hlp)
      obtain ⟨he1, he2, _⟩ := exprT_facts hl2
      have HTG := Lib.hid (show okT [ps[j].1.target, cEq] from okT_cons (name_size hl1) (okT_cons (by decide) okT_nil))
      have HBN := Lib.hid (show bodyT p j ++ [ps[j].1.target, cEq] ++ exprT ps[j].1.terms ++ [cSe] = bodyT p (j + 1) by rw [bodyT_next hlp, hle, lineT]; simp)
      have HE := Lib.hid (fun (w0 : World) (h : New w w0) => sExprTokens_any (.slice ea ps[j].1.terms.length ec) ps[j].1.terms w0 (Rd.new hrt h) hl2)
      clear hle hl1 hl2 hrt he2
      generalize exprT ps[j].1.terms = ET at he1 HBN HE
      generalize ps[j].1.terms = tm at x1 HE
      generalize ps[j].1.target = tg at x0 HTG HBN
      generalize bodyT p j = BJ at hown hlB HBN
      obtain ⟨BN, hBN⟩ : ∃ BN, BN = bodyT p (j + 1) := ⟨_, rfl⟩
      rw [← hBN] at HBN
      have HBE := Lib.hid hBN.symm
      clear hBN
      have hji : (j : Int) < (ps.length : Int) := by omega
      have hj0 : ¬ ((j : Int) < 0) := by omega
      go_wp2_with fail
      clear cK fK
      refine RC.wp_facts (132) (w1) (fun w' => OwnX w1.heap.size w' (.slice ao mo ko) BJ) [fun X W' => ∃ q n c, X = .slice q n c ∧ OwnX w1.heap.size W' (.slice q n c) (BJ), fun X _ => X = .pointer (some ⟨w.heap.size, 5, none⟩), fun X _ => X = .slice (some ⟨b, off, none⟩) ps.length lc, fun X _ => X = .int .i64 (j : Int), fun X _ => X = .pointer (some ⟨b, off + j * 2, none⟩), fun X _ => X = .pointer (some ⟨b, off + j * 2, none⟩), fun X _ => X = .string tg, fun X W' => ∃ q, X = .slice (some ⟨q, 0, none⟩) 2 2 ∧ Blk W' q #[.string tg, .string cEq] 9, fun X W' => ∃ q c, X = .slice q 2 c ∧ OwnX (w1.heap.size) W' (.slice q 2 c) [tg, cEq], fun X W' => ∃ q c, X = .slice q (BJ ++ [tg, cEq]).length c ∧ OwnX w1.heap.size W' (.slice q (BJ ++ [tg, cEq]).length c) (BJ ++ [tg, cEq]), fun X _ => X = .pointer (some ⟨w.heap.size, 5, none⟩), fun X _ => X = .slice (some ⟨b, off, none⟩) ps.length lc, fun X _ => X = .int .i64 (j : Int), fun X _ => X = .pointer (some ⟨b, off + j * 2, none⟩), fun X _ => X = .pointer (some ⟨b, off + j * 2 + 1, none⟩), fun X _ => X = .slice ea tm.length ec, fun X W' => ∃ q c, X = .slice q ET.length c ∧ RdX W' (.slice q ET.length c) ET, fun X W' => ∃ q c, X = .slice q (BJ ++ [tg, cEq] ++ ET).length c ∧ OwnX w1.heap.size W' (.slice q (BJ ++ [tg, cEq] ++ ET).length c) (BJ ++ [tg, cEq] ++ ET)] [some 9, none, none, none, none, none, none, none, some 9, some 17, none, none, none, none, none, none, some 17, some 68] [false, false, false, false, false, false, false, false, false, true, false, false, false, false, false, false, false, true] (by kernel_rfl) (by kernel_rfl) (by kernel_rfl) (hN) (hown) (fun _ _ n h => h.new n) ⟨fun X w0 w1 hn ⟨a63, n63, c63, t63, o63⟩ => ⟨a63, n63, c63, t63, o63.new hn⟩, RG.stable_eq _, RG.stable_eq _, RG.stable_eq _, RG.stable_eq _, RG.stable_eq _, RG.stable_eq _, fun X w0 w1 hn ⟨q70, t70, k70⟩ => ⟨q70, t70, k70.new hn⟩, fun X w0 w1 hn ⟨a71, c71, t71, o71⟩ => ⟨a71, c71, t71, o71.new hn⟩, fun X w0 w1 hn ⟨a72, c72, t72, o72⟩ => ⟨a72, c72, t72, o72.new hn⟩, RG.stable_eq _, RG.stable_eq _, RG.stable_eq _, RG.stable_eq _, RG.stable_eq _, RG.stable_eq _, fun X w0 w1 hn ⟨a79, c79, t79, k79⟩ => ⟨a79, c79, t79, k79.new hn⟩, fun X w0 w1 hn ⟨a80, c80, t80, o80⟩ => ⟨a80, c80, t80, o80.new hn⟩, trivial⟩ ⟨RC.stable_eqG _ _ _, RC.stable_eqG _ _ _, RC.stable_eqG _ _ _, RC.stable_eqG _ _ _, RC.stable_eqG _ _ _, RC.stable_eqG _ _ _, fun X w0 w1 hw0 hn ⟨q70, t70, k70⟩ => ⟨q70, t70, hn.blk _ _ _ k70 (by decide)⟩, RC.stable_eqG _ _ _, RC.stable_eqG _ _ _, RC.stable_eqG _ _ _, RC.stable_eqG _ _ _, RC.stable_eqG _ _ _, RC.stable_eqG _ _ _, trivial⟩ ?_ ?_
      · refine ⟨?_, ?_, ?_, ?_, ?_, ?_, ?_, ?_, ?_, ?_, ?_, ?_, ?_, ?_, ?_, ?_, ?_, ?_, trivial⟩
        · intro a w9 hw hj ho hk
          refine .inl ⟨by rfl, ?_⟩
          simp only [Bool.false_eq_true, if_false, if_true, eq_self_iff_true]
          have t2 := ho 4 rfl; dsimp at t2; have oJ := hj (by kernel_rfl); dsimp only at oJ; go_simp; first | exact ⟨New.refl _, _, rfl, _, _, _, rfl, oJ⟩ | exact ⟨New.refl _, _, _, _, by simp, oJ⟩
        · intro a w9 hw hj ho hk
          refine .inl ⟨by rfl, ?_⟩
          simp only [Bool.false_eq_true, if_false, if_true, eq_self_iff_true]
          have t2 := ho 1 rfl
          dsimp at t2
          try with_reducible replace hw := New.undrawN hw
          try with_reducible replace hw := New.undraw hw
          obtain ⟨c, f'⟩ := hw.rules
          go_simp
          exact New.refl _
        · intro a w9 hw hj ho hk
          refine .inl ⟨by rfl, ?_⟩
          simp only [Bool.false_eq_true, if_false, if_true, eq_self_iff_true]
          have t64 : a.tmps[64]?.getD undef = .pointer (some ⟨w.heap.size, 5, none⟩) := hk 1 64 (by kernel_rfl) rfl
          try with_reducible replace hw := New.undrawN hw
          try with_reducible replace hw := New.undraw hw
          obtain ⟨c, f'⟩ := hw.rules
          go_simp
          exact New.refl _
        · intro a w9 hw hj ho hk
          refine .inl ⟨by rfl, ?_⟩
          simp only [Bool.false_eq_true, if_false, if_true, eq_self_iff_true]
          have t2 := ho 5 rfl
          dsimp at t2
          try with_reducible replace hw := New.undrawN hw
          try with_reducible replace hw := New.undraw hw
          obtain ⟨c, f'⟩ := hw.rules
          go_simp
          exact New.refl _
        · intro a w9 hw hj ho hk
          refine .inl ⟨by rfl, ?_⟩
          simp only [Bool.false_eq_true, if_false, if_true, eq_self_iff_true]
          have t65 : a.tmps[65]?.getD undef = .slice (some ⟨b, off, none⟩) ps.length lc := hk 2 65 (by kernel_rfl) rfl
          have t66 : a.tmps[66]?.getD undef = .int .i64 (j : Int) := hk 3 66 (by kernel_rfl) rfl
          go_simp
          exact New.refl _
        · intro a w9 hw hj ho hk
          refine .inl ⟨by rfl, ?_⟩
          simp only [Bool.false_eq_true, if_false, if_true, eq_self_iff_true]
          have t67 : a.tmps[67]?.getD undef = .pointer (some ⟨b, off + j * 2, none⟩) := hk 4 67 (by kernel_rfl) rfl
          go_simp
          exact New.refl _
        · intro a w9 hw hj ho hk
          refine .inl ⟨by rfl, ?_⟩
          simp only [Bool.false_eq_true, if_false, if_true, eq_self_iff_true]
          have t68 : a.tmps[68]?.getD undef = .pointer (some ⟨b, off + j * 2, none⟩) := hk 5 68 (by kernel_rfl) rfl
          try with_reducible replace hw := New.undrawN hw
          try with_reducible replace hw := New.undraw hw
          obtain ⟨c, f'⟩ := hw.rules
          go_simp
          exact New.refl _
        · intro a w9 hw hj ho hk
          refine .inl ⟨by rfl, ?_⟩
          simp only [Bool.false_eq_true, if_false, if_true, eq_self_iff_true]
          have t69 : a.tmps[69]?.getD undef = .string tg := hk 6 69 (by kernel_rfl) rfl
          go_simp; first | exact ⟨(New.refl _).alloc _, _, rfl, _, rfl, Blk.alloc_at rfl⟩ | exact ⟨(New.refl _).alloc _, _, by simp, Blk.alloc_at rfl⟩
        · intro a w9 hw hj ho hk
          refine .inl ⟨by rfl, ?_⟩
          simp only [Bool.false_eq_true, if_false, if_true, eq_self_iff_true]
          obtain ⟨q70, t70, k70⟩ : ∃ q, (a.tmps[70]?.getD undef) = .slice (some ⟨q, 0, none⟩) 2 2 ∧ Blk w9 q #[.string tg, .string cEq] 9 := hk 7 70 (by kernel_rfl) rfl
          go_simp
          refine (sTokens_any _ [tg, cEq] _ (rdS_blk [tg, cEq] k70) HTG.out (by simp)).mono ?_; rintro e w2 ⟨r, rfl, hb, o⟩
          have hzw := hw.size; obtain ⟨q, c, rfl⟩ := o.slice; exact ⟨hb, _, rfl, _, _, rfl, o.base (by first | (simp only [World.size_alloc] at hzw; omega) | omega)⟩
        · intro a w9 hw hj ho hk
          refine .inl ⟨by rfl, ?_⟩
          simp only [Bool.false_eq_true, if_false, if_true, eq_self_iff_true]
          obtain ⟨a63, n63, c63, t63, o63⟩ : ∃ q n c, (a.tmps[63]?.getD undef) = .slice q n c ∧ OwnX w1.heap.size w9 (.slice q n c) (BJ) := hk 0 63 (by kernel_rfl) rfl
          obtain ⟨a71, c71, t71, o71⟩ : ∃ q c, (a.tmps[71]?.getD undef) = .slice q 2 c ∧ OwnX (w1.heap.size) w9 (.slice q 2 c) [tg, cEq] := hk 8 71 (by kernel_rfl) rfl
          have hzw := hw.size; exact wp_append_XG _ _ rfl (w1.heap.size) _ (BJ) (by first | (simp [Act.eval, Act.get]; exact t63) | simp [Act.eval, t63]) (o63) _ ([tg, cEq]) (by first | (simp [Act.eval, Act.get]; exact t71) | simp [Act.eval, t71]) (o71.rd) (by first | (simp only [List.length_append, List.length_cons, List.length_nil]; omega) | omega) hzw (fun v2 w2 h2 g2 => by obtain ⟨q, c, h9⟩ := h2.slice; subst h9; exact ⟨g2 _ (Nat.le_refl _), _, rfl, _, _, rfl, h2⟩)
        · intro a w9 hw hj ho hk
          refine .inl ⟨by rfl, ?_⟩
          simp only [Bool.false_eq_true, if_false, if_true, eq_self_iff_true]
          have t2 := ho 1 rfl
          dsimp at t2
          try with_reducible replace hw := New.undrawN hw
          try with_reducible replace hw := New.undraw hw
          obtain ⟨c, f'⟩ := hw.rules
          go_simp
          exact New.refl _
        · intro a w9 hw hj ho hk
          refine .inl ⟨by rfl, ?_⟩
          simp only [Bool.false_eq_true, if_false, if_true, eq_self_iff_true]
          have t73 : a.tmps[73]?.getD undef = .pointer (some ⟨w.heap.size, 5, none⟩) := hk 10 73 (by kernel_rfl) rfl
          try with_reducible replace hw := New.undrawN hw
          try with_reducible replace hw := New.undraw hw
          obtain ⟨c, f'⟩ := hw.rules
          go_simp
          exact New.refl _
        · intro a w9 hw hj ho hk
          refine .inl ⟨by rfl, ?_⟩
          simp only [Bool.false_eq_true, if_false, if_true, eq_self_iff_true]
          have t2 := ho 5 rfl
          dsimp at t2
          try with_reducible replace hw := New.undrawN hw
          try with_reducible replace hw := New.undraw hw
          obtain ⟨c, f'⟩ := hw.rules
          go_simp
          exact New.refl _
        · intro a w9 hw hj ho hk
          refine .inl ⟨by rfl, ?_⟩
          simp only [Bool.false_eq_true, if_false, if_true, eq_self_iff_true]
          have t74 : a.tmps[74]?.getD undef = .slice (some ⟨b, off, none⟩) ps.length lc := hk 11 74 (by kernel_rfl) rfl
          have t75 : a.tmps[75]?.getD undef = .int .i64 (j : Int) := hk 12 75 (by kernel_rfl) rfl
          go_simp
          exact New.refl _
        · intro a w9 hw hj ho hk
          refine .inl ⟨by rfl, ?_⟩
          simp only [Bool.false_eq_true, if_false, if_true, eq_self_iff_true]
          have t76 : a.tmps[76]?.getD undef = .pointer (some ⟨b, off + j * 2, none⟩) := hk 13 76 (by kernel_rfl) rfl
          go_simp
          exact New.refl _
        · intro a w9 hw hj ho hk
          refine .inl ⟨by rfl, ?_⟩
          simp only [Bool.false_eq_true, if_false, if_true, eq_self_iff_true]
          have t77 : a.tmps[77]?.getD undef = .pointer (some ⟨b, off + j * 2 + 1, none⟩) := hk 14 77 (by kernel_rfl) rfl
          try with_reducible replace hw := New.undrawN hw
          try with_reducible replace hw := New.undraw hw
          obtain ⟨c, f'⟩ := hw.rules
          go_simp
          exact New.refl _
        · intro a w9 hw hj ho hk
          refine .inl ⟨by rfl, ?_⟩
          simp only [Bool.false_eq_true, if_false, if_true, eq_self_iff_true]
          have t78 : a.tmps[78]?.getD undef = .slice ea tm.length ec := hk 15 78 (by kernel_rfl) rfl
          go_simp
          refine (HE.out _ (NW0.trans hw)).mono ?_; rintro e w2 ⟨q, c, rfl, hb, o⟩
          first | exact ⟨hb, _, rfl, _, _, rfl, o⟩ | exact ⟨hb, _, _, by simp, o⟩
        · intro a w9 hw hj ho hk
          refine .inl ⟨by rfl, ?_⟩
          simp only [Bool.false_eq_true, if_false, if_true, eq_self_iff_true]
          obtain ⟨a72, c72, t72, o72⟩ : ∃ q c, (a.tmps[72]?.getD undef) = .slice q (BJ ++ [tg, cEq]).length c ∧ OwnX w1.heap.size w9 (.slice q (BJ ++ [tg, cEq]).length c) (BJ ++ [tg, cEq]) := hk 9 72 (by kernel_rfl) rfl
          obtain ⟨a79, c79, t79, k79⟩ : ∃ q c, (a.tmps[79]?.getD undef) = .slice q ET.length c ∧ RdX w9 (.slice q ET.length c) ET := hk 16 79 (by kernel_rfl) rfl
          have hzw := hw.size; exact wp_append_XG _ _ rfl (w1.heap.size) _ (BJ ++ [tg, cEq]) (by first | (simp [Act.eval, Act.get]; exact t72) | simp [Act.eval, t72]) (o72) _ (ET) (by first | (simp [Act.eval, Act.get]; exact t79) | simp [Act.eval, t79]) (k79) (by first | (simp only [List.length_append, List.length_cons, List.length_nil]; omega) | omega) hzw (fun v2 w2 h2 g2 => by obtain ⟨q, c, h9⟩ := h2.slice; subst h9; exact ⟨g2 _ (Nat.le_refl _), _, rfl, _, _, rfl, h2⟩)
      intro w7 b7
      intro _ _
      rintro _ rfl
      rintro _ rfl
      rintro _ rfl
      rintro _ rfl
      rintro _ rfl
      rintro _ rfl
      rintro _ ⟨q70, rfl, k70⟩
      intro _ _
      intro _ _
      rintro _ rfl
      rintro _ rfl
      rintro _ rfl
      rintro _ rfl
      rintro _ rfl
      rintro _ rfl
      intro _ _
      intro x80 h80; obtain ⟨a80, c80, rfl, o80⟩ := h80 (by simp)
      try with_reducible replace b7 := New.undrawN b7
      try with_reducible replace b7 := New.undraw b7
      obtain ⟨c7, f7⟩ := b7.rules
      have z7 := b7.size
      try simp only [World.size_alloc, World.size_drew, World.heap_drewN, World.size_setCell] at z7
      have z7_0 : w.heap.size < w7.heap.size := by omega
      simp only [RC.EndAll, List.nil_append, List.cons_append, List.length_cons, List.length_nil, Nat.zero_add, Nat.reduceAdd, List.take_succ_cons, List.take_zero, List.drop_succ_cons, List.drop_zero, putAll, RG.putAll, Act.put, List.setIfInBounds_toArray, List.set_cons_succ, List.set_cons_zero]
      obtain ⟨a80', n80, c80', e80⟩ := o80.sliceP
      have HL80 := Lib.hid (show (BJ ++ [tg, cEq] ++ ET).length ≤ 10300 by simp only [List.length_append, List.length_cons, List.length_nil]; omega)
      generalize (BJ ++ [tg, cEq] ++ ET) = LE at o80 HBN HL80 ⊢
      have hl80 := HL80.out
      go_wp2_with fail
      refine (sTokens_any _ [cSe] _ (rdS_layB [cSe] _) ok_Se (by simp)).mono ?_; rintro e w8 ⟨r8, rfl, b8, o8⟩
      obtain ⟨a8, k8, rfl⟩ := o8.slice
      obtain ⟨c8, f8⟩ := b8.rules
      have z8 := b8.size
      try simp only [World.size_alloc, World.size_drew, World.heap_drewN, World.size_setCell] at z8
      have z8_0 : w.heap.size < w8.heap.size := by omega
      go_wp2_with (first | (at_builtin; refine wpList_append_XK rfl _ _ rfl w1.heap.size _ _ rfl (o80.new (((New.refl _).alloc _).trans b8)) _ ([cSe]) rfl (o8.rd) (by first  |  (simp only [List.length_cons, List.length_nil, List.length_append] at *; omega)  |  omega) (by first  |  (simp; done)  |  (simp; omega)  |  omega) ?_; intro vaS waS hoS hgS hkS; have naS : New w1 waS := hgS _ (by exact (by repeat (first | with_reducible exact New.refl _ | with_reducible assumption | with_reducible refine New.drew ?_ | with_reducible refine New.drewN ?_ _ | with_reducible refine New.alloc ?_ _ | with_reducible refine New.setCell ?_ (by first | (simp; done) | (simp; omega) | omega) _ | with_reducible refine New.trans ?_ (by with_reducible assumption)))) (Nat.le_refl _); rw [HBN.out] at hoS; obtain ⟨aaS, mmS, kaS, rfl⟩ := hoS.sliceP; obtain ⟨caS, faS⟩ := (KW0.new naS).rules; have laS := (KW0.new naS).lt; have zaS := naS.size))
      go_roundw
      case rel => exact ⟨j + 1, by omega, by go_num, naS, by rw [HBE.out]; exact hoS⟩
      case measure => simp [intOf]; omega
    · obtain rfl : j = ps.length := by omega
      have HPT := Lib.hid (show bodyT p ps.length ++ [kwN 5, cSe] = progT p by rw [progT, ← HPL.out])
      generalize bodyT p ps.length = BJ at hown hlB HPT
      go_wp2_with fail
      refine (sTokens_any _ [kwN 5, cSe] _ (rdS_layB [kwN 5, cSe] _) (okT_cons (kwN_size 5) ok_Se) (by simp)).mono ?_; rintro e w9 ⟨r9, rfl, b9, o9⟩
      obtain ⟨a9, k9, rfl⟩ := o9.slice
      obtain ⟨c9, f9⟩ := b9.rules
      have z9 := b9.size
      try simp only [World.size_alloc, World.size_drew, World.heap_drewN, World.size_setCell] at z9
      have z9_0 : w.heap.size < w9.heap.size := by omega
      go_wp2_with (first | (at_builtin; refine wpList_append_XK rfl _ _ rfl w1.heap.size _ _ rfl (hown.new (((New.refl _).alloc _).trans b9)) _ ([kwN 5, cSe]) rfl (o9.rd) (by first  |  (simp only [List.length_cons, List.length_nil, List.length_append] at *; omega)  |  omega) (by first  |  (simp; done)  |  (simp; omega)  |  omega) ?_; intro vaE waE hoE hgE hkE; have naE : New w1 waE := hgE _ (by exact (by repeat (first | with_reducible exact New.refl _ | with_reducible assumption | with_reducible refine New.drew ?_ | with_reducible refine New.drewN ?_ _ | with_reducible refine New.alloc ?_ _ | with_reducible refine New.setCell ?_ (by first | (simp; done) | (simp; omega) | omega) _ | with_reducible refine New.trans ?_ (by with_reducible assumption)))) (Nat.le_refl _); rw [HPT.out] at hoE; obtain ⟨aaE, mmE, kaE, rfl⟩ := hoE.sliceP; obtain ⟨caE, faE⟩ := (KW0.new naE).rules; have laE := (KW0.new naE).lt; have zaE := naE.size))
      refine (HX.out _ _ hoE.rd).mono ?_; rintro e w10 ⟨rfl, b10⟩
      try with_reducible replace b10 := New.undrawN b10
      try with_reducible replace b10 := New.undraw b10
      obtain ⟨c10, f10⟩ := b10.rules
      have z10 := b10.size
      try simp only [World.size_alloc, World.size_drew, World.heap_drewN, World.size_setCell] at z10
      go_wp2_with fail
      go_ret2
      exact ⟨rfl, (NW0.trans naE).trans b10⟩
set_option maxHeartbeats 8000000 in
theorem sProgramTextG_any (p : ProgD) (iv vv ov lv : Value) (w : World) (hp : RdP w p iv vv ov lv) (hf : FitP p) (hw : wB p = true) (hv : p.vars = []) (hg : p.guard.toList.isEmpty = false) :
    Calls Tryz.prog 18 #[valP p iv vv ov lv] w fun e w' => e = .returned (.tuple #[.string (strL (stdT (progT p))), .int .i64 0]) ∧ New w w' := by
  have hvi : ¬ (0 : Int) < (p.vars.length : Int) := by rw [hv]; simp
  have hvt : varT p = [] := by rw [varT, if_pos hv]
  have hgg : (p.guard.toList == []) = false := by rw [← hg]; cases p.guard.toList <;> rfl
  have HGT := Lib.hid (show guardT p = [kwN 4, p.guard, cSe] by rw [guardT, hg]; rfl)
  have KG := Lib.hid (show okT [kwN 4, p.guard, cSe] from okT_cons (kwN_size 4) (okT_cons (by rcases (wB_parts hw).2.2.2.2.1 with h | h; (rw [hg] at h; cases h); exact name_size h) (okT_cons (by decide) okT_nil)))
  have HVT := Lib.hid hvt
  clear hv hg hvt
  obtain ⟨nm1, ni1, nv1, no1, _, n1, n2, n3, n4, hln⟩ := wB_parts hw
  have HI := Lib.hid (fun (w0 : World) (h : New w w0) => sIsWritten_any p iv vv ov lv w0 (hp.new h) hf)
  rw [hw] at HI
  have HP := Lib.hid hp
  have HLN := Lib.hid hln
  have KN := Lib.hid (show okT [kwN 0, p.name, cSe, kwN 1] from okT_cons (kwN_size 0) (okT_cons (name_size nm1) (okT_cons (by decide) (okT_cons (kwN_size 1) okT_nil))))
  have KO1 := Lib.hid (okT_names ni1)
  have KO2 := Lib.hid (okT_names nv1)
  have KO3 := Lib.hid (okT_names no1)
  obtain ⟨h1, h2, h3, hl⟩ := hp
  obtain ⟨ia, ic, rfl, _⟩ := id h1
  obtain ⟨va, vc, rfl, _⟩ := id h2
  obtain ⟨oa, oc, rfl, _⟩ := id h3
  obtain ⟨ps, hps, hl1, hl2⟩ := hl
  obtain ⟨la, lc, rfl, hm, HC⟩ := Rd.flat encLV_len (by omega) hl1
  have HT := Lib.hid hl2
  have HPS := Lib.hid hps
  have HPL := Lib.hid (show p.lines.length = ps.length by rw [← hps, List.length_map])
  have hpl : ps.length ≤ 40 := by rw [← hps, List.length_map] at n4; exact n4
  have HHB := Lib.hid (fun k => (bodyT_facts hw k).2)
  obtain ⟨e1, e2⟩ := progT_facts hw
  have HX := Lib.hid (fun (u : Value) (w0 : World) (hu : RdX w0 u (progT p)) => sTextX_any u (progT p) w0 hu e1 (by omega))
  clear h1 h2 h3 hl1 hl2 hps hln hw n4 hf e1 e2 nm1 ni1 nv1 no1
  obtain ⟨LX, hLX⟩ : ∃ LX, LX = [kwN 0, p.name, cSe, kwN 1] ++ p.inputs ++ [cSe] := ⟨_, rfl⟩
  have hlX : LX.length ≤ 30 := by rw [hLX]; simp only [List.length_append, List.length_cons, List.length_nil]; omega
  have HLX := Lib.hid hLX.symm
  obtain ⟨LV, hLV⟩ : ∃ LV, LV = LX ++ varT p := ⟨_, rfl⟩
  have hlVT : (varT p).length ≤ 22 := by
    rw [varT]; split
    · simp
    · simp only [List.length_append, List.length_cons, List.length_nil]; omega
  have hlV : LV.length ≤ 60 := by rw [hLV, List.length_append]; omega
  obtain ⟨LO, hLO⟩ : ∃ LO, LO = LV ++ [kwN 3] ++ p.outputs ++ [cSe] := ⟨_, rfl⟩
  have hlO : LO.length ≤ 90 := by rw [hLO]; simp only [List.length_append, List.length_cons, List.length_nil]; omega
  have HLO := Lib.hid hLO.symm
  have HB0 := Lib.hid (show LO ++ guardT p = bodyT p 0 by rw [hLO, hLV, hLX, bodyT, headT]; simp)
  have HLV := Lib.hid hLV.symm
  clear hLX hLV hLO
  have zz : w.heap.size < w.heap.size + 1 := by omega
  go_enter Tryz.func18, Tryz.ntmps18
  go_wp2_with fail
  refine (HI.out _ (by repeat (first | with_reducible exact New.refl _ | with_reducible assumption | with_reducible refine New.drew ?_ | with_reducible refine New.drewN ?_ _ | with_reducible refine New.alloc ?_ _ | with_reducible refine New.setCell ?_ (by first | (simp; done) | (simp; omega) | omega) _ | with_reducible refine New.trans ?_ (by with_reducible assumption)))).mono ?_; rintro e w1 ⟨rfl, b1⟩
  try with_reducible replace b1 := New.undrawN b1
  try with_reducible replace b1 := New.undraw b1
  obtain ⟨c1, f1⟩ := b1.rules
  have z1 := b1.size
  try simp only [World.size_alloc, World.size_drew, World.heap_drewN, World.size_setCell] at z1
  have z1_0 : w.heap.size < w1.heap.size := by omega
  go_wp2_with fail
  have KW0 : Blk w1 w.heap.size #[.string p.name, .slice ia p.inputs.length ic, .slice va p.vars.length vc, .slice oa p.outputs.length oc, .string p.guard, .slice la ps.length lc] 48 := Blk.new (Blk.alloc_at rfl) b1
  have NW0 : New w w1 := by exact (by repeat (first | with_reducible exact New.refl _ | with_reducible assumption | with_reducible refine New.drew ?_ | with_reducible refine New.drewN ?_ _ | with_reducible refine New.alloc ?_ _ | with_reducible refine New.setCell ?_ (by first | (simp; done) | (simp; omega) | omega) _ | with_reducible refine New.trans ?_ (by with_reducible assumption)))
  have zW0 := KW0.lt
  have HS1 := Lib.hid (HP.out.ins.new NW0)
  have HS2 := Lib.hid (HP.out.vars.new NW0)
  have HS3 := Lib.hid (HP.out.outs.new NW0)
  obtain ⟨c0, f0⟩ := KW0.rules
  clear c1 f1 b1 HP
  refine (sTokens_any _ [kwN 0, p.name, cSe, kwN 1] _ (rdS_layB [kwN 0, p.name, cSe, kwN 1] _) KN.out (by simp)).mono ?_; rintro e w2 ⟨r2, rfl, b2, o2⟩
  obtain ⟨a2, k2, rfl⟩ := o2.slice; replace o2 := o2.base (b' := w1.heap.size) (by first | (simp; done) | (simp; omega))
  obtain ⟨c2, f2⟩ := b2.rules
  have z2 := b2.size
  try simp only [World.size_alloc, World.size_drew, World.heap_drewN, World.size_setCell] at z2
  have z2_0 : w.heap.size < w2.heap.size := by omega
  go_wp2_with fail
  have nn2 : New w1 w2 := by exact (by repeat (first | with_reducible exact New.refl _ | with_reducible assumption | with_reducible refine New.drew ?_ | with_reducible refine New.drewN ?_ _ | with_reducible refine New.alloc ?_ _ | with_reducible refine New.setCell ?_ (by first | (simp; done) | (simp; omega) | omega) _ | with_reducible refine New.trans ?_ (by with_reducible assumption)))
  refine (sTokens_any _ p.inputs _ (Rd.new HS1.out nn2) KO1.out (by omega)).mono ?_; rintro e w3 ⟨r3, rfl, b3, o3⟩
  obtain ⟨a3, k3, rfl⟩ := o3.slice
  obtain ⟨c3, f3⟩ := b3.rules
  have z3 := b3.size
  try simp only [World.size_alloc, World.size_drew, World.heap_drewN, World.size_setCell] at z3
  have z3_0 : w.heap.size < w3.heap.size := by omega
  go_wp2_with (first | (at_builtin; refine wpList_append_XK rfl _ _ rfl w1.heap.size _ _ rfl (o2.new b3) _ (p.inputs) rfl (o3.rd) (by first  |  (simp only [List.length_cons, List.length_nil, List.length_append] at *; omega)  |  omega) (by first  |  (simp; done)  |  (simp; omega)  |  omega) ?_; intro vaA waA hoA hgA hkA; have naA : New w1 waA := hgA _ (by exact (by repeat (first | with_reducible exact New.refl _ | with_reducible assumption | with_reducible refine New.drew ?_ | with_reducible refine New.drewN ?_ _ | with_reducible refine New.alloc ?_ _ | with_reducible refine New.setCell ?_ (by first | (simp; done) | (simp; omega) | omega) _ | with_reducible refine New.trans ?_ (by with_reducible assumption)))) (Nat.le_refl _); obtain ⟨aaA, mmA, kaA, rfl⟩ := hoA.sliceP; obtain ⟨caA, faA⟩ := (KW0.new naA).rules; have laA := (KW0.new naA).lt; have zaA := naA.size))
  refine (sTokens_any _ [cSe] _ (rdS_layB [cSe] _) ok_Se (by simp)).mono ?_; rintro e w4 ⟨r4, rfl, b4, o4⟩
  obtain ⟨a4, k4, rfl⟩ := o4.slice
  obtain ⟨c4, f4⟩ := b4.rules
  have z4 := b4.size
  try simp only [World.size_alloc, World.size_drew, World.heap_drewN, World.size_setCell] at z4
  have z4_0 : w.heap.size < w4.heap.size := by omega
  go_wp2_with (first | (at_builtin; refine wpList_append_XK rfl _ _ rfl w1.heap.size _ _ rfl (hoA.new (((New.refl _).alloc _).trans b4)) _ ([cSe]) rfl (o4.rd) (by first  |  (simp only [List.length_cons, List.length_nil, List.length_append] at *; omega)  |  omega) (by first  |  (simp; done)  |  (simp; omega)  |  omega) ?_; intro vaB waB hoB hgB hkB; have naB : New w1 waB := hgB _ (by exact (by repeat (first | with_reducible exact New.refl _ | with_reducible assumption | with_reducible refine New.drew ?_ | with_reducible refine New.drewN ?_ _ | with_reducible refine New.alloc ?_ _ | with_reducible refine New.setCell ?_ (by first | (simp; done) | (simp; omega) | omega) _ | with_reducible refine New.trans ?_ (by with_reducible assumption)))) (Nat.le_refl _); rw [HLX.out] at hoB; obtain ⟨aaB, mmB, kaB, rfl⟩ := hoB.sliceP; obtain ⟨caB, faB⟩ := (KW0.new naB).rules; have laB := (KW0.new naB).lt; have zaB := naB.size))
  rw [HGT.out] at HB0
  have HLV2 := Lib.hid (show LX = LV by have := HLV.out; rw [HVT.out] at this; simpa using this)
  rw [HLV2.out] at hoB
  refine RC.wp_facts (132) (w1) (fun w' => OwnX w1.heap.size w' (.slice aaB mmB kaB) LV) [fun X W' => ∃ q n c, X = .slice q n c ∧ OwnX w1.heap.size W' (.slice q n c) (LV), fun X W' => ∃ q, X = .slice (some ⟨q, 0, none⟩) 1 1 ∧ Blk W' q #[.string (kwN 3)] 9, fun X W' => ∃ q c, X = .slice q 1 c ∧ OwnX (w1.heap.size) W' (.slice q 1 c) [kwN 3], fun X W' => ∃ q c, X = .slice q (LV ++ [kwN 3]).length c ∧ OwnX w1.heap.size W' (.slice q (LV ++ [kwN 3]).length c) (LV ++ [kwN 3]), fun X _ => X = .pointer (some ⟨w.heap.size, 3, none⟩), fun X _ => X = .slice oa p.outputs.length oc, fun X W' => ∃ q c, X = .slice q p.outputs.length c ∧ OwnX (w1.heap.size) W' (.slice q p.outputs.length c) p.outputs, fun X W' => ∃ q c, X = .slice q (LV ++ [kwN 3] ++ p.outputs).length c ∧ OwnX w1.heap.size W' (.slice q (LV ++ [kwN 3] ++ p.outputs).length c) (LV ++ [kwN 3] ++ p.outputs), fun X W' => ∃ q, X = .slice (some ⟨q, 0, none⟩) 1 1 ∧ Blk W' q #[.string cSe] 9, fun X W' => ∃ q c, X = .slice q 1 c ∧ OwnX (w1.heap.size) W' (.slice q 1 c) [cSe], fun X W' => ∃ q c, X = .slice q (LO).length c ∧ OwnX w1.heap.size W' (.slice q (LO).length c) (LO)] [some 3, none, some 3, some 7, none, none, some 7, some 10, none, some 10, some 61] [false, false, false, true, false, false, false, true, false, false, true] (by kernel_rfl) (by kernel_rfl) (by kernel_rfl) (naB) (hoB) (fun _ _ n h => h.new n) ⟨fun X w0 w1 hn ⟨a36, n36, c36, t36, o36⟩ => ⟨a36, n36, c36, t36, o36.new hn⟩, fun X w0 w1 hn ⟨q37, t37, k37⟩ => ⟨q37, t37, k37.new hn⟩, fun X w0 w1 hn ⟨a38, c38, t38, o38⟩ => ⟨a38, c38, t38, o38.new hn⟩, fun X w0 w1 hn ⟨a39, c39, t39, o39⟩ => ⟨a39, c39, t39, o39.new hn⟩, RG.stable_eq _, RG.stable_eq _, fun X w0 w1 hn ⟨a42, c42, t42, o42⟩ => ⟨a42, c42, t42, o42.new hn⟩, fun X w0 w1 hn ⟨a43, c43, t43, o43⟩ => ⟨a43, c43, t43, o43.new hn⟩, fun X w0 w1 hn ⟨q44, t44, k44⟩ => ⟨q44, t44, k44.new hn⟩, fun X w0 w1 hn ⟨a45, c45, t45, o45⟩ => ⟨a45, c45, t45, o45.new hn⟩, fun X w0 w1 hn ⟨a46, c46, t46, o46⟩ => ⟨a46, c46, t46, o46.new hn⟩, trivial⟩ ⟨fun X w0 w1 hw0 hn ⟨q37, t37, k37⟩ => ⟨q37, t37, hn.blk _ _ _ k37 (by decide)⟩, RC.stable_eqG _ _ _, RC.stable_eqG _ _ _, fun X w0 w1 hw0 hn ⟨q44, t44, k44⟩ => ⟨q44, t44, hn.blk _ _ _ k44 (by decide)⟩, trivial⟩ ?_ ?_
  · refine ⟨?_, ?_, ?_, ?_, ?_, ?_, ?_, ?_, ?_, ?_, ?_, trivial⟩
    · intro a w9 hw hj ho hk
      refine .inl ⟨by rfl, ?_⟩
      simp only [Bool.false_eq_true, if_false, if_true, eq_self_iff_true]
      have t2 := ho 4 rfl; dsimp at t2; have oJ := hj (by kernel_rfl); dsimp only at oJ; go_simp; first | exact ⟨New.refl _, _, rfl, _, _, _, rfl, oJ⟩ | exact ⟨New.refl _, _, _, _, by simp, oJ⟩
    · intro a w9 hw hj ho hk
      refine .inl ⟨by rfl, ?_⟩
      simp only [Bool.false_eq_true, if_false, if_true, eq_self_iff_true]
      go_simp; first | exact ⟨(New.refl _).alloc _, _, rfl, _, rfl, Blk.alloc_at rfl⟩ | exact ⟨(New.refl _).alloc _, _, by simp, Blk.alloc_at rfl⟩
    · intro a w9 hw hj ho hk
      refine .inl ⟨by rfl, ?_⟩
      simp only [Bool.false_eq_true, if_false, if_true, eq_self_iff_true]
      obtain ⟨q37, t37, k37⟩ : ∃ q, (a.tmps[37]?.getD undef) = .slice (some ⟨q, 0, none⟩) 1 1 ∧ Blk w9 q #[.string (kwN 3)] 9 := hk 1 37 (by kernel_rfl) rfl
      go_simp
      refine (sTokens_any _ [kwN 3] _ (rdS_blk [kwN 3] k37) (ok_kw 3) (by simp)).mono ?_; rintro e w2 ⟨r, rfl, hb, o⟩
      have hzw := hw.size; obtain ⟨q, c, rfl⟩ := o.slice; exact ⟨hb, _, rfl, _, _, rfl, o.base (by first | (simp only [World.size_alloc] at hzw; omega) | omega)⟩
    · intro a w9 hw hj ho hk
      refine .inl ⟨by rfl, ?_⟩
      simp only [Bool.false_eq_true, if_false, if_true, eq_self_iff_true]
      obtain ⟨a36, n36, c36, t36, o36⟩ : ∃ q n c, (a.tmps[36]?.getD undef) = .slice q n c ∧ OwnX w1.heap.size w9 (.slice q n c) (LV) := hk 0 36 (by kernel_rfl) rfl
      obtain ⟨a38, c38, t38, o38⟩ : ∃ q c, (a.tmps[38]?.getD undef) = .slice q 1 c ∧ OwnX (w1.heap.size) w9 (.slice q 1 c) [kwN 3] := hk 2 38 (by kernel_rfl) rfl
      have hzw := hw.size; exact wp_append_XG _ _ rfl (w1.heap.size) _ (LV) (by first | (simp [Act.eval, Act.get]; exact t36) | simp [Act.eval, t36]) (o36) _ ([kwN 3]) (by first | (simp [Act.eval, Act.get]; exact t38) | simp [Act.eval, t38]) (o38.rd) (by first | (simp only [List.length_append, List.length_cons, List.length_nil]; omega) | omega) hzw (fun v2 w2 h2 g2 => by obtain ⟨q, c, h9⟩ := h2.slice; subst h9; exact ⟨g2 _ (Nat.le_refl _), _, rfl, _, _, rfl, h2⟩)
    · intro a w9 hw hj ho hk
      refine .inl ⟨by rfl, ?_⟩
      simp only [Bool.false_eq_true, if_false, if_true, eq_self_iff_true]
      have t2 := ho 1 rfl
      dsimp at t2
      try with_reducible replace hw := New.undrawN hw
      try with_reducible replace hw := New.undraw hw
      obtain ⟨c, f'⟩ := hw.rules
      go_simp
      exact New.refl _
    · intro a w9 hw hj ho hk
      refine .inl ⟨by rfl, ?_⟩
      simp only [Bool.false_eq_true, if_false, if_true, eq_self_iff_true]
      have t40 : a.tmps[40]?.getD undef = .pointer (some ⟨w.heap.size, 3, none⟩) := hk 4 40 (by kernel_rfl) rfl
      try with_reducible replace hw := New.undrawN hw
      try with_reducible replace hw := New.undraw hw
      obtain ⟨c, f'⟩ := hw.rules
      go_simp
      exact New.refl _
    · intro a w9 hw hj ho hk
      refine .inl ⟨by rfl, ?_⟩
      simp only [Bool.false_eq_true, if_false, if_true, eq_self_iff_true]
      have t41 : a.tmps[41]?.getD undef = .slice oa p.outputs.length oc := hk 5 41 (by kernel_rfl) rfl
      go_simp
      refine (sTokens_any _ p.outputs _ (HS3.out.new hw) KO3.out (by omega)).mono ?_; rintro e w2 ⟨r, rfl, hb, o⟩
      have hzw := hw.size; obtain ⟨q, c, rfl⟩ := o.slice; exact ⟨hb, _, rfl, _, _, rfl, o.base (by first | (simp only [World.size_alloc] at hzw; omega) | omega)⟩
    · intro a w9 hw hj ho hk
      refine .inl ⟨by rfl, ?_⟩
      simp only [Bool.false_eq_true, if_false, if_true, eq_self_iff_true]
      obtain ⟨a39, c39, t39, o39⟩ : ∃ q c, (a.tmps[39]?.getD undef) = .slice q (LV ++ [kwN 3]).length c ∧ OwnX w1.heap.size w9 (.slice q (LV ++ [kwN 3]).length c) (LV ++ [kwN 3]) := hk 3 39 (by kernel_rfl) rfl
      obtain ⟨a42, c42, t42, o42⟩ : ∃ q c, (a.tmps[42]?.getD undef) = .slice q p.outputs.length c ∧ OwnX (w1.heap.size) w9 (.slice q p.outputs.length c) p.outputs := hk 6 42 (by kernel_rfl) rfl
      have hzw := hw.size; exact wp_append_XG _ _ rfl (w1.heap.size) _ (LV ++ [kwN 3]) (by first | (simp [Act.eval, Act.get]; exact t39) | simp [Act.eval, t39]) (o39) _ (p.outputs) (by first | (simp [Act.eval, Act.get]; exact t42) | simp [Act.eval, t42]) (o42.rd) (by first | (simp only [List.length_append, List.length_cons, List.length_nil]; omega) | omega) hzw (fun v2 w2 h2 g2 => by obtain ⟨q, c, h9⟩ := h2.slice; subst h9; exact ⟨g2 _ (Nat.le_refl _), _, rfl, _, _, rfl, h2⟩)
    · intro a w9 hw hj ho hk
      refine .inl ⟨by rfl, ?_⟩
      simp only [Bool.false_eq_true, if_false, if_true, eq_self_iff_true]
      go_simp; first | exact ⟨(New.refl _).alloc _, _, rfl, _, rfl, Blk.alloc_at rfl⟩ | exact ⟨(New.refl _).alloc _, _, by simp, Blk.alloc_at rfl⟩
    · intro a w9 hw hj ho hk
      refine .inl ⟨by rfl, ?_⟩
      simp only [Bool.false_eq_true, if_false, if_true, eq_self_iff_true]
      obtain ⟨q44, t44, k44⟩ : ∃ q, (a.tmps[44]?.getD undef) = .slice (some ⟨q, 0, none⟩) 1 1 ∧ Blk w9 q #[.string cSe] 9 := hk 8 44 (by kernel_rfl) rfl
      go_simp
      refine (sTokens_any _ [cSe] _ (rdS_blk [cSe] k44) ok_Se (by simp)).mono ?_; rintro e w2 ⟨r, rfl, hb, o⟩
      have hzw := hw.size; obtain ⟨q, c, rfl⟩ := o.slice; exact ⟨hb, _, rfl, _, _, rfl, o.base (by first | (simp only [World.size_alloc] at hzw; omega) | omega)⟩
    · intro a w9 hw hj ho hk
      refine .inl ⟨by rfl, ?_⟩
      simp only [Bool.false_eq_true, if_false, if_true, eq_self_iff_true]
      obtain ⟨a43, c43, t43, o43⟩ : ∃ q c, (a.tmps[43]?.getD undef) = .slice q (LV ++ [kwN 3] ++ p.outputs).length c ∧ OwnX w1.heap.size w9 (.slice q (LV ++ [kwN 3] ++ p.outputs).length c) (LV ++ [kwN 3] ++ p.outputs) := hk 7 43 (by kernel_rfl) rfl
      obtain ⟨a45, c45, t45, o45⟩ : ∃ q c, (a.tmps[45]?.getD undef) = .slice q 1 c ∧ OwnX (w1.heap.size) w9 (.slice q 1 c) [cSe] := hk 9 45 (by kernel_rfl) rfl
      have hzw := hw.size; exact wp_append_XG _ _ rfl (w1.heap.size) _ (LV ++ [kwN 3] ++ p.outputs) (by first | (simp [Act.eval, Act.get]; exact t43) | simp [Act.eval, t43]) (o43) _ ([cSe]) (by first | (simp [Act.eval, Act.get]; exact t45) | simp [Act.eval, t45]) (o45.rd) (by first | (simp only [List.length_append, List.length_cons, List.length_nil]; omega) | omega) hzw (fun v2 w2 h2 g2 => by rw [HLO.out] at h2; obtain ⟨q, c, h9⟩ := h2.slice; subst h9; exact ⟨g2 _ (Nat.le_refl _), _, rfl, _, _, rfl, h2⟩)
  intro w6 b6
  intro _ _
  rintro _ ⟨q37, rfl, k37⟩
  intro _ _
  intro _ _
  rintro _ rfl
  rintro _ rfl
  intro _ _
  intro _ _
  rintro _ ⟨q44, rfl, k44⟩
  intro _ _
  intro x46 h46; obtain ⟨a46, c46, rfl, o46⟩ := h46 (by simp)
  try with_reducible replace b6 := New.undrawN b6
  try with_reducible replace b6 := New.undraw b6
  obtain ⟨c6, f6⟩ := b6.rules
  have z6 := b6.size
  try simp only [World.size_alloc, World.size_drew, World.heap_drewN, World.size_setCell] at z6
  have z6_0 : w.heap.size < w6.heap.size := by omega
  simp only [RC.EndAll, List.nil_append, List.cons_append, List.length_cons, List.length_nil, Nat.zero_add, Nat.reduceAdd, List.take_succ_cons, List.take_zero, List.drop_succ_cons, List.drop_zero, putAll, RG.putAll, Act.put, List.setIfInBounds_toArray, List.set_cons_succ, List.set_cons_zero]
  have lD := (KW0.new b6).lt
  go_wp2_with fail
  refine (sTokens_any _ [kwN 4, p.guard, cSe] _ (rdS_layB [kwN 4, p.guard, cSe] _) KG.out (by simp)).mono ?_; rintro e w7 ⟨r7, rfl, b7, o7⟩
  obtain ⟨a7, k7, rfl⟩ := o7.slice
  obtain ⟨c7, f7⟩ := b7.rules
  have z7 := b7.size
  try simp only [World.size_alloc, World.size_drew, World.heap_drewN, World.size_setCell] at z7
  have z7_0 : w.heap.size < w7.heap.size := by omega
  go_wp2_with (first | (at_builtin; refine wpList_append_XK rfl _ _ rfl w1.heap.size _ _ rfl (o46.new (((New.refl _).alloc _).trans b7)) _ ([kwN 4, p.guard, cSe]) rfl (o7.rd) (by first  |  (simp only [List.length_cons, List.length_nil, List.length_append] at *; omega)  |  omega) (by first  |  (simp; done)  |  (simp; omega)  |  omega) ?_; intro vaG waG hoG hgG hkG; have naG : New w1 waG := hgG _ (by exact (by repeat (first | with_reducible exact New.refl _ | with_reducible assumption | with_reducible refine New.drew ?_ | with_reducible refine New.drewN ?_ _ | with_reducible refine New.alloc ?_ _ | with_reducible refine New.setCell ?_ (by first | (simp; done) | (simp; omega) | omega) _ | with_reducible refine New.trans ?_ (by with_reducible assumption)))) (Nat.le_refl _); rw [HB0.out] at hoG; obtain ⟨aaG, mmG, kaG, rfl⟩ := hoG.sliceP; obtain ⟨caG, faG⟩ := (KW0.new naG).rules; have laG := (KW0.new naG).lt; have zaG := naG.size))
  go_loopw [4, 5] (fun o i wr => ∃ j : Nat, j ≤ ps.length ∧ i = .int .i64 j ∧ New w1 wr ∧ OwnX w1.heap.size wr o (bodyT p j)) (fun _ i _ => ps.length - (intOf i).toNat)
  case atStart => exact ⟨0, Nat.zero_le _, rfl, naG, hoG⟩
  case round =>
    obtain ⟨j, hj, rfl, hN, hown⟩ := hrel
    have hNz := hN.size
    have hNw := NW0.trans hN
    have hlB := HHB.out j
    obtain ⟨ao, mo, ko, rfl⟩ := hown.sliceP
    have lK := (KW0.new hN).lt
    obtain ⟨cK, fK⟩ := (KW0.new hN).rules
    by_cases hlt : j < ps.length
    · obtain ⟨b, off, rfl, hbl, hx⟩ := HC.out j hlt
      have x0 : w1.cell? ⟨b, off + j * 2, none⟩ = some (.string ps[j].1.target) := (NW0.cell hbl).trans (hx 0 _ (by omega) rfl)
      have x1 : w1.cell? ⟨b, off + j * 2 + 1, none⟩ = some ps[j].2 := (NW0.cell hbl).trans (hx 1 _ (by omega) rfl)
      clear hx
      have hbW : b < w1.heap.size := by have := NW0.size; omega
      obtain ⟨hlp, hle⟩ := lines_of HPS.out hlt
      have hrt := HT.out ps[j] (List.getElem_mem hlt)
      obtain ⟨ea, ec, hev, _⟩ := id hrt
      rw [hev] at x1 hrt
      clear hev
      obtain ⟨hl1, hl2⟩ := HLN.out ps[j].1 (by rw [← hle]; exact List.getElem_mem hlp)
      obtain ⟨he1, he2, _⟩ := exprT_facts hl2
      have HTG := Lib.hid (show okT [ps[j].1.target, cEq] from okT_cons (name_size hl1) (okT_cons (by decide) okT_nil))
      have HBN := Lib.hid (show bodyT p j ++ [ps[j].1.target, cEq] ++ exprT ps[j].1.terms ++ [cSe] = bodyT p (j + 1) by rw [bodyT_next hlp, hle, lineT]; simp)
      have HE := Lib.hid (fun (w0 : World) (h : New w w0) => sExprTokens_any (.slice ea ps[j].1.terms.length ec) ps[j].1.terms w0 (Rd.new hrt h) hl2)
      clear hle hl1 hl2 hrt he2
      generalize exprT ps[j].1.terms = ET at he1 HBN HE
      generalize ps[j].1.terms = tm at x1 HE
      generalize ps[j].1.target = tg at x0 HTG HBN
      generalize bodyT p j = BJ at hown hlB HBN
      obtain ⟨BN, hBN⟩ : ∃ BN, BN = bodyT p (j + 1) := ⟨_, rfl⟩
      rw [← hBN] at HBN
      have HBE := Lib.hid hBN.symm
      clear hBN
      have hji : (j : Int) < (ps.length : Int) := by omega
      have hj0 : ¬ ((j : Int) < 0) := by omega
      go_wp2_with fail
      clear cK fK
      refine RC.wp_facts (132) (w1) (fun w' => OwnX w1.heap.size w' (.slice ao mo ko) BJ) [fun X W' => ∃ q n c, X = .slice q n c ∧ OwnX w1.heap.size W' (.slice q n c) (BJ), fun X _ => X = .pointer (some ⟨w.heap.size, 5, none⟩), fun X _ => X = .slice (some ⟨b, off, none⟩) ps.length lc, fun X _ => X = .int .i64 (j : Int), fun X _ => X = .pointer (some ⟨b, off + j * 2, none⟩), fun X _ => X = .pointer (some ⟨b, off + j * 2, none⟩), fun X _ => X = .string tg, fun X W' => ∃ q, X = .slice (some ⟨q, 0, none⟩) 2 2 ∧ Blk W' q #[.string tg, .string cEq] 9, fun X W' => ∃ q c, X = .slice q 2 c ∧ OwnX (w1.heap.size) W' (.slice q 2 c) [tg, cEq], fun X W' => ∃ q c, X = .slice q (BJ ++ [tg, cEq]).length c ∧ OwnX w1.heap.size W' (.slice q (BJ ++ [tg, cEq]).length c) (BJ ++ [tg, cEq]), fun X _ => X = .pointer (some ⟨w.heap.size, 5, none⟩), fun X _ => X = .slice (some ⟨b, off, none⟩) ps.length lc, fun X _ => X = .int .i64 (j : Int), fun X _ => X = .pointer (some ⟨b, off + j * 2, none⟩), fun X _ => X = .pointer (some ⟨b, off + j * 2 + 1, none⟩), fun X _ => X = .slice ea tm.length ec, fun X W' => ∃ q c, X = .slice q ET.length c ∧ RdX W' (.slice q ET.length c) ET, fun X W' => ∃ q c, X = .slice q (BJ ++ [tg, cEq] ++ ET).length c ∧ OwnX w1.heap.size W' (.slice q (BJ ++ [tg, cEq] ++ ET).length c) (BJ ++ [tg, cEq] ++ ET)] [some 9, none, none, none, none, none, none, none, some 9, some 17, none, none, none, none, none, none, some 17, some 68] [false, false, false, false, false, false, false, false, false, true, false, false, false, false, false, false, false, true] (by kernel_rfl) (by kernel_rfl) (by kernel_rfl) (hN) (hown) (fun _ _ n h => h.new n) ⟨fun X w0 w1 hn ⟨a63, n63, c63, t63, o63⟩ => ⟨a63, n63, c63, t63, o63.new hn⟩, RG.stable_eq _, RG.stable_eq _, RG.stable_eq _, RG.stable_eq _, RG.stable_eq _, RG.stable_eq _, fun X w0 w1 hn ⟨q70, t70, k70⟩ => ⟨q70, t70, k70.new hn⟩, fun X w0 w1 hn ⟨a71, c71, t71, o71⟩ => ⟨a71, c71, t71, o71.new hn⟩, fun X w0 w1 hn ⟨a72, c72, t72, o72⟩ => ⟨a72, c72, t72, o72.new hn⟩, RG.stable_eq _, RG.stable_eq _, RG.stable_eq _, RG.stable_eq _, RG.stable_eq _, RG.stable_eq _, fun X w0 w1 hn ⟨a79, c79, t79, k79⟩ => ⟨a79, c79, t79, k79.new hn⟩, fun X w0 w1 hn ⟨a80, c80, t80, o80⟩ => ⟨a80, c80, t80, o80.new hn⟩, trivial⟩ ⟨RC.stable_eqG _ _ _, RC.stable_eqG _ _ _, RC.stable_eqG _ _ _, RC.stable_eqG _ _ _, RC.stable_eqG _ _ _, RC.stable_eqG _ _ _, fun X w0 w1 hw0 hn ⟨q70, t70, k70⟩ => ⟨q70, t70, hn.blk _ _ _ k70 (by decide)⟩, RC.stable_eqG _ _ _, RC.stable_eqG _ _ _, RC.stable_eqG _ _ _, RC.stable_eqG _ _ _, RC.stable_eqG _ _ _, RC.stable_eqG _ _ _, trivial⟩ ?_ ?_
      · refine ⟨?_, ?_, ?_, ?_, ?_, ?_, ?_, ?_, ?_, ?_, ?_, ?_, ?_, ?_, ?_, ?_, ?_, ?_, trivial⟩
        · intro a w9 hw hj ho hk
          refine .inl ⟨by rfl, ?_⟩
          simp only [Bool.false_eq_true, if_false, if_true, eq_self_iff_true]
          have t2 := ho 4 rfl; dsimp at t2; have oJ := hj (by kernel_rfl); dsimp only at oJ; go_simp; first | exact ⟨New.refl _, _, rfl, _, _, _, rfl, oJ⟩ | exact ⟨New.refl _, _, _, _, by simp, oJ⟩
        · intro a w9 hw hj ho hk
          refine .inl ⟨by rfl, ?_⟩
          simp only [Bool.false_eq_true, if_false, if_true, eq_self_iff_true]
          have t2 := ho 1 rfl
          dsimp at t2
          try with_reducible replace hw := New.undrawN hw
          try with_reducible replace hw := New.undraw hw
          obtain ⟨c, f'⟩ := hw.rules
          go_simp
          exact New.refl _
        · intro a w9 hw hj ho hk
          refine .inl ⟨by rfl, ?_⟩
          simp only [Bool.false_eq_true, if_false, if_true, eq_self_iff_true]
          have t64 : a.tmps[64]?.getD undef = .pointer (some ⟨w.heap.size, 5, none⟩) := hk 1 64 (by kernel_rfl) rfl
          try with_reducible replace hw := New.undrawN hw
          try with_reducible replace hw := New.undraw hw
          obtain ⟨c, f'⟩ := hw.rules
          go_simp
          exact New.refl _
        · intro a w9 hw hj ho hk
          refine .inl ⟨by rfl, ?_⟩
          simp only [Bool.false_eq_true, if_false, if_true, eq_self_iff_true]
          have t2 := ho 5 rfl
          dsimp at t2
          try with_reducible replace hw := New.undrawN hw
          try with_reducible replace hw := New.undraw hw
          obtain ⟨c, f'⟩ := hw.rules
          go_simp
          exact New.refl _
        · intro a w9 hw hj ho hk
          refine .inl ⟨by rfl, ?_⟩
          simp only [Bool.false_eq_true, if_false, if_true, eq_self_iff_true]
          have t65 : a.tmps[65]?.getD undef = .slice (some ⟨b, off, none⟩) ps.length lc := hk 2 65 (by kernel_rfl) rfl
          have t66 : a.tmps[66]?.getD undef = .int .i64 (j : Int) := hk 3 66 (by kernel_rfl) rfl
          go_simp
          exact New.refl _
        · intro a w9 hw hj ho hk
          refine .inl ⟨by rfl, ?_⟩
          simp only [Bool.false_eq_true, if_false, if_true, eq_self_iff_true]
          have t67 : a.tmps[67]?.getD undef = .pointer (some ⟨b, off + j * 2, none⟩) := hk 4 67 (by kernel_rfl) rfl
          go_simp
          exact New.refl _
        · intro a w9 hw hj ho hk
          refine .inl ⟨by rfl, ?_⟩
          simp only [Bool.false_eq_true, if_false, if_true, eq_self_iff_true]
          have t68 : a.tmps[68]?.getD undef = .pointer (some ⟨b, off + j * 2, none⟩) := hk 5 68 (by kernel_rfl) rfl
          try with_reducible replace hw := New.undrawN hw
          try with_reducible replace hw := New.undraw hw
          obtain ⟨c, f'⟩ := hw.rules
          go_simp
          exact New.refl _
        · intro a w9 hw hj ho hk
          refine .inl ⟨by rfl, ?_⟩
          simp only [Bool.false_eq_true, if_false, if_true, eq_self_iff_true]
          have t69 : a.tmps[69]?.getD undef = .string tg := hk 6 69 (by kernel_rfl) rfl
          go_simp; first | exact ⟨(New.refl _).alloc _, _, rfl, _, rfl, Blk.alloc_at rfl⟩ | exact ⟨(New.refl _).alloc _, _, by simp, Blk.alloc_at rfl⟩
        · intro a w9 hw hj ho hk
          refine .inl ⟨by rfl, ?_⟩
          simp only [Bool.false_eq_true, if_false, if_true, eq_self_iff_true]
          obtain ⟨q70, t70, k70⟩ : ∃ q, (a.tmps[70]?.getD undef) = .slice (some ⟨q, 0, none⟩) 2 2 ∧ Blk w9 q #[.string tg, .string cEq] 9 := hk 7 70 (by kernel_rfl) rfl
          go_simp
          refine (sTokens_any _ [tg, cEq] _ (rdS_blk [tg, cEq] k70) HTG.out (by simp)).mono ?_; rintro e w2 ⟨r, rfl, hb, o⟩
          have hzw := hw.size; obtain ⟨q, c, rfl⟩ := o.slice; exact ⟨hb, _, rfl, _, _, rfl, o.base (by first | (simp only [World.size_alloc] at hzw; omega) | omega)⟩
        · intro a w9 hw hj ho hk
          refine .inl ⟨by rfl, ?_⟩
          simp only [Bool.false_eq_true, if_false, if_true, eq_self_iff_true]
          obtain ⟨a63, n63, c63, t63, o63⟩ : ∃ q n c, (a.tmps[63]?.getD undef) = .slice q n c ∧ OwnX w1.heap.size w9 (.slice q n c) (BJ) := hk 0 63 (by kernel_rfl) rfl
          obtain ⟨a71, c71, t71, o71⟩ : ∃ q c, (a.tmps[71]?.getD undef) = .slice q 2 c ∧ OwnX (w1.heap.size) w9 (.slice q 2 c) [tg, cEq] := hk 8 71 (by kernel_rfl) rfl
          have hzw := hw.size; exact wp_append_XG _ _ rfl (w1.heap.size) _ (BJ) (by first | (simp [Act.eval, Act.get]; exact t63) | simp [Act.eval, t63]) (o63) _ ([tg, cEq]) (by first | (simp [Act.eval, Act.get]; exact t71) | simp [Act.eval, t71]) (o71.rd) (by first | (simp only [List.length_append, List.length_cons, List.length_nil]; omega) | omega) hzw (fun v2 w2 h2 g2 => by obtain ⟨q, c, h9⟩ := h2.slice; subst h9; exact ⟨g2 _ (Nat.le_refl _), _, rfl, _, _, rfl, h2⟩)
        · intro a w9 hw hj ho hk
          refine .inl ⟨by rfl, ?_⟩
          simp only [Bool.false_eq_true, if_false, if_true, eq_self_iff_true]
          have t2 := ho 1 rfl
          dsimp at t2
          try with_reducible replace hw := New.undrawN hw
          try with_reducible replace hw := New.undraw hw
          obtain ⟨c, f'⟩ := hw.rules
          go_simp
          exact New.refl _
        · intro a w9 hw hj ho hk
          refine .inl ⟨by rfl, ?_⟩
          simp only [Bool.false_eq_true, if_false, if_true, eq_self_iff_true]
          have t73 : a.tmps[73]?.getD undef = .pointer (some ⟨w.heap.size, 5, none⟩) := hk 10 73 (by kernel_rfl) rfl
          try with_reducible replace hw := New.undrawN hw
          try with_reducible replace hw := New.undraw hw
          obtain ⟨c, f'⟩ := hw.rules
          go_simp
          exact New.refl _
        · intro a w9 hw hj ho hk
          refine .inl ⟨by rfl, ?_⟩
          simp only [Bool.false_eq_true, if_false, if_true, eq_self_iff_true]
          have t2 := ho 5 rfl
          dsimp at t2
          try with_reducible replace hw := New.undrawN hw
          try with_reducible replace hw := New.undraw hw
          obtain ⟨c, f'⟩ := hw.rules
          go_simp
          exact New.refl _
        · intro a w9 hw hj ho hk
          refine .inl ⟨by rfl, ?_⟩
          simp only [Bool.false_eq_true, if_false, if_true, eq_self_iff_true]
          have t74 : a.tmps[74]?.getD undef = .slice (some ⟨b, off, none⟩) ps.length lc := hk 11 74 (by kernel_rfl) rfl
          have t75 : a.tmps[75]?.getD undef = .int .i64 (j : Int) := hk 12 75 (by kernel_rfl) rfl
          go_simp
          exact New.refl _
        · intro a w9 hw hj ho hk
          refine .inl ⟨by rfl, ?_⟩
          simp only [Bool.false_eq_true, if_false, if_true, eq_self_iff_true]
          have t76 : a.tmps[76]?.getD undef = .pointer (some ⟨b, off + j * 2, none⟩) := hk 13 76 (by kernel_rfl) rfl
          go_simp
          exact New.refl _
        · intro a w9 hw hj ho hk
          refine .inl ⟨by rfl, ?_⟩
          simp only [Bool.false_eq_true, if_false, if_true, eq_self_iff_true]
          have t77 : a.tmps[77]?.getD undef = .pointer (some ⟨b, off + j * 2 + 1, none⟩) := hk 14 77 (by kernel_rfl) rfl
          try with_reducible replace hw := New.undrawN hw
          try with_reducible replace hw := New.undraw hw
          obtain ⟨c, f'⟩ := hw.rules
          go_simp
          exact New.refl _
        · intro a w9 hw hj ho hk
          refine .inl ⟨by rfl, ?_⟩
          simp only [Bool.false_eq_true, if_false, if_true, eq_self_iff_true]
          have t78 : a.tmps[78]?.getD undef = .slice ea tm.length ec := hk 15 78 (by kernel_rfl) rfl
          go_simp
          refine (HE.out _ (NW0.trans hw)).mono ?_; rintro e w2 ⟨q, c, rfl, hb, o⟩
          first | exact ⟨hb, _, rfl, _, _, rfl, o⟩ | exact ⟨hb, _, _, by simp, o⟩
        · intro a w9 hw hj ho hk
          refine .inl ⟨by rfl, ?_⟩
          simp only [Bool.false_eq_true, if_false, if_true, eq_self_iff_true]
          obtain ⟨a72, c72, t72, o72⟩ : ∃ q c, (a.tmps[72]?.getD undef) = .slice q (BJ ++ [tg, cEq]).length c ∧ OwnX w1.heap.size w9 (.slice q (BJ ++ [tg, cEq]).length c) (BJ ++ [tg, cEq]) := hk 9 72 (by kernel_rfl) rfl
          obtain ⟨a79, c79, t79, k79⟩ : ∃ q c, (a.tmps[79]?.getD undef) = .slice q ET.length c ∧ RdX w9 (.slice q ET.length c) ET := hk 16 79 (by kernel_rfl) rfl
          have hzw := hw.size; exact wp_append_XG _ _ rfl (w1.heap.size) _ (BJ ++ [tg, cEq]) (by first | (simp [Act.eval, Act.get]; exact t72) | simp [Act.eval, t72]) (o72) _ (ET) (by first | (simp [Act.eval, Act.get]; exact t79) | simp [Act.eval, t79]) (k79) (by first | (simp only [List.length_append, List.length_cons, List.length_nil]; omega) | omega) hzw (fun v2 w2 h2 g2 => by obtain ⟨q, c, h9⟩ := h2.slice; subst h9; exact ⟨g2 _ (Nat.le_refl _), _, rfl, _, _, rfl, h2⟩)
      intro w7 b7
      intro _ _
      rintro _ rfl
      rintro _ rfl
      rintro _ rfl
      rintro _ rfl
      rintro _ rfl
      rintro _ rfl
      rintro _ ⟨q70, rfl, k70⟩
      intro _ _
      intro _ _
      rintro _ rfl
      rintro _ rfl
      rintro _ rfl
      rintro _ rfl
      rintro _ rfl
      rintro _ rfl
      intro _ _
      intro x80 h80; obtain ⟨a80, c80, rfl, o80⟩ := h80 (by simp)
      try with_reducible replace b7 := New.undrawN b7
      try with_reducible replace b7 := New.undraw b7
      obtain ⟨c7, f7⟩ := b7.rules
      have z7 := b7.size
      try simp only [World.size_alloc, World.size_drew, World.heap_drewN, World.size_setCell] at z7
      have z7_0 : w.heap.size < w7.heap.size := by omega
      simp only [RC.EndAll, List.nil_append, List.cons_append, List.length_cons, List.length_nil, Nat.zero_add, Nat.reduceAdd, List.take_succ_cons, List.take_zero, List.drop_succ_cons, List.drop_zero, putAll, RG.putAll, Act.put, List.setIfInBounds_toArray, List.set_cons_succ, List.set_cons_zero]
      obtain ⟨a80', n80, c80', e80⟩ := o80.sliceP
      have HL80 := Lib.hid (show (BJ ++ [tg, cEq] ++ ET).length ≤ 10300 by simp only [List.length_append, List.length_cons, List.length_nil]; omega)
      generalize (BJ ++ [tg, cEq] ++ ET) = LE at o80 HBN HL80 ⊢
      have hl80 := HL80.out
      go_wp2_with fail
      refine (sTokens_any _ [cSe] _ (rdS_layB [cSe] _) ok_Se (by simp)).mono ?_; rintro e w8 ⟨r8, rfl, b8, o8⟩
      obtain ⟨a8, k8, rfl⟩ := o8.slice
      obtain ⟨c8, f8⟩ := b8.rules
      have z8 := b8.size
      try simp only [World.size_alloc, World.size_drew, World.heap_drewN, World.size_setCell] at z8
      have z8_0 : w.heap.size < w8.heap.size := by omega
      go_wp2_with (first | (at_builtin; refine wpList_append_XK rfl _ _ rfl w1.heap.size _ _ rfl (o80.new (((New.refl _).alloc _).trans b8)) _ ([cSe]) rfl (o8.rd) (by first  |  (simp only [List.length_cons, List.length_nil, List.length_append] at *; omega)  |  omega) (by first  |  (simp; done)  |  (simp; omega)  |  omega) ?_; intro vaS waS hoS hgS hkS; have naS : New w1 waS := hgS _ (by exact (by repeat (first | with_reducible exact New.refl _ | with_reducible assumption | with_reducible refine New.drew ?_ | with_reducible refine New.drewN ?_ _ | with_reducible refine New.alloc ?_ _ | with_reducible refine New.setCell ?_ (by first | (simp; done) | (simp; omega) | omega) _ | with_reducible refine New.trans ?_ (by with_reducible assumption)))) (Nat.le_refl _); rw [HBN.out] at hoS; obtain ⟨aaS, mmS, kaS, rfl⟩ := hoS.sliceP; obtain ⟨caS, faS⟩ := (KW0.new naS).rules; have laS := (KW0.new naS).lt; have zaS := naS.size))
      go_roundw
      case rel => exact ⟨j + 1, by omega, by go_num, naS, by rw [HBE.out]; exact hoS⟩
      case measure => simp [intOf]; omega
    · obtain rfl : j = ps.length := by omega
      have HPT := Lib.hid (show bodyT p ps.length ++ [kwN 5, cSe] = progT p by rw [progT, ← HPL.out])
      generalize bodyT p ps.length = BJ at hown hlB HPT
      go_wp2_with fail
      refine (sTokens_any _ [kwN 5, cSe] _ (rdS_layB [kwN 5, cSe] _) (okT_cons (kwN_size 5) ok_Se) (by simp)).mono ?_; rintro e w9 ⟨r9, rfl, b9, o9⟩
      obtain ⟨a9, k9, rfl⟩ := o9.slice
      obtain ⟨c9, f9⟩ := b9.rules
      have z9 := b9.size
      try simp only [World.size_alloc, World.size_drew, World.heap_drewN, World.size_setCell] at z9
      have z9_0 : w.heap.size < w9.heap.size := by omega
      go_wp2_with (first | (at_builtin; refine wpList_append_XK rfl _ _ rfl w1.heap.size _ _ rfl (hown.new (((New.refl _).alloc _).trans b9)) _ ([kwN 5, cSe]) rfl (o9.rd) (by first  |  (simp only [List.length_cons, List.length_nil, List.length_append] at *; omega)  |  omega) (by first  |  (simp; done)  |  (simp; omega)  |  omega) ?_; intro vaE waE hoE hgE hkE; have naE : New w1 waE := hgE _ (by exact (by repeat (first | with_reducible exact New.refl _ | with_reducible assumption | with_reducible refine New.drew ?_ | with_reducible refine New.drewN ?_ _ | with_reducible refine New.alloc ?_ _ | with_reducible refine New.setCell ?_ (by first | (simp; done) | (simp; omega) | omega) _ | with_reducible refine New.trans ?_ (by with_reducible assumption)))) (Nat.le_refl _); rw [HPT.out] at hoE; obtain ⟨aaE, mmE, kaE, rfl⟩ := hoE.sliceP; obtain ⟨caE, faE⟩ := (KW0.new naE).rules; have laE := (KW0.new naE).lt; have zaE := naE.size))
      refine (HX.out _ _ hoE.rd).mono ?_; rintro e w10 ⟨rfl, b10⟩
      try with_reducible replace b10 := New.undrawN b10
      try with_reducible replace b10 := New.undraw b10
      obtain ⟨c10, f10⟩ := b10.rules
      have z10 := b10.size
      try simp only [World.size_alloc, World.size_drew, World.heap_drewN, World.size_setCell] at z10
      go_wp2_with fail
      go_ret2
      exact ⟨rfl, (NW0.trans naE).trans b10⟩
set_option maxHeartbeats 8000000 in
theorem sProgramTextN_any (p : ProgD) (iv vv ov lv : Value) (w : World) (hp : RdP w p iv vv ov lv) (hf : FitP p) (hw : wB p = true) (hv : p.vars = []) (hg : p.guard.toList.isEmpty = true) :
    Calls Tryz.prog 18 #[valP p iv vv ov lv] w fun e w' => e = .returned (.tuple #[.string (strL (stdT (progT p))), .int .i64 0]) ∧ New w w' := by
  have hvi : ¬ (0 : Int) < (p.vars.length : Int) := by rw [hv]; simp
  have hvt : varT p = [] := by rw [varT, if_pos hv]
  have hgg : (p.guard.toList == []) = true := by rw [← hg]; cases p.guard.toList <;> rfl
  have HGT := Lib.hid (show guardT p = [] by rw [guardT, hg]; rfl)
  have HVT := Lib.hid hvt
  clear hv hg hvt
  obtain ⟨nm1, ni1, nv1, no1, _, n1, n2, n3, n4, hln⟩ := wB_parts hw
  have HI := Lib.hid (fun (w0 : World) (h : New w w0) => sIsWritten_any p iv vv ov lv w0 (hp.new h) hf)
  rw [hw] at HI
  have HP := Lib.hid hp
  have HLN := Lib.hid hln
  have KN := Lib.hid (show okT [kwN 0, p.name, cSe, kwN 1] from okT_cons (kwN_size 0) (okT_cons (name_size nm1) (okT_cons (by decide) (okT_cons (kwN_size 1) okT_nil))))
  have KO1 := Lib.hid (okT_names ni1)
  have KO2 := Lib.hid (okT_names nv1)
  have KO3 := Lib.hid (okT_names no1)
  obtain ⟨h1, h2, h3, hl⟩ := hp
  obtain ⟨ia, ic, rfl, _⟩ := id h1
  obtain ⟨va, vc, rfl, _⟩ := id h2
  obtain ⟨oa, oc, rfl, _⟩ := id h3
  obtain ⟨ps, hps, hl1, hl2⟩ := hl
  obtain ⟨la, lc, rfl, hm, HC⟩ := Rd.flat encLV_len (by omega) hl1
  have HT := Lib.hid hl2
  have HPS := Lib.hid hps
  have HPL := Lib.hid (show p.lines.length = ps.length by rw [← hps, List.length_map])
  have hpl : ps.length ≤ 40 := by rw [← hps, List.length_map] at n4; exact n4
  have HHB := Lib.hid (fun k => (bodyT_facts hw k).2)
  obtain ⟨e1, e2⟩ := progT_facts hw
  have HX := Lib.hid (fun (u : Value) (w0 : World) (hu : RdX w0 u (progT p)) => sTextX_any u (progT p) w0 hu e1 (by omega))
  clear h1 h2 h3 hl1 hl2 hps hln hw n4 hf e1 e2 nm1 ni1 nv1 no1
  obtain ⟨LX, hLX⟩ : ∃ LX, LX = [kwN 0, p.name, cSe, kwN 1] ++ p.inputs ++ [cSe] := ⟨_, rfl⟩
  have hlX : LX.length ≤ 30 := by rw [hLX]; simp only [List.length_append, List.length_cons, List.length_nil]; omega
  have HLX := Lib.hid hLX.symm
  obtain ⟨LV, hLV⟩ : ∃ LV, LV = LX ++ varT p := ⟨_, rfl⟩
  have hlVT : (varT p).length ≤ 22 := by
    rw [varT]; split
    · simp
    · simp only [List.length_append, List.length_cons, List.length_nil]; omega
  have hlV : LV.length ≤ 60 := by rw [hLV, List.length_append]; omega
  obtain ⟨LO, hLO⟩ : ∃ LO, LO = LV ++ [kwN 3] ++ p.outputs ++ [cSe] := ⟨_, rfl⟩
  have hlO : LO.length ≤ 90 := by rw [hLO]; simp only [List.length_append, List.length_cons, List.length_nil]; omega
  have HLO := Lib.hid hLO.symm
  have HB0 := Lib.hid (show LO ++ guardT p = bodyT p 0 by rw [hLO, hLV, hLX, bodyT, headT]; simp)
  have HLV := Lib.hid hLV.symm
  clear hLX hLV hLO
  have zz : w.heap.size < w.heap.size + 1 := by omega
  go_enter Tryz.func18, Tryz.ntmps18
  go_wp2_with fail
  refine (HI.out _ (by repeat (first | with_reducible exact New.refl _ | with_reducible assumption | with_reducible refine New.drew ?_ | with_reducible refine New.drewN ?_ _ | with_reducible refine New.alloc ?_ _ | with_reducible refine New.setCell ?_ (by first | (simp; done) | (simp; omega) | omega) _ | with_reducible refine New.trans ?_ (by with_reducible assumption)))).mono ?_; rintro e w1 ⟨rfl, b1⟩
  try with_reducible replace b1 := New.undrawN b1
  try with_reducible replace b1 := New.undraw b1
  obtain ⟨c1, f1⟩ := b1.rules
  have z1 := b1.size
  try simp only [World.size_alloc, World.size_drew, World.heap_drewN, World.size_setCell] at z1
  have z1_0 : w.heap.size < w1.heap.size := by omega
  go_wp2_with fail
  have KW0 : Blk w1 w.heap.size #[.string p.name, .slice ia p.inputs.length ic, .slice va p.vars.length vc, .slice oa p.outputs.length oc, .string p.guard, .slice la ps.length lc] 48 := Blk.new (Blk.alloc_at rfl) b1
  have NW0 : New w w1 := by exact (by repeat (first | with_reducible exact New.refl _ | with_reducible assumption | with_reducible refine New.drew ?_ | with_reducible refine New.drewN ?_ _ | with_reducible refine New.alloc ?_ _ | with_reducible refine New.setCell ?_ (by first | (simp; done) | (simp; omega) | omega) _ | with_reducible refine New.trans ?_ (by with_reducible assumption)))
  have zW0 := KW0.lt
  have HS1 := Lib.hid (HP.out.ins.new NW0)
  have HS2 := Lib.hid (HP.out.vars.new NW0)
  have HS3 := Lib.hid (HP.out.outs.new NW0)
  obtain ⟨c0, f0⟩ := KW0.rules
  clear c1 f1 b1 HP
  refine (sTokens_any _ [kwN 0, p.name, cSe, kwN 1] _ (rdS_layB [kwN 0, p.name, cSe, kwN 1] _) KN.out (by simp)).mono ?_; rintro e w2 ⟨r2, rfl, b2, o2⟩
  obtain ⟨a2, k2, rfl⟩ := o2.slice; replace o2 := o2.base (b' := w1.heap.size) (by first | (simp; done) | (simp; omega))
  obtain ⟨c2, f2⟩ := b2.rules
  have z2 := b2.size
  try simp only [World.size_alloc, World.size_drew, World.heap_drewN, World.size_setCell] at z2
  have z2_0 : w.heap.size < w2.heap.size := by omega
  go_wp2_with fail
  have nn2 : New w1 w2 := by exact (by repeat (first | with_reducible exact New.refl _ | with_reducible assumption | with_reducible refine New.drew ?_ | with_reducible refine New.drewN ?_ _ | with_reducible refine New.alloc ?_ _ | with_reducible refine New.setCell ?_ (by first | (simp; done) | (simp; omega) | omega) _ | with_reducible refine New.trans ?_ (by with_reducible assumption)))
  refine (sTokens_any _ p.inputs _ (Rd.new HS1.out nn2) KO1.out (by omega)).mono ?_; rintro e w3 ⟨r3, rfl, b3, o3⟩
  obtain ⟨a3, k3, rfl⟩ := o3.slice
  obtain ⟨c3, f3⟩ := b3.rules
  have z3 := b3.size
  try simp only [World.size_alloc, World.size_drew, World.heap_drewN, World.size_setCell] at z3
  have z3_0 : w.heap.size < w3.heap.size := by omega
  go_wp2_with (first | (at_builtin; refine wpList_append_XK rfl _ _ rfl w1.heap.size _ _ rfl (o2.new b3) _ (p.inputs) rfl (o3.rd) (by first  |  (simp only [List.length_cons, List.length_nil, List.length_append] at *; omega)  |  omega) (by first  |  (simp; done)  |  (simp; omega)  |  omega) ?_; intro vaA waA hoA hgA hkA; have naA : New w1 waA := hgA _ (by exact (by repeat (first | with_reducible exact New.refl _ | with_reducible assumption | with_reducible refine New.drew ?_ | with_reducible refine New.drewN ?_ _ | with_reducible refine New.alloc ?_ _ | with_reducible refine New.setCell ?_ (by first | (simp; done) | (simp; omega) | omega) _ | with_reducible refine New.trans ?_ (by with_reducible assumption)))) (Nat.le_refl _); obtain ⟨aaA, mmA, kaA, rfl⟩ := hoA.sliceP; obtain ⟨caA, faA⟩ := (KW0.new naA).rules; have laA := (KW0.new naA).lt; have zaA := naA.size))
  refine (sTokens_any _ [cSe] _ (rdS_layB [cSe] _) ok_Se (by simp)).mono ?_; rintro e w4 ⟨r4, rfl, b4, o4⟩
  obtain ⟨a4, k4, rfl⟩ := o4.slice
  obtain ⟨c4, f4⟩ := b4.rules
  have z4 := b4.size
  try simp only [World.size_alloc, World.size_drew, World.heap_drewN, World.size_setCell] at z4
  have z4_0 : w.heap.size < w4.heap.size := by omega
  go_wp2_with (first | (at_builtin; refine wpList_append_XK rfl _ _ rfl w1.heap.size _ _ rfl (hoA.new (((New.refl _).alloc _).trans b4)) _ ([cSe]) rfl (o4.rd) (by first  |  (simp only [List.length_cons, List.length_nil, List.length_append] at *; omega)  |  omega) (by first  |  (simp; done)  |  (simp; omega)  |  omega) ?_; intro vaB waB hoB hgB hkB; have naB : New w1 waB := hgB _ (by exact (by repeat (first | with_reducible exact New.refl _ | with_reducible assumption | with_reducible refine New.drew ?_ | with_reducible refine New.drewN ?_ _ | with_reducible refine New.alloc ?_ _ | with_reducible refine New.setCell ?_ (by first | (simp; done) | (simp; omega) | omega) _ | with_reducible refine New.trans ?_ (by with_reducible assumption)))) (Nat.le_refl _); rw [HLX.out] at hoB; obtain ⟨aaB, mmB, kaB, rfl⟩ := hoB.sliceP; obtain ⟨caB, faB⟩ := (KW0.new naB).rules; have laB := (KW0.new naB).lt; have zaB := naB.size))
  rw [HGT.out] at HB0
  have HLV2 := Lib.hid (show LX = LV by have := HLV.out; rw [HVT.out] at this; simpa using this)
  rw [HLV2.out] at hoB
  refine RC.wp_facts (132) (w1) (fun w' => OwnX w1.heap.size w' (.slice aaB mmB kaB) LV) [fun X W' => ∃ q n c, X = .slice q n c ∧ OwnX w1.heap.size W' (.slice q n c) (LV), fun X W' => ∃ q, X = .slice (some ⟨q, 0, none⟩) 1 1 ∧ Blk W' q #[.string (kwN 3)] 9, fun X W' => ∃ q c, X = .slice q 1 c ∧ OwnX (w1.heap.size) W' (.slice q 1 c) [kwN 3], fun X W' => ∃ q c, X = .slice q (LV ++ [kwN 3]).length c ∧ OwnX w1.heap.size W' (.slice q (LV ++ [kwN 3]).length c) (LV ++ [kwN 3]), fun X _ => X = .pointer (some ⟨w.heap.size, 3, none⟩), fun X _ => X = .slice oa p.outputs.length oc, fun X W' => ∃ q c, X = .slice q p.outputs.length c ∧ OwnX (w1.heap.size) W' (.slice q p.outputs.length c) p.outputs, fun X W' => ∃ q c, X = .slice q (LV ++ [kwN 3] ++ p.outputs).length c ∧ OwnX w1.heap.size W' (.slice q (LV ++ [kwN 3] ++ p.outputs).length c) (LV ++ [kwN 3] ++ p.outputs), fun X W' => ∃ q, X = .slice (some ⟨q, 0, none⟩) 1 1 ∧ Blk W' q #[.string cSe] 9, fun X W' => ∃ q c, X = .slice q 1 c ∧ OwnX (w1.heap.size) W' (.slice q 1 c) [cSe], fun X W' => ∃ q c, X = .slice q (LO).length c ∧ OwnX w1.heap.size W' (.slice q (LO).length c) (LO)] [some 3, none, some 3, some 7, none, none, some 7, some 10, none, some 10, some 61] [false, false, false, true, false, false, false, true, false, false, true] (by kernel_rfl) (by kernel_rfl) (by kernel_rfl) (naB) (hoB) (fun _ _ n h => h.new n) ⟨fun X w0 w1 hn ⟨a36, n36, c36, t36, o36⟩ => ⟨a36, n36, c36, t36, o36.new hn⟩, fun X w0 w1 hn ⟨q37, t37, k37⟩ => ⟨q37, t37, k37.new hn⟩, fun X w0 w1 hn ⟨a38, c38, t38, o38⟩ => ⟨a38, c38, t38, o38.new hn⟩, fun X w0 w1 hn ⟨a39, c39, t39, o39⟩ => ⟨a39, c39, t39, o39.new hn⟩, RG.stable_eq _, RG.stable_eq _, fun X w0 w1 hn ⟨a42, c42, t42, o42⟩ => ⟨a42, c42, t42, o42.new hn⟩, fun X w0 w1 hn ⟨a43, c43, t43, o43⟩ => ⟨a43, c43, t43, o43.new hn⟩, fun X w0 w1 hn ⟨q44, t44, k44⟩ => ⟨q44, t44, k44.new hn⟩, fun X w0 w1 hn ⟨a45, c45, t45, o45⟩ => ⟨a45, c45, t45, o45.new hn⟩, fun X w0 w1 hn ⟨a46, c46, t46, o46⟩ => ⟨a46, c46, t46, o46.new hn⟩, trivial⟩ ⟨fun X w0 w1 hw0 hn ⟨q37, t37, k37⟩ => ⟨q37, t37, hn.blk _ _ _ k37 (by decide)⟩, RC.stable_eqG _ _ _, RC.stable_eqG _ _ _, fun X w0 w1 hw0 hn ⟨q44, t44, k44⟩ => ⟨q44, t44, hn.blk _ _ _ k44 (by decide)⟩, trivial⟩ ?_ ?_
  · refine ⟨?_, ?_, ?_, ?_, ?_, ?_, ?_, ?_, ?_, ?_, ?_, trivial⟩
    · intro a w9 hw hj ho hk
      refine .inl ⟨by rfl, ?_⟩
      simp only [Bool.false_eq_true, if_false, if_true, eq_self_iff_true]
      have t2 := ho 4 rfl; dsimp at t2; have oJ := hj (by kernel_rfl); dsimp only at oJ; go_simp; first | exact ⟨New.refl _, _, rfl, _, _, _, rfl, oJ⟩ | exact ⟨New.refl _, _, _, _, by simp, oJ⟩
    · intro a w9 hw hj ho hk
      refine .inl ⟨by rfl, ?_⟩
      simp only [Bool.false_eq_true, if_false, if_true, eq_self_iff_true]
      go_simp; first | exact ⟨(New.refl _).alloc _, _, rfl, _, rfl, Blk.alloc_at rfl⟩ | exact ⟨(New.refl _).alloc _, _, by simp, Blk.alloc_at rfl⟩
    · intro a w9 hw hj ho hk
      refine .inl ⟨by rfl, ?_⟩
      simp only [Bool.false_eq_true, if_false, if_true, eq_self_iff_true]
      obtain ⟨q37, t37, k37⟩ : ∃ q, (a.tmps[37]?.getD undef) = .slice (some ⟨q, 0, none⟩) 1 1 ∧ Blk w9 q #[.string (kwN 3)] 9 := hk 1 37 (by kernel_rfl) rfl
      go_simp
      refine (sTokens_any _ [kwN 3] _ (rdS_blk [kwN 3] k37) (ok_kw 3) (by simp)).mono ?_; rintro e w2 ⟨r, rfl, hb, o⟩
      have hzw := hw.size; obtain ⟨q, c, rfl⟩ := o.slice; exact ⟨hb, _, rfl, _, _, rfl, o.base (by first | (simp only [World.size_alloc] at hzw; omega) | omega)⟩
    · intro a w9 hw hj ho hk
      refine .inl ⟨by rfl, ?_⟩
      simp only [Bool.false_eq_true, if_false, if_true, eq_self_iff_true]
      obtain ⟨a36, n36, c36, t36, o36⟩ : ∃ q n c, (a.tmps[36]?.getD undef) = .slice q n c ∧ OwnX w1.heap.size w9 (.slice q n c) (LV) := hk 0 36 (by kernel_rfl) rfl
      obtain ⟨a38, c38, t38, o38⟩ : ∃ q c, (a.tmps[38]?.getD undef) = .slice q 1 c ∧ OwnX (w1.heap.size) w9 (.slice q 1 c) [kwN 3] := hk 2 38 (by kernel_rfl) rfl
      have hzw := hw.size; exact wp_append_XG _ _ rfl (w1.heap.size) _ (LV) (by first | (simp [Act.eval, Act.get]; exact t36) | simp [Act.eval, t36]) (o36) _ ([kwN 3]) (by first | (simp [Act.eval, Act.get]; exact t38) | simp [Act.eval, t38]) (o38.rd) (by first | (simp only [List.length_append, List.length_cons, List.length_nil]; omega) | omega) hzw (fun v2 w2 h2 g2 => by obtain ⟨q, c, h9⟩ := h2.slice; subst h9; exact ⟨g2 _ (Nat.le_refl _), _, rfl, _, _, rfl, h2⟩)
    · intro a w9 hw hj ho hk
      refine .inl ⟨by rfl, ?_⟩
      simp only [Bool.false_eq_true, if_false, if_true, eq_self_iff_true]
      have t2 := ho 1 rfl
      dsimp at t2
      try with_reducible replace hw := New.undrawN hw
      try with_reducible replace hw := New.undraw hw
      obtain ⟨c, f'⟩ := hw.rules
      go_simp
      exact New.refl _
    · intro a w9 hw hj ho hk
      refine .inl ⟨by rfl, ?_⟩
      simp only [Bool.false_eq_true, if_false, if_true, eq_self_iff_true]
      have t40 : a.tmps[40]?.getD undef = .pointer (some ⟨w.heap.size, 3, none⟩) := hk 4 40 (by kernel_rfl) rfl
      try with_reducible replace hw := New.undrawN hw
      try with_reducible replace hw := New.undraw hw
      obtain ⟨c, f'⟩ := hw.rules
      go_simp
      exact New.refl _
    · intro a w9 hw hj ho hk
      refine .inl ⟨by rfl, ?_⟩
      simp only [Bool.false_eq_true, if_false, if_true, eq_self_iff_true]
      have t41 : a.tmps[41]?.getD undef = .slice oa p.outputs.length oc := hk 5 41 (by kernel_rfl) rfl
      go_simp
      refine (sTokens_any _ p.outputs _ (HS3.out.new hw) KO3.out (by omega)).mono ?_; rintro e w2 ⟨r, rfl, hb, o⟩
      have hzw := hw.size; obtain ⟨q, c, rfl⟩ := o.slice; exact ⟨hb, _, rfl, _, _, rfl, o.base (by first | (simp only [World.size_alloc] at hzw; omega) | omega)⟩
    · intro a w9 hw hj ho hk
      refine .inl ⟨by rfl, ?_⟩
      simp only [Bool.false_eq_true, if_false, if_true, eq_self_iff_true]
      obtain ⟨a39, c39, t39, o39⟩ : ∃ q c, (a.tmps[39]?.getD undef) = .slice q (LV ++ [kwN 3]).length c ∧ OwnX w1.heap.size w9 (.slice q (LV ++ [kwN 3]).length c) (LV ++ [kwN 3]) := hk 3 39 (by kernel_rfl) rfl
      obtain ⟨a42, c42, t42, o42⟩ : ∃ q c, (a.tmps[42]?.getD undef) = .slice q p.outputs.length c ∧ OwnX (w1.heap.size) w9 (.slice q p.outputs.length c) p.outputs := hk 6 42 (by kernel_rfl) rfl
      have hzw := hw.size; exact wp_append_XG _ _ rfl (w1.heap.size) _ (LV ++ [kwN 3]) (by first | (simp [Act.eval, Act.get]; exact t39) | simp [Act.eval, t39]) (o39) _ (p.outputs) (by first | (simp [Act.eval, Act.get]; exact t42) | simp [Act.eval, t42]) (o42.rd) (by first | (simp only [List.length_append, List.length_cons, List.length_nil]; omega) | omega) hzw (fun v2 w2 h2 g2 => by obtain ⟨q, c, h9⟩ := h2.slice; subst h9; exact ⟨g2 _ (Nat.le_refl _), _, rfl, _, _, rfl, h2⟩)
    · intro a w9 hw hj ho hk
      refine .inl ⟨by rfl, ?_⟩
      simp only [Bool.false_eq_true, if_false, if_true, eq_self_iff_true]
      go_simp; first | exact ⟨(New.refl _).alloc _, _, rfl, _, rfl, Blk.alloc_at rfl⟩ | exact ⟨(New.refl _).alloc _, _, by simp, Blk.alloc_at rfl⟩
    · intro a w9 hw hj ho hk
      refine .inl ⟨by rfl, ?_⟩
      simp only [Bool.false_eq_true, if_false, if_true, eq_self_iff_true]
      obtain ⟨q44, t44, k44⟩ : ∃ q, (a.tmps[44]?.getD undef) = .slice (some ⟨q, 0, none⟩) 1 1 ∧ Blk w9 q #[.string cSe] 9 := hk 8 44 (by kernel_rfl) rfl
      go_simp
      refine (sTokens_any _ [cSe] _ (rdS_blk [cSe] k44) ok_Se (by simp)).mono ?_; rintro e w2 ⟨r, rfl, hb, o⟩
      have hzw := hw.size; obtain ⟨q, c, rfl⟩ := o.slice; exact ⟨hb, _, rfl, _, _, rfl, o.base (by first | (simp only [World.size_alloc] at hzw; omega) | omega)⟩
    · intro a w9 hw hj ho hk
      refine .inl ⟨by rfl, ?_⟩
      simp only [Bool.false_eq_true, if_false, if_true, eq_self_iff_true]
      obtain ⟨a43, c43, t43, o43⟩ : ∃ q c, (a.tmps[43]?.getD undef) = .slice q (LV ++ [kwN 3] ++ p.outputs).length c ∧ OwnX w1.heap.size w9 (.slice q (LV ++ [kwN 3] ++ p.outputs).length c) (LV ++ [kwN 3] ++ p.outputs) := hk 7 43 (by kernel_rfl) rfl
      obtain ⟨a45, c45, t45, o45⟩ : ∃ q c, (a.tmps[45]?.getD undef) = .slice q 1 c ∧ OwnX (w1.heap.size) w9 (.slice q 1 c) [cSe] := hk 9 45 (by kernel_rfl) rfl
      have hzw := hw.size; exact wp_append_XG _ _ rfl (w1.heap.size) _ (LV ++ [kwN 3] ++ p.outputs) (by first | (simp [Act.eval, Act.get]; exact t43) | simp [Act.eval, t43]) (o43) _ ([cSe]) (by first | (simp [Act.eval, Act.get]; exact t45) | simp [Act.eval, t45]) (o45.rd) (by first | (simp only [List.length_append, List.length_cons, List.length_nil]; omega) | omega) hzw (fun v2 w2 h2 g2 => by rw [HLO.out] at h2; obtain ⟨q, c, h9⟩ := h2.slice; subst h9; exact ⟨g2 _ (Nat.le_refl _), _, rfl, _, _, rfl, h2⟩)
  intro w6 b6
  intro _ _
  rintro _ ⟨q37, rfl, k37⟩
  intro _ _
  intro _ _
  rintro _ rfl
  rintro _ rfl
  intro _ _
  intro _ _
  rintro _ ⟨q44, rfl, k44⟩
  intro _ _
  intro x46 h46; obtain ⟨a46, c46, rfl, o46⟩ := h46 (by simp)
  try with_reducible replace b6 := New.undrawN b6
  try with_reducible replace b6 := New.undraw b6
  obtain ⟨c6, f6⟩ := b6.rules
  have z6 := b6.size
  try simp only [World.size_alloc, World.size_drew, World.heap_drewN, World.size_setCell] at z6
  have z6_0 : w.heap.size < w6.heap.size := by omega
  simp only [RC.EndAll, List.nil_append, List.cons_append, List.length_cons, List.length_nil, Nat.zero_add, Nat.reduceAdd, List.take_succ_cons, List.take_zero, List.drop_succ_cons, List.drop_zero, putAll, RG.putAll, Act.put, List.setIfInBounds_toArray, List.set_cons_succ, List.set_cons_zero]
  have lD := (KW0.new b6).lt
  go_wp2_with fail
  have HB1 := Lib.hid (show LO = bodyT p 0 by have := HB0.out; simpa using this)
  have o46' : OwnX w1.heap.size w6 (.slice a46 (LO).length c46) (bodyT p 0) := by rw [← HB1.out]; exact o46
  clear o46
  go_loopw [4, 5] (fun o i wr => ∃ j : Nat, j ≤ ps.length ∧ i = .int .i64 j ∧ New w1 wr ∧ OwnX w1.heap.size wr o (bodyT p j)) (fun _ i _ => ps.length - (intOf i).toNat)
  case atStart => exact ⟨0, Nat.zero_le _, rfl, b6, o46'⟩
  case round =>
    obtain ⟨j, hj, rfl, hN, hown⟩ := hrel
    have hNz := hN.size
    have hNw := NW0.trans hN
    have hlB := HHB.out j
    obtain ⟨ao, mo, ko, rfl⟩ := hown.sliceP
    have lK := (KW0.new hN).lt
    obtain ⟨cK, fK⟩ := (KW0.new hN).rules
    by_cases hlt : j < ps.length
    · obtain ⟨b, off, rfl, hbl, hx⟩ := HC.out j hlt
      have x0 : w1.cell? ⟨b, off + j * 2, none⟩ = some (.string ps[j].1.target) := (NW0.cell hbl).trans (hx 0 _ (by omega) rfl)
      have x1 : w1.cell? ⟨b, off + j * 2 + 1, none⟩ = some ps[j].2 := (NW0.cell hbl).trans (hx 1 _ (by omega) rfl)
      clear hx
      have hbW : b < w1.heap.size := by have := NW0.size; omega
      obtain ⟨hlp, hle⟩ := lines_of HPS.out hlt
      have hrt := HT.out ps[j] (List.getElem_mem hlt)
      obtain ⟨ea, ec, hev, _⟩ := id hrt
      rw [hev] at x1 hrt
      clear hev
      obtain ⟨hl1, hl2⟩ := HLN.out ps[j].1 (by rw [← hle]; exact List.getElem_mem hlp)
      obtain ⟨he1, he2, _⟩ := exprT_facts hl2
      have HTG := Lib.hid (show okT [ps[j].1.target, cEq] from okT_cons (name_size hl1) (okT_cons (by decide) okT_nil))
      have HBN := Lib.hid (show bodyT p j ++ [ps[j].1.target, cEq] ++ exprT ps[j].1.terms ++ [cSe] = bodyT p (j + 1) by rw [bodyT_next hlp, hle, lineT]; simp)
      have HE := Lib.hid (fun (w0 : World) (h : New w w0) => sExprTokens_any (.slice ea ps[j].1.terms.length ec) ps[j].1.terms w0 (Rd.new hrt h) hl2)
      clear hle hl1 hl2 hrt he2
      generalize exprT ps[j].1.terms = ET at he1 HBN HE
      generalize ps[j].1.terms = tm at x1 HE
      generalize ps[j].1.target = tg at x0 HTG HBN
      generalize bodyT p j = BJ at hown hlB HBN
      obtain ⟨BN, hBN⟩ : ∃ BN, BN = bodyT p (j + 1) := ⟨_, rfl⟩
      rw [← hBN] at HBN
      have HBE := Lib.hid hBN.symm
      clear hBN
      have hji : (j : Int) < (ps.length : Int) := by omega
      have hj0 : ¬ ((j : Int) < 0) := by omega
      go_wp2_with fail
      clear cK fK
      refine RC.wp_facts (132) (w1) (fun w' => OwnX w1.heap.size w' (.slice ao mo ko) BJ) [fun X W' => ∃ q n c, X = .slice q n c ∧ OwnX w1.heap.size W' (.slice q n c) (BJ), fun X _ => X = .pointer (some ⟨w.heap.size, 5, none⟩), fun X _ => X = .slice (some ⟨b, off, none⟩) ps.length lc, fun X _ => X = .int .i64 (j : Int), fun X _ => X = .pointer (some ⟨b, off + j * 2, none⟩), fun X _ => X = .pointer (some ⟨b, off + j * 2, none⟩), fun X _ => X = .string tg, fun X W' => ∃ q, X = .slice (some ⟨q, 0, none⟩) 2 2 ∧ Blk W' q #[.string tg, .string cEq] 9, fun X W' => ∃ q c, X = .slice q 2 c ∧ OwnX (w1.heap.size) W' (.slice q 2 c) [tg, cEq], fun X W' => ∃ q c, X = .slice q (BJ ++ [tg, cEq]).length c ∧ OwnX w1.heap.size W' (.slice q (BJ ++ [tg, cEq]).length c) (BJ ++ [tg, cEq]), fun X _ => X = .pointer (some ⟨w.heap.size, 5, none⟩), fun X _ => X = .slice (some ⟨b, off, none⟩) ps.length lc, fun X _ => X = .int .i64 (j : Int), fun X _ => X = .pointer (some ⟨b, off + j * 2, none⟩), fun X _ => X = .pointer (some ⟨b, off + j * 2 + 1, none⟩), fun X _ => X = .slice ea tm.length ec, fun X W' => ∃ q c, X = .slice q ET.length c ∧ RdX W' (.slice q ET.length c) ET, fun X W' => ∃ q c, X = .slice q (BJ ++ [tg, cEq] ++ ET).length c ∧ OwnX w1.heap.size W' (.slice q (BJ ++ [tg, cEq] ++ ET).length c) (BJ ++ [tg, cEq] ++ ET)] [some 9, none, none, none, none, none, none, none, some 9, some 17, none, none, none, none, none, none, some 17, some 68] [false, false, false, false, false, false, false, false, false, true, false, false, false, false, false, false, false, true] (by kernel_rfl) (by kernel_rfl) (by kernel_rfl) (hN) (hown) (fun _ _ n h => h.new n) ⟨fun X w0 w1 hn ⟨a63, n63, c63, t63, o63⟩ => ⟨a63, n63, c63, t63, o63.new hn⟩, RG.stable_eq _, RG.stable_eq _, RG.stable_eq _, RG.stable_eq _, RG.stable_eq _, RG.stable_eq _, fun X w0 w1 hn ⟨q70, t70, k70⟩ => ⟨q70, t70, k70.new hn⟩, fun X w0 w1 hn ⟨a71, c71, t71, o71⟩ => ⟨a71, c71, t71, o71.new hn⟩, fun X w0 w1 hn ⟨a72, c72, t72, o72⟩ => ⟨a72, c72, t72, o72.new hn⟩, RG.stable_eq _, RG.stable_eq _, RG.stable_eq _, RG.stable_eq _, RG.stable_eq _, RG.stable_eq _, fun X w0 w1 hn ⟨a79, c79, t79, k79⟩ => ⟨a79, c79, t79, k79.new hn⟩, fun X w0 w1 hn ⟨a80, c80, t80, o80⟩ => ⟨a80, c80, t80, o80.new hn⟩, trivial⟩ ⟨RC.stable_eqG _ _ _, RC.stable_eqG _ _ _, RC.stable_eqG _ _ _, RC.stable_eqG _ _ _, RC.stable_eqG _ _ _, RC.stable_eqG _ _ _, fun X w0 w1 hw0 hn ⟨q70, t70, k70⟩ => ⟨q70, t70, hn.blk _ _ _ k70 (by decide)⟩, RC.stable_eqG _ _ _, RC.stable_eqG _ _ _, RC.stable_eqG _ _ _, RC.stable_eqG _ _ _, RC.stable_eqG _ _ _, RC.stable_eqG _ _ _, trivial⟩ ?_ ?_
      · refine ⟨?_, ?_, ?_, ?_, ?_, ?_, ?_, ?_, ?_, ?_, ?_, ?_, ?_, ?_, ?_, ?_, ?_, ?_, trivial⟩
        · intro a w9 hw hj ho hk
          refine .inl ⟨by rfl, ?_⟩
          simp only [Bool.false_eq_true, if_false, if_true, eq_self_iff_true]
          have t2 := ho 4 rfl; dsimp at t2; have oJ := hj (by kernel_rfl); dsimp only at oJ; go_simp; first | exact ⟨New.refl _, _, rfl, _, _, _, rfl, oJ⟩ | exact ⟨New.refl _, _, _, _, by simp, oJ⟩
        · intro a w9 hw hj ho hk
          refine .inl ⟨by rfl, ?_⟩
          simp only [Bool.false_eq_true, if_false, if_true, eq_self_iff_true]
          have t2 := ho 1 rfl
          dsimp at t2
          try with_reducible replace hw := New.undrawN hw
          try with_reducible replace hw := New.undraw hw
          obtain ⟨c, f'⟩ := hw.rules
          go_simp
          exact New.refl _
        · intro a w9 hw hj ho hk
          refine .inl ⟨by rfl, ?_⟩
          simp only [Bool.false_eq_true, if_false, if_true, eq_self_iff_true]
          have t64 : a.tmps[64]?.getD undef = .pointer (some ⟨w.heap.size, 5, none⟩) := hk 1 64 (by kernel_rfl) rfl
          try with_reducible replace hw := New.undrawN hw
          try with_reducible replace hw := New.undraw hw
          obtain ⟨c, f'⟩ := hw.rules
          go_simp
          exact New.refl _
        · intro a w9 hw hj ho hk
          refine .inl ⟨by rfl, ?_⟩
          simp only [Bool.false_eq_true, if_false, if_true, eq_self_iff_true]
          have t2 := ho 5 rfl
          dsimp at t2
          try with_reducible replace hw := New.undrawN hw
          try with_reducible replace hw := New.undraw hw
          obtain ⟨c, f'⟩ := hw.rules
          go_simp
          exact New.refl _
        · intro a w9 hw hj ho hk
          refine .inl ⟨by rfl, ?_⟩
          simp only [Bool.false_eq_true, if_false, if_true, eq_self_iff_true]
          have t65 : a.tmps[65]?.getD undef = .slice (some ⟨b, off, none⟩) ps.length lc := hk 2 65 (by kernel_rfl) rfl
          have t66 : a.tmps[66]?.getD undef = .int .i64 (j : Int) := hk 3 66 (by kernel_rfl) rfl
          go_simp
          exact New.refl _
        · intro a w9 hw hj ho hk
          refine .inl ⟨by rfl, ?_⟩
          simp only [Bool.false_eq_true, if_false, if_true, eq_self_iff_true]
          have t67 : a.tmps[67]?.getD undef = .pointer (some ⟨b, off + j * 2, none⟩) := hk 4 67 (by kernel_rfl) rfl
          go_simp
          exact New.refl _
        · intro a w9 hw hj ho hk
          refine .inl ⟨by rfl, ?_⟩
          simp only [Bool.false_eq_true, if_false, if_true, eq_self_iff_true]
          have t68 : a.tmps[68]?.getD undef = .pointer (some ⟨b, off + j * 2, none⟩) := hk 5 68 (by kernel_rfl) rfl
          try with_reducible replace hw := New.undrawN hw
          try with_reducible replace hw := New.undraw hw
          obtain ⟨c, f'⟩ := hw.rules
          go_simp
          exact New.refl _
        · intro a w9 hw hj ho hk
          refine .inl ⟨by rfl, ?_⟩
          simp only [Bool.false_eq_true, if_false, if_true, eq_self_iff_true]
          have t69 : a.tmps[69]?.getD undef = .string tg := hk 6 69 (by kernel_rfl) rfl
          go_simp; first | exact ⟨(New.refl _).alloc _, _, rfl, _, rfl, Blk.alloc_at rfl⟩ | exact ⟨(New.refl _).alloc _, _, by simp, Blk.alloc_at rfl⟩
        · intro a w9 hw hj ho hk
          refine .inl ⟨by rfl, ?_⟩
          simp only [Bool.false_eq_true, if_false, if_true, eq_self_iff_true]
          obtain ⟨q70, t70, k70⟩ : ∃ q, (a.tmps[70]?.getD undef) = .slice (some ⟨q, 0, none⟩) 2 2 ∧ Blk w9 q #[.string tg, .string cEq] 9 := hk 7 70 (by kernel_rfl) rfl
          go_simp
          refine (sTokens_any _ [tg, cEq] _ (rdS_blk [tg, cEq] k70) HTG.out (by simp)).mono ?_; rintro e w2 ⟨r, rfl, hb, o⟩
          have hzw := hw.size; obtain ⟨q, c, rfl⟩ := o.slice; exact ⟨hb, _, rfl, _, _, rfl, o.base (by first | (simp only [World.size_alloc] at hzw; omega) | omega)⟩
        · intro a w9 hw hj ho hk
          refine .inl ⟨by rfl, ?_⟩
          simp only [Bool.false_eq_true, if_false, if_true, eq_self_iff_true]
          obtain ⟨a63, n63, c63, t63, o63⟩ : ∃ q n c, (a.tmps[63]?.getD undef) = .slice q n c ∧ OwnX w1.heap.size w9 (.slice q n c) (BJ) := hk 0 63 (by kernel_rfl) rfl
          obtain ⟨a71, c71, t71, o71⟩ : ∃ q c, (a.tmps[71]?.getD undef) = .slice q 2 c ∧ OwnX (w1.heap.size) w9 (.slice q 2 c) [tg, cEq] := hk 8 71 (by kernel_rfl) rfl
          have hzw := hw.size; exact wp_append_XG _ _ rfl (w1.heap.size) _ (BJ) (by first | (simp [Act.eval, Act.get]; exact t63) | simp [Act.eval, t63]) (o63) _ ([tg, cEq]) (by first | (simp [Act.eval, Act.get]; exact t71) | simp [Act.eval, t71]) (o71.rd) (by first | (simp only [List.length_append, List.length_cons, List.length_nil]; omega) | omega) hzw (fun v2 w2 h2 g2 => by obtain ⟨q, c, h9⟩ := h2.slice; subst h9; exact ⟨g2 _ (Nat.le_refl _), _, rfl, _, _, rfl, h2⟩)
        · intro a w9 hw hj ho hk
          refine .inl ⟨by rfl, ?_⟩
          simp only [Bool.false_eq_true, if_false, if_true, eq_self_iff_true]
          have t2 := ho 1 rfl
          dsimp at t2
          try with_reducible replace hw := New.undrawN hw
          try with_reducible replace hw := New.undraw hw
          obtain ⟨c, f'⟩ := hw.rules
          go_simp
          exact New.refl _
        · intro a w9 hw hj ho hk
          refine .inl ⟨by rfl, ?_⟩
          simp only [Bool.false_eq_true, if_false, if_true, eq_self_iff_true]
          have t73 : a.tmps[73]?.getD undef = .pointer (some ⟨w.heap.size, 5, none⟩) := hk 10 73 (by kernel_rfl) rfl
          try with_reducible replace hw := New.undrawN hw
          try with_reducible replace hw := New.undraw hw
          obtain ⟨c, f'⟩ := hw.rules
          go_simp
          exact New.refl _
        · intro a w9 hw hj ho hk
          refine .inl ⟨by rfl, ?_⟩
          simp only [Bool.false_eq_true, if_false, if_true, eq_self_iff_true]
          have t2 := ho 5 rfl
          dsimp at t2
          try with_reducible replace hw := New.undrawN hw
          try with_reducible replace hw := New.undraw hw
          obtain ⟨c, f'⟩ := hw.rules
          go_simp
          exact New.refl _
        · intro a w9 hw hj ho hk
          refine .inl ⟨by rfl, ?_⟩
          simp only [Bool.false_eq_true, if_false, if_true, eq_self_iff_true]
          have t74 : a.tmps[74]?.getD undef = .slice (some ⟨b, off, none⟩) ps.length lc := hk 11 74 (by kernel_rfl) rfl
          have t75 : a.tmps[75]?.getD undef = .int .i64 (j : Int) := hk 12 75 (by kernel_rfl) rfl
          go_simp
          exact New.refl _
        · intro a w9 hw hj ho hk
          refine .inl ⟨by rfl, ?_⟩
          simp only [Bool.false_eq_true, if_false, if_true, eq_self_iff_true]
          have t76 : a.tmps[76]?.getD undef = .pointer (some ⟨b, off + j * 2, none⟩) := hk 13 76 (by kernel_rfl) rfl
          go_simp
          exact New.refl _
        · intro a w9 hw hj ho hk
          refine .inl ⟨by rfl, ?_⟩
          simp only [Bool.false_eq_true, if_false, if_true, eq_self_iff_true]
          have t77 : a.tmps[77]?.getD undef = .pointer (some ⟨b, off + j * 2 + 1, none⟩) := hk 14 77 (by kernel_rfl) rfl
          try with_reducible replace hw := New.undrawN hw
          try with_reducible replace hw := New.undraw hw
          obtain ⟨c, f'⟩ := hw.rules
          go_simp
          exact New.refl _
        · intro a w9 hw hj ho hk
          refine .inl ⟨by rfl, ?_⟩
          simp only [Bool.false_eq_true, if_false, if_true, eq_self_iff_true]
          have t78 : a.tmps[78]?.getD undef = .slice ea tm.length ec := hk 15 78 (by kernel_rfl) rfl
          go_simp
          refine (HE.out _ (NW0.trans hw)).mono ?_; rintro e w2 ⟨q, c, rfl, hb, o⟩
          first | exact ⟨hb, _, rfl, _, _, rfl, o⟩ | exact ⟨hb, _, _, by simp, o⟩
        · intro a w9 hw hj ho hk
          refine .inl ⟨by rfl, ?_⟩
          simp only [Bool.false_eq_true, if_false, if_true, eq_self_iff_true]
          obtain ⟨a72, c72, t72, o72⟩ : ∃ q c, (a.tmps[72]?.getD undef) = .slice q (BJ ++ [tg, cEq]).length c ∧ OwnX w1.heap.size w9 (.slice q (BJ ++ [tg, cEq]).length c) (BJ ++ [tg, cEq]) := hk 9 72 (by kernel_rfl) rfl
          obtain ⟨a79, c79, t79, k79⟩ : ∃ q c, (a.tmps[79]?.getD undef) = .slice q ET.length c ∧ RdX w9 (.slice q ET.length c) ET := hk 16 79 (by kernel_rfl) rfl
          have hzw := hw.size; exact wp_append_XG _ _ rfl (w1.heap.size) _ (BJ ++ [tg, cEq]) (by first | (simp [Act.eval, Act.get]; exact t72) | simp [Act.eval, t72]) (o72) _ (ET) (by first | (simp [Act.eval, Act.get]; exact t79) | simp [Act.eval, t79]) (k79) (by first | (simp only [List.length_append, List.length_cons, List.length_nil]; omega) | omega) hzw (fun v2 w2 h2 g2 => by obtain ⟨q, c, h9⟩ := h2.slice; subst h9; exact ⟨g2 _ (Nat.le_refl _), _, rfl, _, _, rfl, h2⟩)
      intro w7 b7
      intro _ _
      rintro _ rfl
      rintro _ rfl
      rintro _ rfl
      rintro _ rfl
      rintro _ rfl
      rintro _ rfl
      rintro _ ⟨q70, rfl, k70⟩
      intro _ _
      intro _ _
      rintro _ rfl
      rintro _ rfl
      rintro _ rfl
      rintro _ rfl
      rintro _ rfl
      rintro _ rfl
      intro _ _
      intro x80 h80; obtain ⟨a80, c80, rfl, o80⟩ := h80 (by simp)
      try with_reducible replace b7 := New.undrawN b7
      try with_reducible replace b7 := New.undraw b7
      obtain ⟨c7, f7⟩ := b7.rules
      have z7 := b7.size
      try simp only [World.size_alloc, World.size_drew, World.heap_drewN, World.size_setCell] at z7
      have z7_0 : w.heap.size < w7.heap.size := by omega
      simp only [RC.EndAll, List.nil_append, List.cons_append, List.length_cons, List.length_nil, Nat.zero_add, Nat.reduceAdd, List.take_succ_cons, List.take_zero, List.drop_succ_cons, List.drop_zero, putAll, RG.putAll, Act.put, List.setIfInBounds_toArray, List.set_cons_succ, List.set_cons_zero]
      obtain ⟨a80', n80, c80', e80⟩ := o80.sliceP
      have HL80 := Lib.hid (show (BJ ++ [tg, cEq] ++ ET).length ≤ 10300 by simp only [List.length_append, List.length_cons, List.length_nil]; omega)
      generalize (BJ ++ [tg, cEq] ++ ET) = LE at o80 HBN HL80 ⊢
      have hl80 := HL80.out
      go_wp2_with fail
      refine (sTokens_any _ [cSe] _ (rdS_layB [cSe] _) ok_Se (by simp)).mono ?_; rintro e w8 ⟨r8, rfl, b8, o8⟩
      obtain ⟨a8, k8, rfl⟩ := o8.slice
      obtain ⟨c8, f8⟩ := b8.rules
      have z8 := b8.size
      try simp only [World.size_alloc, World.size_drew, World.heap_drewN, World.size_setCell] at z8
      have z8_0 : w.heap.size < w8.heap.size := by omega
      go_wp2_with (first | (at_builtin; refine wpList_append_XK rfl _ _ rfl w1.heap.size _ _ rfl (o80.new (((New.refl _).alloc _).trans b8)) _ ([cSe]) rfl (o8.rd) (by first  |  (simp only [List.length_cons, List.length_nil, List.length_append] at *; omega)  |  omega) (by first  |  (simp; done)  |  (simp; omega)  |  omega) ?_; intro vaS waS hoS hgS hkS; have naS : New w1 waS := hgS _ (by exact (by repeat (first | with_reducible exact New.refl _ | with_reducible assumption | with_reducible refine New.drew ?_ | with_reducible refine New.drewN ?_ _ | with_reducible refine New.alloc ?_ _ | with_reducible refine New.setCell ?_ (by first | (simp; done) | (simp; omega) | omega) _ | with_reducible refine New.trans ?_ (by with_reducible assumption)))) (Nat.le_refl _); rw [HBN.out] at hoS; obtain ⟨aaS, mmS, kaS, rfl⟩ := hoS.sliceP; obtain ⟨caS, faS⟩ := (KW0.new naS).rules; have laS := (KW0.new naS).lt; have zaS := naS.size))
      go_roundw
      case rel => exact ⟨j + 1, by omega, by go_num, naS, by rw [HBE.out]; exact hoS⟩
      case measure => simp [intOf]; omega
    · obtain rfl : j = ps.length := by omega
      have HPT := Lib.hid (show bodyT p ps.length ++ [kwN 5, cSe] = progT p by rw [progT, ← HPL.out])
      generalize bodyT p ps.length = BJ at hown hlB HPT
      go_wp2_with fail
      refine (sTokens_any _ [kwN 5, cSe] _ (rdS_layB [kwN 5, cSe] _) (okT_cons (kwN_size 5) ok_Se) (by simp)).mono ?_; rintro e w9 ⟨r9, rfl, b9, o9⟩
      obtain ⟨a9, k9, rfl⟩ := o9.slice
      obtain ⟨c9, f9⟩ := b9.rules
      have z9 := b9.size
      try simp only [World.size_alloc, World.size_drew, World.heap_drewN, World.size_setCell] at z9
      have z9_0 : w.heap.size < w9.heap.size := by omega
      go_wp2_with (first | (at_builtin; refine wpList_append_XK rfl _ _ rfl w1.heap.size _ _ rfl (hown.new (((New.refl _).alloc _).trans b9)) _ ([kwN 5, cSe]) rfl (o9.rd) (by first  |  (simp only [List.length_cons, List.length_nil, List.length_append] at *; omega)  |  omega) (by first  |  (simp; done)  |  (simp; omega)  |  omega) ?_; intro vaE waE hoE hgE hkE; have naE : New w1 waE := hgE _ (by exact (by repeat (first | with_reducible exact New.refl _ | with_reducible assumption | with_reducible refine New.drew ?_ | with_reducible refine New.drewN ?_ _ | with_reducible refine New.alloc ?_ _ | with_reducible refine New.setCell ?_ (by first | (simp; done) | (simp; omega) | omega) _ | with_reducible refine New.trans ?_ (by with_reducible assumption)))) (Nat.le_refl _); rw [HPT.out] at hoE; obtain ⟨aaE, mmE, kaE, rfl⟩ := hoE.sliceP; obtain ⟨caE, faE⟩ := (KW0.new naE).rules; have laE := (KW0.new naE).lt; have zaE := naE.size))
      refine (HX.out _ _ hoE.rd).mono ?_; rintro e w10 ⟨rfl, b10⟩
      try with_reducible replace b10 := New.undrawN b10
      try with_reducible replace b10 := New.undraw b10
      obtain ⟨c10, f10⟩ := b10.rules
      have z10 := b10.size
      try simp only [World.size_alloc, World.size_drew, World.heap_drewN, World.size_setCell] at z10
      go_wp2_with fail
      go_ret2
      exact ⟨rfl, (NW0.trans naE).trans b10⟩
set_option maxHeartbeats 1000000 in
theorem sProgramText_any (p : ProgD) (iv vv ov lv : Value) (w : World) (hp : RdP w p iv vv ov lv) (hf : FitP p) :
    Calls Tryz.prog 18 #[valP p iv vv ov lv] w fun e w' => e = .returned (.tuple #[.string (ptR p).1, .int .i64 (ptR p).2]) ∧ New w w' := by
  rcases Bool.eq_false_or_eq_true (wB p) with ho | ho
  · have hR : ptR p = (strL (stdT (progT p)), 0) := by rw [ptR, if_pos ho]
    rw [hR]
    by_cases hv : p.vars = []
    · rcases Bool.eq_false_or_eq_true p.guard.toList.isEmpty with hg | hg
      · exact sProgramTextN_any p iv vv ov lv w hp hf ho hv hg
      · exact sProgramTextG_any p iv vv ov lv w hp hf ho hv hg
    · rcases Bool.eq_false_or_eq_true p.guard.toList.isEmpty with hg | hg
      · exact sProgramTextV_any p iv vv ov lv w hp hf ho hv hg
      · exact sProgramTextVG_any p iv vv ov lv w hp hf ho hv hg
  · have HI := Lib.hid (fun (w0 : World) (h : New w w0) => sIsWritten_any p iv vv ov lv w0 (hp.new h) hf)
    obtain ⟨ia, ic, rfl, _⟩ := id hp.ins
    obtain ⟨va, vc, rfl, _⟩ := id hp.vars
    obtain ⟨oa, oc, rfl, _⟩ := id hp.outs
    obtain ⟨la, lc, rfl⟩ := id hp.lines.slice
    clear hp
    have zz : w.heap.size < w.heap.size + 1 := by omega
    have hR : ptR p = (⟨#[]⟩, 1) := by rw [ptR, if_neg (by rw [ho]; simp)]
    rw [ho] at HI
    rw [hR]
    clear hR ho
    dsimp only
    go_enter Tryz.func18, Tryz.ntmps18
    go_wp2_with fail
    refine (HI.out _ (by repeat (first | with_reducible exact New.refl _ | with_reducible assumption | with_reducible refine New.drew ?_ | with_reducible refine New.drewN ?_ _ | with_reducible refine New.alloc ?_ _ | with_reducible refine New.setCell ?_ (by first | (simp; done) | (simp; omega) | omega) _ | with_reducible refine New.trans ?_ (by with_reducible assumption)))).mono ?_; rintro e w1 ⟨rfl, b1⟩
    try with_reducible replace b1 := New.undrawN b1
    try with_reducible replace b1 := New.undraw b1
    obtain ⟨c1, f1⟩ := b1.rules
    have z1 := b1.size
    try simp only [World.size_alloc, World.size_drew, World.heap_drewN, World.size_setCell] at z1
    have z1_0 : w.heap.size < w1.heap.size := by omega
    go_wp2_with fail
    go_ret2
    exact ⟨rfl, (by repeat (first | with_reducible exact New.refl _ | with_reducible assumption | with_reducible refine New.drew ?_ | with_reducible refine New.drewN ?_ _ | with_reducible refine New.alloc ?_ _ | with_reducible refine New.setCell ?_ (by first | (simp; done) | (simp; omega) | omega) _ | with_reducible refine New.trans ?_ (by with_reducible assumption)))⟩
end Go.Proofs.YteielmihlfakgaaGreatDoor
