/- Contracts: texts of programs: the program. -/
import Derived.Test.YteielmihlfakgaaGreatDoorProg
import Derived.Test.YteielmihlfakgaaGreatDoorPtxI
import Derived.Test.YteielmihlfakgaaGreatDoorRegionI
namespace Go.Proofs.YteielmihlfakgaaGreatDoor
open Go Go.Proofs Go.RowKit
set_option linter.unusedVariables false
set_option linter.unusedSimpArgs false
set_option maxRecDepth 100000
theorem OwnX.sliceP {base : Nat} {w : World} {v : Value} {T : List ByteArray} (h : OwnX base w v T) : ∃ a n c, v = .slice a n c := by
  obtain ⟨a, c, e⟩ := h.slice; exact ⟨a, _, c, e⟩
theorem lines_of {ps : List LV} {ls : List LineD} (h : ps.map Prod.fst = ls) {j : Nat} (hj : j < ps.length) : ∃ h' : j < ls.length, ls[j] = ps[j].1 := by
  subst h; exact ⟨by simpa using hj, by simp⟩
set_option maxHeartbeats 8000000 in
theorem iProgTokensVG_any (p : ProgD) (iv vv ov lv : Value) (w : World) (hp : RdP w p iv vv ov lv) (hw : wB p = true) (hk : KW w) (hpw : PW w) (hv : p.vars ≠ []) (hg : p.guard.toList.isEmpty = false) :
    Calls Tryz.prog 59 #[valP p iv vv ov lv] w (RetX w (progT p)) := by
  have hvi : (0 : Int) < (p.vars.length : Int) := by have := List.length_pos_iff.2 hv; omega
  have HV2 := Lib.hid (show [[kwN 2], p.vars, [cSe]].flatten = varT p by rw [varT, if_neg hv]; simp)
  have hgg : (p.guard.toList == []) = false := by rw [← hg]; cases p.guard.toList <;> rfl
  have HGT := Lib.hid (show guardT p = [kwN 4, p.guard, cSe] by rw [guardT, hg]; rfl)
  clear hv hg
  obtain ⟨_, _, _, _, _, n1, n2, n3, n4, hln⟩ := wB_parts hw
  have HK := Lib.hid hk
  have HPW := Lib.hid hpw
  have HP := Lib.hid hp
  have HLN := Lib.hid hln
  obtain ⟨h1, h2, h3, hl⟩ := hp
  obtain ⟨ia, ic, rfl, _⟩ := id h1
  obtain ⟨va, vc, rfl, _⟩ := id h2
  obtain ⟨oa, oc, rfl, _⟩ := id h3
  obtain ⟨ps, hps, hl1, hl2⟩ := hl
  obtain ⟨la, lc, rfl, hm, HC⟩ := Rd.flat encLV_len (by omega) hl1
  have HT := Lib.hid hl2
  have HPS := Lib.hid hps
  have HPL := Lib.hid (show p.lines.length = ps.length by rw [← hps, List.length_map])
  have hpl : ps.length ≤ 40 := by rw [← hps, List.length_map] at n4; exact n4
  have HHB := Lib.hid (fun k => (bodyT_facts hw k).2)
  clear h1 h2 h3 hl1 hl2 hps hk hpw hln hw n4
  obtain ⟨LX, hLX⟩ : ∃ LX, LX = [kwN 0, p.name, cSe, kwN 1] ++ p.inputs ++ [cSe] := ⟨_, rfl⟩
  have hlX : LX.length ≤ 30 := by rw [hLX]; simp only [List.length_append, List.length_cons, List.length_nil]; omega
  have HLX := Lib.hid hLX.symm
  obtain ⟨LV, hLV⟩ : ∃ LV, LV = LX ++ varT p := ⟨_, rfl⟩
  have hlVT : (varT p).length ≤ 22 := by
    rw [varT]; split
    · simp
    · simp only [List.length_append, List.length_cons, List.length_nil]; omega
  have hlV : LV.length ≤ 60 := by rw [hLV, List.length_append]; omega
  obtain ⟨OT, hOT⟩ : ∃ OT, OT = [kwN 3] ++ p.outputs ++ [cSe] := ⟨_, rfl⟩
  have hlOT : OT.length ≤ 22 := by rw [hOT]; simp only [List.length_append, List.length_cons, List.length_nil]; omega
  have HO3 := Lib.hid (show [[kwN 3], p.outputs, [cSe]].flatten = OT by rw [hOT]; simp)
  obtain ⟨LO, hLO⟩ : ∃ LO, LO = LV ++ OT := ⟨_, rfl⟩
  have hlO : LO.length ≤ 90 := by rw [hLO, List.length_append]; omega
  have HLO := Lib.hid hLO.symm
  have HB0 := Lib.hid (show LO ++ guardT p = bodyT p 0 by rw [hLO, hLV, hLX, hOT, bodyT, headT]; simp)
  have HLV := Lib.hid hLV.symm
  clear hLX hLV hOT hLO
  have KW0 : Blk (w.alloc (.cells #[.string p.name, .slice ia p.inputs.length ic, .slice va p.vars.length vc, .slice oa p.outputs.length oc, .string p.guard, .slice la ps.length lc] 48)) w.heap.size #[.string p.name, .slice ia p.inputs.length ic, .slice va p.vars.length vc, .slice oa p.outputs.length oc, .string p.guard, .slice la ps.length lc] 48 := Blk.alloc_at rfl
  have NW0 : New w (w.alloc (.cells #[.string p.name, .slice ia p.inputs.length ic, .slice va p.vars.length vc, .slice oa p.outputs.length oc, .string p.guard, .slice la ps.length lc] 48)) := by exact (by repeat (first | with_reducible exact New.refl _ | with_reducible assumption | with_reducible refine New.drew ?_ | with_reducible refine New.drewN ?_ _ | with_reducible refine New.alloc ?_ _ | with_reducible refine New.setCell ?_ (by first | (simp; done) | (simp; omega) | omega) _ | with_reducible refine New.trans ?_ (by with_reducible assumption)))
  have zW0 : w.heap.size < (w.alloc (.cells #[.string p.name, .slice ia p.inputs.length ic, .slice va p.vars.length vc, .slice oa p.outputs.length oc, .string p.guard, .slice la ps.length lc] 48)).heap.size := by simp
  go_enter Tryz.func59, Tryz.ntmps59
  go_wp2_with fail
  have eW0 := Lib.hid (show (w.alloc (.cells #[.string p.name, .slice ia p.inputs.length ic, .slice va p.vars.length vc, .slice oa p.outputs.length oc, .string p.guard, .slice la ps.length lc] 48)).heap.size = w.heap.size + 1 by simp)
  generalize (w.alloc (.cells #[.string p.name, .slice ia p.inputs.length ic, .slice va p.vars.length vc, .slice oa p.outputs.length oc, .string p.guard, .slice la ps.length lc] 48)) = W0 at KW0 NW0 zW0 eW0 ⊢
  have HS1 := Lib.hid (HP.out.ins.new NW0)
  have HS2 := Lib.hid (HP.out.vars.new NW0)
  have HS3 := Lib.hid (HP.out.outs.new NW0)
  obtain ⟨c0, f0⟩ := KW0.rules
  refine (iTokensOf_any _ [kwN 0, p.name, cSe, kwN 1] _ (rdS_layB [kwN 0, p.name, cSe, kwN 1] _ (by have := eW0.out; omega)) (by simp)).mono ?_; rintro e w1 ⟨r1, rfl, b1, o1⟩
  obtain ⟨a1, k1, rfl⟩ := o1.slice; replace o1 := o1.base (b' := W0.heap.size) (by first | (simp; done) | (simp; omega))
  obtain ⟨c1, f1⟩ := b1.rules
  have z1 := b1.size
  try simp only [World.size_alloc, World.size_drew, World.heap_drewN, World.size_setCell] at z1
  have z1_0 : w.heap.size < w1.heap.size := by omega
  go_wp2_with fail
  have nn1 : New W0 w1 := by exact (by repeat (first | with_reducible exact New.refl _ | with_reducible assumption | with_reducible refine New.drew ?_ | with_reducible refine New.drewN ?_ _ | with_reducible refine New.alloc ?_ _ | with_reducible refine New.setCell ?_ (by first | (simp; done) | (simp; omega) | omega) _ | with_reducible refine New.trans ?_ (by with_reducible assumption)))
  refine (iTokensOf_any _ p.inputs _ (Rd.new HS1.out nn1) (by omega)).mono ?_; rintro e w2 ⟨r2, rfl, b2, o2⟩
  obtain ⟨a2, k2, rfl⟩ := o2.slice
  obtain ⟨c2, f2⟩ := b2.rules
  have z2 := b2.size
  try simp only [World.size_alloc, World.size_drew, World.heap_drewN, World.size_setCell] at z2
  have z2_0 : w.heap.size < w2.heap.size := by omega
  go_wp2_with (first | (at_builtin; refine wpList_append_XK rfl _ _ rfl W0.heap.size _ _ rfl (o1.new b2) _ (p.inputs) rfl (o2.rd) (by first  |  (simp only [List.length_cons, List.length_nil, List.length_append] at *; omega)  |  omega) (by first  |  (simp; done)  |  (simp; omega)  |  omega) ?_; intro vaA waA hoA hgA hkA; have naA : New W0 waA := hgA _ (by exact (by repeat (first | with_reducible exact New.refl _ | with_reducible assumption | with_reducible refine New.drew ?_ | with_reducible refine New.drewN ?_ _ | with_reducible refine New.alloc ?_ _ | with_reducible refine New.setCell ?_ (by first | (simp; done) | (simp; omega) | omega) _ | with_reducible refine New.trans ?_ (by with_reducible assumption)))) (Nat.le_refl _); obtain ⟨aaA, mmA, kaA, rfl⟩ := hoA.sliceP; obtain ⟨caA, faA⟩ := (KW0.new naA).rules; have laA := (KW0.new naA).lt; have zaA := naA.size))
  refine (iTokensOf_any _ [cSe] _ (rdS_layB [cSe] _) (by simp)).mono ?_; rintro e w3 ⟨r3, rfl, b3, o3⟩
  obtain ⟨a3, k3, rfl⟩ := o3.slice
  obtain ⟨c3, f3⟩ := b3.rules
  have z3 := b3.size
  try simp only [World.size_alloc, World.size_drew, World.heap_drewN, World.size_setCell] at z3
  have z3_0 : w.heap.size < w3.heap.size := by omega
  go_wp2_with (first | (at_builtin; refine wpList_append_XK rfl _ _ rfl W0.heap.size _ _ rfl (hoA.new (((New.refl _).alloc _).trans b3)) _ ([cSe]) rfl (o3.rd) (by first  |  (simp only [List.length_cons, List.length_nil, List.length_append] at *; omega)  |  omega) (by first  |  (simp; done)  |  (simp; omega)  |  omega) ?_; intro vaB waB hoB hgB hkB; have naB : New W0 waB := hgB _ (by exact (by repeat (first | with_reducible exact New.refl _ | with_reducible assumption | with_reducible refine New.drew ?_ | with_reducible refine New.drewN ?_ _ | with_reducible refine New.alloc ?_ _ | with_reducible refine New.setCell ?_ (by first | (simp; done) | (simp; omega) | omega) _ | with_reducible refine New.trans ?_ (by with_reducible assumption)))) (Nat.le_refl _); rw [HLX.out] at hoB; obtain ⟨aaB, mmB, kaB, rfl⟩ := hoB.sliceP; obtain ⟨caB, faB⟩ := (KW0.new naB).rules; have laB := (KW0.new naB).lt; have zaB := naB.size))
  rw [HGT.out] at HB0
  generalize varT p = VT at HV2 HLV hlVT
  refine RC.wp_facts (132) (W0) (fun w' => OwnX W0.heap.size w' (.slice aaB mmB kaB) LX) [fun X W' => ∃ q n c, X = .slice q n c ∧ OwnX W0.heap.size W' (.slice q n c) LX, fun X W' => ∃ q, X = .slice (some ⟨q, 0, none⟩) 1 1 ∧ Blk W' q #[.string (kwN 2)] 9, fun X W' => ∃ q c, X = .slice q 1 c ∧ RdX W' (.slice q 1 c) [kwN 2], fun X _ => X = .pointer (some ⟨w.heap.size, 2, none⟩), fun X _ => X = .slice va p.vars.length vc, fun X W' => ∃ q c, X = .slice q p.vars.length c ∧ RdX W' (.slice q p.vars.length c) p.vars, fun X W' => ∃ q, X = .slice (some ⟨q, 0, none⟩) 1 1 ∧ Blk W' q #[.string cSe] 9, fun X W' => ∃ q c, X = .slice q 1 c ∧ RdX W' (.slice q 1 c) [cSe], fun X W' => RdXs W' X [[kwN 2], p.vars, [cSe]], fun X W' => ∃ q c, X = .slice q VT.length c ∧ RdX W' (.slice q VT.length c) VT, fun X W' => ∃ q c, X = .slice q LV.length c ∧ OwnX W0.heap.size W' (.slice q LV.length c) LV] [some 10, none, some 10, none, none, some 10, none, some 10, some 10, some 10, some 61] [false, false, false, false, false, false, false, false, false, false, true] (by kernel_rfl) (by kernel_rfl) (by kernel_rfl) (naB) (hoB) (fun _ _ n h => h.new n) ⟨fun X w0 w1 hn ⟨a23, n23, c23, t23, o23⟩ => ⟨a23, n23, c23, t23, o23.new hn⟩, fun X w0 w1 hn ⟨q24, t24, k24⟩ => ⟨q24, t24, k24.new hn⟩, fun X w0 w1 hn ⟨a25, c25, t25, k25⟩ => ⟨a25, c25, t25, k25.new hn⟩, RG.stable_eq _, RG.stable_eq _, fun X w0 w1 hn ⟨a28, c28, t28, k28⟩ => ⟨a28, c28, t28, k28.new hn⟩, fun X w0 w1 hn ⟨q29, t29, k29⟩ => ⟨q29, t29, k29.new hn⟩, fun X w0 w1 hn ⟨a30, c30, t30, k30⟩ => ⟨a30, c30, t30, k30.new hn⟩, fun X w0 w1 hn k31 => k31.new hn, fun X w0 w1 hn ⟨a32, c32, t32, k32⟩ => ⟨a32, c32, t32, k32.new hn⟩, fun X w0 w1 hn ⟨a33, c33, t33, o33⟩ => ⟨a33, c33, t33, o33.new hn⟩, trivial⟩ ⟨fun X w0 w1 hw0 hn ⟨q24, t24, k24⟩ => ⟨q24, t24, hn.blk _ _ _ k24 (by decide)⟩, RC.stable_eqG _ _ _, RC.stable_eqG _ _ _, fun X w0 w1 hw0 hn ⟨q29, t29, k29⟩ => ⟨q29, t29, hn.blk _ _ _ k29 (by decide)⟩, trivial⟩ ?_ ?_
  · refine ⟨?_, ?_, ?_, ?_, ?_, ?_, ?_, ?_, ?_, ?_, ?_, trivial⟩
    · intro a w9 hw hj ho hk
      refine .inl ⟨by rfl, ?_⟩
      simp only [Bool.false_eq_true, if_false, if_true, eq_self_iff_true]
      have t2 := ho 3 rfl; dsimp at t2; have oJ := hj (by kernel_rfl); dsimp only at oJ; go_simp; first | exact ⟨New.refl _, _, rfl, _, _, _, rfl, oJ⟩ | exact ⟨New.refl _, _, _, _, by simp, oJ⟩
    · intro a w9 hw hj ho hk
      refine .inl ⟨by rfl, ?_⟩
      simp only [Bool.false_eq_true, if_false, if_true, eq_self_iff_true]
      go_simp; first | exact ⟨(New.refl _).alloc _, _, rfl, _, rfl, Blk.alloc_at rfl⟩ | exact ⟨(New.refl _).alloc _, _, by simp, Blk.alloc_at rfl⟩
    · intro a w9 hw hj ho hk
      refine .inl ⟨by rfl, ?_⟩
      simp only [Bool.false_eq_true, if_false, if_true, eq_self_iff_true]
      obtain ⟨q24, t24, k24⟩ : ∃ q, (a.tmps[24]?.getD undef) = .slice (some ⟨q, 0, none⟩) 1 1 ∧ Blk w9 q #[.string (kwN 2)] 9 := hk 1 24 (by kernel_rfl) rfl
      go_simp
      refine (iTokensOf_any _ [kwN 2] _ (rdS_blk [kwN 2] k24) (by simp)).mono ?_; rintro e w2 ⟨r, rfl, hb, o⟩
      obtain ⟨q, c, rfl⟩ := o.slice; exact ⟨hb, _, rfl, _, _, rfl, o.rd⟩
    · intro a w9 hw hj ho hk
      refine .inl ⟨by rfl, ?_⟩
      simp only [Bool.false_eq_true, if_false, if_true, eq_self_iff_true]
      have t2 := ho 1 rfl
      dsimp at t2
      try with_reducible replace hw := New.undrawN hw
      try with_reducible replace hw := New.undraw hw
      obtain ⟨c, f'⟩ := hw.rules
      go_simp
      exact New.refl _
    · intro a w9 hw hj ho hk
      refine .inl ⟨by rfl, ?_⟩
      simp only [Bool.false_eq_true, if_false, if_true, eq_self_iff_true]
      have t26 : a.tmps[26]?.getD undef = .pointer (some ⟨w.heap.size, 2, none⟩) := hk 3 26 (by kernel_rfl) rfl
      try with_reducible replace hw := New.undrawN hw
      try with_reducible replace hw := New.undraw hw
      obtain ⟨c, f'⟩ := hw.rules
      go_simp
      exact New.refl _
    · intro a w9 hw hj ho hk
      refine .inl ⟨by rfl, ?_⟩
      simp only [Bool.false_eq_true, if_false, if_true, eq_self_iff_true]
      have t27 : a.tmps[27]?.getD undef = .slice va p.vars.length vc := hk 4 27 (by kernel_rfl) rfl
      go_simp
      refine (iTokensOf_any _ p.vars _ (HS2.out.new hw) (by omega)).mono ?_; rintro e w2 ⟨r, rfl, hb, o⟩
      obtain ⟨q, c, rfl⟩ := o.slice; exact ⟨hb, _, rfl, _, _, rfl, o.rd⟩
    · intro a w9 hw hj ho hk
      refine .inl ⟨by rfl, ?_⟩
      simp only [Bool.false_eq_true, if_false, if_true, eq_self_iff_true]
      go_simp; first | exact ⟨(New.refl _).alloc _, _, rfl, _, rfl, Blk.alloc_at rfl⟩ | exact ⟨(New.refl _).alloc _, _, by simp, Blk.alloc_at rfl⟩
    · intro a w9 hw hj ho hk
      refine .inl ⟨by rfl, ?_⟩
      simp only [Bool.false_eq_true, if_false, if_true, eq_self_iff_true]
      obtain ⟨q29, t29, k29⟩ : ∃ q, (a.tmps[29]?.getD undef) = .slice (some ⟨q, 0, none⟩) 1 1 ∧ Blk w9 q #[.string cSe] 9 := hk 6 29 (by kernel_rfl) rfl
      go_simp
      refine (iTokensOf_any _ [cSe] _ (rdS_blk [cSe] k29) (by simp)).mono ?_; rintro e w2 ⟨r, rfl, hb, o⟩
      obtain ⟨q, c, rfl⟩ := o.slice; exact ⟨hb, _, rfl, _, _, rfl, o.rd⟩
    · intro a w9 hw hj ho hk
      refine .inl ⟨by rfl, ?_⟩
      simp only [Bool.false_eq_true, if_false, if_true, eq_self_iff_true]
      obtain ⟨a25, c25, t25, k25⟩ : ∃ q c, (a.tmps[25]?.getD undef) = .slice q 1 c ∧ RdX w9 (.slice q 1 c) [kwN 2] := hk 2 25 (by kernel_rfl) rfl
      obtain ⟨a28, c28, t28, k28⟩ : ∃ q c, (a.tmps[28]?.getD undef) = .slice q p.vars.length c ∧ RdX w9 (.slice q p.vars.length c) p.vars := hk 5 28 (by kernel_rfl) rfl
      obtain ⟨a30, c30, t30, k30⟩ : ∃ q c, (a.tmps[30]?.getD undef) = .slice q 1 c ∧ RdX w9 (.slice q 1 c) [cSe] := hk 7 30 (by kernel_rfl) rfl
      go_simp; first | exact ⟨(New.refl _).alloc _, _, rfl, rdXs_lay3 k25 k28 k30⟩ | exact ⟨(New.refl _).alloc _, rdXs_lay3 k25 k28 k30⟩
    · intro a w9 hw hj ho hk
      refine .inl ⟨by rfl, ?_⟩
      simp only [Bool.false_eq_true, if_false, if_true, eq_self_iff_true]
      obtain k31 : RdXs w9 (a.tmps[31]?.getD undef) [[kwN 2], p.vars, [cSe]] := hk 8 31 (by kernel_rfl) rfl
      go_simp
      refine (concatX_any _ [[kwN 2], p.vars, [cSe]] _ k31 (by intro x hx; simp only [List.mem_cons, List.not_mem_nil, or_false] at hx; rcases hx with rfl | rfl | rfl <;> first | (simp; done) | omega) (by simp)).mono ?_; rintro e w2 ⟨r, rfl, hb, o⟩
      obtain ⟨q, c, h9⟩ := o.slice; subst h9; rw [HV2.out] at o ⊢; first | exact ⟨hb, _, rfl, _, _, rfl, o.rd⟩ | exact ⟨hb, _, _, by simp, o.rd⟩
    · intro a w9 hw hj ho hk
      refine .inl ⟨by rfl, ?_⟩
      simp only [Bool.false_eq_true, if_false, if_true, eq_self_iff_true]
      obtain ⟨a23, n23, c23, t23, o23⟩ : ∃ q n c, (a.tmps[23]?.getD undef) = .slice q n c ∧ OwnX W0.heap.size w9 (.slice q n c) LX := hk 0 23 (by kernel_rfl) rfl
      obtain ⟨a32, c32, t32, k32⟩ : ∃ q c, (a.tmps[32]?.getD undef) = .slice q VT.length c ∧ RdX w9 (.slice q VT.length c) VT := hk 9 32 (by kernel_rfl) rfl
      have hzw := hw.size; exact wp_append_XG _ _ rfl (W0.heap.size) _ (LX) (by first | (simp [Act.eval, Act.get]; exact t23) | simp [Act.eval, t23]) (o23) _ (VT) (by first | (simp [Act.eval, Act.get]; exact t32) | simp [Act.eval, t32]) (k32) (by omega) hzw (fun v2 w2 h2 g2 => by rw [HLV.out] at h2; obtain ⟨q, c, h9⟩ := h2.slice; subst h9; exact ⟨g2 _ (Nat.le_refl _), _, rfl, _, _, rfl, h2⟩)
  intro w5 b5
  intro _ _
  rintro _ ⟨q24, rfl, k24⟩
  intro _ _
  rintro _ rfl
  rintro _ rfl
  intro _ _
  rintro _ ⟨q29, rfl, k29⟩
  intro _ _
  intro _ _
  intro _ _
  intro x33 h33; obtain ⟨a33, c33, rfl, o33⟩ := h33 (by simp)
  try with_reducible replace b5 := New.undrawN b5
  try with_reducible replace b5 := New.undraw b5
  obtain ⟨c5, f5⟩ := b5.rules
  have z5 := b5.size
  try simp only [World.size_alloc, World.size_drew, World.heap_drewN, World.size_setCell] at z5
  have z5_0 : w.heap.size < w5.heap.size := by omega
  simp only [RC.EndAll, List.nil_append, List.cons_append, List.length_cons, List.length_nil, Nat.zero_add, Nat.reduceAdd, List.take_succ_cons, List.take_zero, List.drop_succ_cons, List.drop_zero, putAll, RG.putAll, Act.put, List.setIfInBounds_toArray, List.set_cons_succ, List.set_cons_zero]
  have lC := (KW0.new b5).lt
  go_wp2_with fail
  refine RC.wp_facts (132) (W0) (fun w' => OwnX W0.heap.size w' (.slice a33 LV.length c33) LV) [fun X W' => ∃ q n c, X = .slice q n c ∧ OwnX W0.heap.size W' (.slice q n c) LV, fun X W' => ∃ q, X = .slice (some ⟨q, 0, none⟩) 1 1 ∧ Blk W' q #[.string (kwN 3)] 9, fun X W' => ∃ q c, X = .slice q 1 c ∧ RdX W' (.slice q 1 c) [kwN 3], fun X _ => X = .pointer (some ⟨w.heap.size, 3, none⟩), fun X _ => X = .slice oa p.outputs.length oc, fun X W' => ∃ q c, X = .slice q p.outputs.length c ∧ RdX W' (.slice q p.outputs.length c) p.outputs, fun X W' => ∃ q, X = .slice (some ⟨q, 0, none⟩) 1 1 ∧ Blk W' q #[.string cSe] 9, fun X W' => ∃ q c, X = .slice q 1 c ∧ RdX W' (.slice q 1 c) [cSe], fun X W' => RdXs W' X [[kwN 3], p.outputs, [cSe]], fun X W' => ∃ q c, X = .slice q OT.length c ∧ RdX W' (.slice q OT.length c) OT, fun X W' => ∃ q c, X = .slice q LO.length c ∧ OwnX W0.heap.size W' (.slice q LO.length c) LO] [some 10, none, some 10, none, none, some 10, none, some 10, some 10, some 10, some 61] [false, false, false, false, false, false, false, false, false, false, true] (by kernel_rfl) (by kernel_rfl) (by kernel_rfl) (b5) (o33) (fun _ _ n h => h.new n) ⟨fun X w0 w1 hn ⟨a34, n34, c34, t34, o34⟩ => ⟨a34, n34, c34, t34, o34.new hn⟩, fun X w0 w1 hn ⟨q35, t35, k35⟩ => ⟨q35, t35, k35.new hn⟩, fun X w0 w1 hn ⟨a36, c36, t36, k36⟩ => ⟨a36, c36, t36, k36.new hn⟩, RG.stable_eq _, RG.stable_eq _, fun X w0 w1 hn ⟨a39, c39, t39, k39⟩ => ⟨a39, c39, t39, k39.new hn⟩, fun X w0 w1 hn ⟨q40, t40, k40⟩ => ⟨q40, t40, k40.new hn⟩, fun X w0 w1 hn ⟨a41, c41, t41, k41⟩ => ⟨a41, c41, t41, k41.new hn⟩, fun X w0 w1 hn k42 => k42.new hn, fun X w0 w1 hn ⟨a43, c43, t43, k43⟩ => ⟨a43, c43, t43, k43.new hn⟩, fun X w0 w1 hn ⟨a44, c44, t44, o44⟩ => ⟨a44, c44, t44, o44.new hn⟩, trivial⟩ ⟨fun X w0 w1 hw0 hn ⟨q35, t35, k35⟩ => ⟨q35, t35, hn.blk _ _ _ k35 (by decide)⟩, RC.stable_eqG _ _ _, RC.stable_eqG _ _ _, fun X w0 w1 hw0 hn ⟨q40, t40, k40⟩ => ⟨q40, t40, hn.blk _ _ _ k40 (by decide)⟩, trivial⟩ ?_ ?_
  · refine ⟨?_, ?_, ?_, ?_, ?_, ?_, ?_, ?_, ?_, ?_, ?_, trivial⟩
    · intro a w9 hw hj ho hk
      refine .inl ⟨by rfl, ?_⟩
      simp only [Bool.false_eq_true, if_false, if_true, eq_self_iff_true]
      have t2 := ho 3 rfl; dsimp at t2; have oJ := hj (by kernel_rfl); dsimp only at oJ; go_simp; first | exact ⟨New.refl _, _, rfl, _, _, _, rfl, oJ⟩ | exact ⟨New.refl _, _, _, _, by simp, oJ⟩
    · intro a w9 hw hj ho hk
      refine .inl ⟨by rfl, ?_⟩
      simp only [Bool.false_eq_true, if_false, if_true, eq_self_iff_true]
      go_simp; first | exact ⟨(New.refl _).alloc _, _, rfl, _, rfl, Blk.alloc_at rfl⟩ | exact ⟨(New.refl _).alloc _, _, by simp, Blk.alloc_at rfl⟩
    · intro a w9 hw hj ho hk
      refine .inl ⟨by rfl, ?_⟩
      simp only [Bool.false_eq_true, if_false, if_true, eq_self_iff_true]
      obtain ⟨q35, t35, k35⟩ : ∃ q, (a.tmps[35]?.getD undef) = .slice (some ⟨q, 0, none⟩) 1 1 ∧ Blk w9 q #[.string (kwN 3)] 9 := hk 1 35 (by kernel_rfl) rfl
      go_simp
      refine (iTokensOf_any _ [kwN 3] _ (rdS_blk [kwN 3] k35) (by simp)).mono ?_; rintro e w2 ⟨r, rfl, hb, o⟩
      obtain ⟨q, c, rfl⟩ := o.slice; exact ⟨hb, _, rfl, _, _, rfl, o.rd⟩
    · intro a w9 hw hj ho hk
      refine .inl ⟨by rfl, ?_⟩
      simp only [Bool.false_eq_true, if_false, if_true, eq_self_iff_true]
      have t2 := ho 1 rfl
      dsimp at t2
      try with_reducible replace hw := New.undrawN hw
      try with_reducible replace hw := New.undraw hw
      obtain ⟨c, f'⟩ := hw.rules
      go_simp
      exact New.refl _
    · intro a w9 hw hj ho hk
      refine .inl ⟨by rfl, ?_⟩
      simp only [Bool.false_eq_true, if_false, if_true, eq_self_iff_true]
      have t37 : a.tmps[37]?.getD undef = .pointer (some ⟨w.heap.size, 3, none⟩) := hk 3 37 (by kernel_rfl) rfl
      try with_reducible replace hw := New.undrawN hw
      try with_reducible replace hw := New.undraw hw
      obtain ⟨c, f'⟩ := hw.rules
      go_simp
      exact New.refl _
    · intro a w9 hw hj ho hk
      refine .inl ⟨by rfl, ?_⟩
      simp only [Bool.false_eq_true, if_false, if_true, eq_self_iff_true]
      have t38 : a.tmps[38]?.getD undef = .slice oa p.outputs.length oc := hk 4 38 (by kernel_rfl) rfl
      go_simp
      refine (iTokensOf_any _ p.outputs _ (HS3.out.new hw) (by omega)).mono ?_; rintro e w2 ⟨r, rfl, hb, o⟩
      obtain ⟨q, c, rfl⟩ := o.slice; exact ⟨hb, _, rfl, _, _, rfl, o.rd⟩
    · intro a w9 hw hj ho hk
      refine .inl ⟨by rfl, ?_⟩
      simp only [Bool.false_eq_true, if_false, if_true, eq_self_iff_true]
      go_simp; first | exact ⟨(New.refl _).alloc _, _, rfl, _, rfl, Blk.alloc_at rfl⟩ | exact ⟨(New.refl _).alloc _, _, by simp, Blk.alloc_at rfl⟩
    · intro a w9 hw hj ho hk
      refine .inl ⟨by rfl, ?_⟩
      simp only [Bool.false_eq_true, if_false, if_true, eq_self_iff_true]
      obtain ⟨q40, t40, k40⟩ : ∃ q, (a.tmps[40]?.getD undef) = .slice (some ⟨q, 0, none⟩) 1 1 ∧ Blk w9 q #[.string cSe] 9 := hk 6 40 (by kernel_rfl) rfl
      go_simp
      refine (iTokensOf_any _ [cSe] _ (rdS_blk [cSe] k40) (by simp)).mono ?_; rintro e w2 ⟨r, rfl, hb, o⟩
      obtain ⟨q, c, rfl⟩ := o.slice; exact ⟨hb, _, rfl, _, _, rfl, o.rd⟩
    · intro a w9 hw hj ho hk
      refine .inl ⟨by rfl, ?_⟩
      simp only [Bool.false_eq_true, if_false, if_true, eq_self_iff_true]
      obtain ⟨a36, c36, t36, k36⟩ : ∃ q c, (a.tmps[36]?.getD undef) = .slice q 1 c ∧ RdX w9 (.slice q 1 c) [kwN 3] := hk 2 36 (by kernel_rfl) rfl
      obtain ⟨a39, c39, t39, k39⟩ : ∃ q c, (a.tmps[39]?.getD undef) = .slice q p.outputs.length c ∧ RdX w9 (.slice q p.outputs.length c) p.outputs := hk 5 39 (by kernel_rfl) rfl
      obtain ⟨a41, c41, t41, k41⟩ : ∃ q c, (a.tmps[41]?.getD undef) = .slice q 1 c ∧ RdX w9 (.slice q 1 c) [cSe] := hk 7 41 (by kernel_rfl) rfl
      go_simp; first | exact ⟨(New.refl _).alloc _, _, rfl, rdXs_lay3 k36 k39 k41⟩ | exact ⟨(New.refl _).alloc _, rdXs_lay3 k36 k39 k41⟩
    · intro a w9 hw hj ho hk
      refine .inl ⟨by rfl, ?_⟩
      simp only [Bool.false_eq_true, if_false, if_true, eq_self_iff_true]
      obtain k42 : RdXs w9 (a.tmps[42]?.getD undef) [[kwN 3], p.outputs, [cSe]] := hk 8 42 (by kernel_rfl) rfl
      go_simp
      refine (concatX_any _ [[kwN 3], p.outputs, [cSe]] _ k42 (by intro x hx; simp only [List.mem_cons, List.not_mem_nil, or_false] at hx; rcases hx with rfl | rfl | rfl <;> first | (simp; done) | omega) (by simp)).mono ?_; rintro e w2 ⟨r, rfl, hb, o⟩
      obtain ⟨q, c, h9⟩ := o.slice; subst h9; rw [HO3.out] at o ⊢; first | exact ⟨hb, _, rfl, _, _, rfl, o.rd⟩ | exact ⟨hb, _, _, by simp, o.rd⟩
    · intro a w9 hw hj ho hk
      refine .inl ⟨by rfl, ?_⟩
      simp only [Bool.false_eq_true, if_false, if_true, eq_self_iff_true]
      obtain ⟨a34, n34, c34, t34, o34⟩ : ∃ q n c, (a.tmps[34]?.getD undef) = .slice q n c ∧ OwnX W0.heap.size w9 (.slice q n c) LV := hk 0 34 (by kernel_rfl) rfl
      obtain ⟨a43, c43, t43, k43⟩ : ∃ q c, (a.tmps[43]?.getD undef) = .slice q OT.length c ∧ RdX w9 (.slice q OT.length c) OT := hk 9 43 (by kernel_rfl) rfl
      have hzw := hw.size; exact wp_append_XG _ _ rfl (W0.heap.size) _ (LV) (by first | (simp [Act.eval, Act.get]; exact t34) | simp [Act.eval, t34]) (o34) _ (OT) (by first | (simp [Act.eval, Act.get]; exact t43) | simp [Act.eval, t43]) (k43) (by omega) hzw (fun v2 w2 h2 g2 => by rw [HLO.out] at h2; obtain ⟨q, c, h9⟩ := h2.slice; subst h9; exact ⟨g2 _ (Nat.le_refl _), _, rfl, _, _, rfl, h2⟩)
  intro w6 b6
  intro _ _
  rintro _ ⟨q35, rfl, k35⟩
  intro _ _
  rintro _ rfl
  rintro _ rfl
  intro _ _
  rintro _ ⟨q40, rfl, k40⟩
  intro _ _
  intro _ _
  intro _ _
  intro x44 h44; obtain ⟨a44, c44, rfl, o44⟩ := h44 (by simp)
  try with_reducible replace b6 := New.undrawN b6
  try with_reducible replace b6 := New.undraw b6
  obtain ⟨c6, f6⟩ := b6.rules
  have z6 := b6.size
  try simp only [World.size_alloc, World.size_drew, World.heap_drewN, World.size_setCell] at z6
  have z6_0 : w.heap.size < w6.heap.size := by omega
  simp only [RC.EndAll, List.nil_append, List.cons_append, List.length_cons, List.length_nil, Nat.zero_add, Nat.reduceAdd, List.take_succ_cons, List.take_zero, List.drop_succ_cons, List.drop_zero, putAll, RG.putAll, Act.put, List.setIfInBounds_toArray, List.set_cons_succ, List.set_cons_zero]
  have lD := (KW0.new b6).lt
  go_wp2_with fail
  refine (iTokensOf_any _ [kwN 4, p.guard, cSe] _ (rdS_layB [kwN 4, p.guard, cSe] _) (by simp)).mono ?_; rintro e w8 ⟨r8, rfl, b8, o8⟩
  obtain ⟨a8, k8, rfl⟩ := o8.slice
  obtain ⟨c8, f8⟩ := b8.rules
  have z8 := b8.size
  try simp only [World.size_alloc, World.size_drew, World.heap_drewN, World.size_setCell] at z8
  have z8_0 : w.heap.size < w8.heap.size := by omega
  go_wp2_with (first | (at_builtin; refine wpList_append_XK rfl _ _ rfl W0.heap.size _ _ rfl (o44.new (((New.refl _).alloc _).trans b8)) _ ([kwN 4, p.guard, cSe]) rfl (o8.rd) (by first  |  (simp only [List.length_cons, List.length_nil, List.length_append] at *; omega)  |  omega) (by first  |  (simp; done)  |  (simp; omega)  |  omega) ?_; intro vaG waG hoG hgG hkG; have naG : New W0 waG := hgG _ (by exact (by repeat (first | with_reducible exact New.refl _ | with_reducible assumption | with_reducible refine New.drew ?_ | with_reducible refine New.drewN ?_ _ | with_reducible refine New.alloc ?_ _ | with_reducible refine New.setCell ?_ (by first | (simp; done) | (simp; omega) | omega) _ | with_reducible refine New.trans ?_ (by with_reducible assumption)))) (Nat.le_refl _); rw [HB0.out] at hoG; obtain ⟨aaG, mmG, kaG, rfl⟩ := hoG.sliceP; obtain ⟨caG, faG⟩ := (KW0.new naG).rules; have laG := (KW0.new naG).lt; have zaG := naG.size))
  go_loopw [3, 57] (fun o i wr => ∃ j : Nat, j ≤ ps.length ∧ i = .int .i64 j ∧ New W0 wr ∧ OwnX W0.heap.size wr o (bodyT p j)) (fun _ i _ => ps.length - (intOf i).toNat)
  case atStart => exact ⟨0, Nat.zero_le _, rfl, naG, hoG⟩
  case round =>
    obtain ⟨j, hj, rfl, hN, hown⟩ := hrel
    have hNz := hN.size
    have hNw := NW0.trans hN
    have hlB := HHB.out j
    obtain ⟨ao, mo, ko, rfl⟩ := hown.sliceP
    by_cases hlt : j < ps.length
    · obtain ⟨b, off, rfl, hbl, hx⟩ := HC.out j hlt
      have x0 : wr.cell? ⟨b, off + j * 2, none⟩ = some (.string ps[j].1.target) := (hNw.cell hbl).trans (hx 0 _ (by omega) rfl)
      have x1 : wr.cell? ⟨b, off + j * 2 + 1, none⟩ = some ps[j].2 := (hNw.cell hbl).trans (hx 1 _ (by omega) rfl)
      clear hx
      have hbr : b < wr.heap.size := by have := hNw.size; omega
      obtain ⟨hlp, hle⟩ := lines_of HPS.out hlt
      have hrt := HT.out ps[j] (List.getElem_mem hlt)
      obtain ⟨ea, ec, hev, _⟩ := id hrt
      rw [hev] at x1 hrt
      clear hev
      obtain ⟨hl1, hl2⟩ := HLN.out ps[j].1 (by rw [← hle]; exact List.getElem_mem hlp)
      obtain ⟨he1, he2, _⟩ := exprT_facts hl2
      have hlT := (lineT_facts hl1 hl2).2
      have HBN := Lib.hid (show bodyT p (j + 1) = bodyT p j ++ lineT ps[j].1 by rw [bodyT_next hlp, hle])
      have HLT := Lib.hid (show [[ps[j].1.target, cEq], exprT ps[j].1.terms, [cSe]].flatten = lineT ps[j].1 by simp [lineT])
      have HE := Lib.hid (fun (w0 : World) (h : New w w0) => iExprTokens_any (.slice ea ps[j].1.terms.length ec) ps[j].1.terms w0 (HK.out.new h) (HPW.out.new h) (Rd.new hrt h) hl2)
      clear hle hl1 hl2 hrt he2
      generalize lineT ps[j].1 = LT at hlT HBN HLT
      generalize exprT ps[j].1.terms = ET at he1 HLT HE
      generalize ps[j].1.terms = tm at x1 HE
      generalize ps[j].1.target = tg at x0 HLT
      have HBN2 := Lib.hid HBN.out.symm
      generalize bodyT p j = BJ at hown hlB HBN HBN2
      obtain ⟨BN, hBN⟩ : ∃ BN, BN = bodyT p (j + 1) := ⟨_, rfl⟩
      rw [← hBN] at HBN HBN2
      have HBE := Lib.hid hBN.symm
      clear hBN
      go_wp2_with fail
      refine RI.wp_facts (132) (W0) (fun w' => OwnX W0.heap.size w' (.slice ao mo ko) BJ) (fun w' => Blk w' wr.heap.size #[.string tg, .slice ea tm.length ec] 91) [fun X W' => ∃ q n c, X = .slice q n c ∧ OwnX W0.heap.size W' (.slice q n c) BJ, fun X _ => X = .pointer (some ⟨wr.heap.size, 0, none⟩), fun X _ => X = .string tg, fun X W' => ∃ q, X = .slice (some ⟨q, 0, none⟩) 2 2 ∧ Blk W' q #[.string tg, .string cEq] 9, fun X W' => ∃ q c, X = .slice q 2 c ∧ RdX W' (.slice q 2 c) [tg, cEq], fun X _ => X = .pointer (some ⟨wr.heap.size, 1, none⟩), fun X _ => X = .slice ea tm.length ec, fun X W' => ∃ q c, X = .slice q ET.length c ∧ RdX W' (.slice q ET.length c) ET, fun X W' => ∃ q, X = .slice (some ⟨q, 0, none⟩) 1 1 ∧ Blk W' q #[.string cSe] 9, fun X W' => ∃ q c, X = .slice q 1 c ∧ RdX W' (.slice q 1 c) [cSe], fun X W' => RdXs W' X [[tg, cEq], ET, [cSe]], fun X W' => ∃ q c, X = .slice q LT.length c ∧ RdX W' (.slice q LT.length c) LT, fun X W' => ∃ q c, X = .slice q BN.length c ∧ OwnX W0.heap.size W' (.slice q BN.length c) BN] [some 12, none, none, none, some 12, none, none, some 12, none, some 12, some 12, some 12, some 63] [false, false, false, false, false, false, false, false, false, false, false, false, true] (by kernel_rfl) (by kernel_rfl) (by kernel_rfl) (hN.alloc _) (hown.new ((New.refl _).alloc _)) (fun _ _ n h => h.new n) (Blk.alloc_at rfl) (fun _ _ n h => h.new n) (fun _ _ _ g h => g.blk _ _ _ h (by decide)) ⟨fun X w0 w1 hn ⟨a61, n61, c61, t61, o61⟩ => ⟨a61, n61, c61, t61, o61.new hn⟩, RG.stable_eq _, RG.stable_eq _, fun X w0 w1 hn ⟨q64, t64, k64⟩ => ⟨q64, t64, k64.new hn⟩, fun X w0 w1 hn ⟨a65, c65, t65, k65⟩ => ⟨a65, c65, t65, k65.new hn⟩, RG.stable_eq _, RG.stable_eq _, fun X w0 w1 hn ⟨a68, c68, t68, k68⟩ => ⟨a68, c68, t68, k68.new hn⟩, fun X w0 w1 hn ⟨q69, t69, k69⟩ => ⟨q69, t69, k69.new hn⟩, fun X w0 w1 hn ⟨a70, c70, t70, k70⟩ => ⟨a70, c70, t70, k70.new hn⟩, fun X w0 w1 hn k71 => k71.new hn, fun X w0 w1 hn ⟨a72, c72, t72, k72⟩ => ⟨a72, c72, t72, k72.new hn⟩, fun X w0 w1 hn ⟨a73, c73, t73, o73⟩ => ⟨a73, c73, t73, o73.new hn⟩, trivial⟩ ⟨RC.stable_eqG _ _ _, RC.stable_eqG _ _ _, fun X w0 w1 hw0 hn ⟨q64, t64, k64⟩ => ⟨q64, t64, hn.blk _ _ _ k64 (by decide)⟩, RC.stable_eqG _ _ _, RC.stable_eqG _ _ _, fun X w0 w1 hw0 hn ⟨q69, t69, k69⟩ => ⟨q69, t69, hn.blk _ _ _ k69 (by decide)⟩, trivial⟩ ?_ ?_
      · refine ⟨?_, ?_, ?_, ?_, ?_, ?_, ?_, ?_, ?_, ?_, ?_, ?_, ?_, trivial⟩
        · intro a w9 hw hi hj ho hk
          refine .inl ⟨by rfl, ?_⟩
          simp only [Bool.false_eq_true, if_false, if_true, eq_self_iff_true]
          have t2 := ho 3 rfl; dsimp at t2; have oJ := hj (by kernel_rfl); dsimp only at oJ; go_simp; first | exact ⟨New.refl _, _, rfl, _, _, _, rfl, oJ⟩ | exact ⟨New.refl _, _, _, _, by simp, oJ⟩
        · intro a w9 hw hi hj ho hk
          refine .inl ⟨by rfl, ?_⟩
          simp only [Bool.false_eq_true, if_false, if_true, eq_self_iff_true]
          have t2 := ho 5 rfl
          dsimp at t2
          try with_reducible replace hw := New.undrawN hw
          try with_reducible replace hw := New.undraw hw
          obtain ⟨c, f'⟩ := hw.rules
          go_simp
          exact New.refl _
        · intro a w9 hw hi hj ho hk
          refine .inl ⟨by rfl, ?_⟩
          simp only [Bool.false_eq_true, if_false, if_true, eq_self_iff_true]
          have t62 : a.tmps[62]?.getD undef = .pointer (some ⟨wr.heap.size, 0, none⟩) := hk 1 62 (by kernel_rfl) rfl
          obtain ⟨c9, f9⟩ := hi.rules; have l9 := hi.lt; go_simp; exact New.refl _
        · intro a w9 hw hi hj ho hk
          refine .inl ⟨by rfl, ?_⟩
          simp only [Bool.false_eq_true, if_false, if_true, eq_self_iff_true]
          have t63 : a.tmps[63]?.getD undef = .string tg := hk 2 63 (by kernel_rfl) rfl
          go_simp; first | exact ⟨(New.refl _).alloc _, _, rfl, _, rfl, Blk.alloc_at rfl⟩ | exact ⟨(New.refl _).alloc _, _, by simp, Blk.alloc_at rfl⟩
        · intro a w9 hw hi hj ho hk
          refine .inl ⟨by rfl, ?_⟩
          simp only [Bool.false_eq_true, if_false, if_true, eq_self_iff_true]
          obtain ⟨q64, t64, k64⟩ : ∃ q, (a.tmps[64]?.getD undef) = .slice (some ⟨q, 0, none⟩) 2 2 ∧ Blk w9 q #[.string tg, .string cEq] 9 := hk 3 64 (by kernel_rfl) rfl
          go_simp
          refine (iTokensOf_any _ [tg, cEq] _ (rdS_blk [tg, cEq] k64) (by simp)).mono ?_; rintro e w2 ⟨r, rfl, hb, o⟩
          obtain ⟨q, c, rfl⟩ := o.slice; exact ⟨hb, _, rfl, _, _, rfl, o.rd⟩
        · intro a w9 hw hi hj ho hk
          refine .inl ⟨by rfl, ?_⟩
          simp only [Bool.false_eq_true, if_false, if_true, eq_self_iff_true]
          have t2 := ho 5 rfl
          dsimp at t2
          try with_reducible replace hw := New.undrawN hw
          try with_reducible replace hw := New.undraw hw
          obtain ⟨c, f'⟩ := hw.rules
          go_simp
          exact New.refl _
        · intro a w9 hw hi hj ho hk
          refine .inl ⟨by rfl, ?_⟩
          simp only [Bool.false_eq_true, if_false, if_true, eq_self_iff_true]
          have t66 : a.tmps[66]?.getD undef = .pointer (some ⟨wr.heap.size, 1, none⟩) := hk 5 66 (by kernel_rfl) rfl
          obtain ⟨c9, f9⟩ := hi.rules; have l9 := hi.lt; go_simp; exact New.refl _
        · intro a w9 hw hi hj ho hk
          refine .inl ⟨by rfl, ?_⟩
          simp only [Bool.false_eq_true, if_false, if_true, eq_self_iff_true]
          have t67 : a.tmps[67]?.getD undef = .slice ea tm.length ec := hk 6 67 (by kernel_rfl) rfl
          go_simp
          refine (HE.out _ (NW0.trans hw)).mono ?_; rintro e w2 ⟨q, c, rfl, hb, o⟩
          first | exact ⟨hb, _, rfl, _, _, rfl, o⟩ | exact ⟨hb, _, _, by simp, o⟩
        · intro a w9 hw hi hj ho hk
          refine .inl ⟨by rfl, ?_⟩
          simp only [Bool.false_eq_true, if_false, if_true, eq_self_iff_true]
          go_simp; first | exact ⟨(New.refl _).alloc _, _, rfl, _, rfl, Blk.alloc_at rfl⟩ | exact ⟨(New.refl _).alloc _, _, by simp, Blk.alloc_at rfl⟩
        · intro a w9 hw hi hj ho hk
          refine .inl ⟨by rfl, ?_⟩
          simp only [Bool.false_eq_true, if_false, if_true, eq_self_iff_true]
          obtain ⟨q69, t69, k69⟩ : ∃ q, (a.tmps[69]?.getD undef) = .slice (some ⟨q, 0, none⟩) 1 1 ∧ Blk w9 q #[.string cSe] 9 := hk 8 69 (by kernel_rfl) rfl
          go_simp
          refine (iTokensOf_any _ [cSe] _ (rdS_blk [cSe] k69) (by simp)).mono ?_; rintro e w2 ⟨r, rfl, hb, o⟩
          obtain ⟨q, c, rfl⟩ := o.slice; exact ⟨hb, _, rfl, _, _, rfl, o.rd⟩
        · intro a w9 hw hi hj ho hk
          refine .inl ⟨by rfl, ?_⟩
          simp only [Bool.false_eq_true, if_false, if_true, eq_self_iff_true]
          obtain ⟨a65, c65, t65, k65⟩ : ∃ q c, (a.tmps[65]?.getD undef) = .slice q 2 c ∧ RdX w9 (.slice q 2 c) [tg, cEq] := hk 4 65 (by kernel_rfl) rfl
          obtain ⟨a68, c68, t68, k68⟩ : ∃ q c, (a.tmps[68]?.getD undef) = .slice q ET.length c ∧ RdX w9 (.slice q ET.length c) ET := hk 7 68 (by kernel_rfl) rfl
          obtain ⟨a70, c70, t70, k70⟩ : ∃ q c, (a.tmps[70]?.getD undef) = .slice q 1 c ∧ RdX w9 (.slice q 1 c) [cSe] := hk 9 70 (by kernel_rfl) rfl
          go_simp; first | exact ⟨(New.refl _).alloc _, _, rfl, rdXs_lay3 k65 k68 k70⟩ | exact ⟨(New.refl _).alloc _, rdXs_lay3 k65 k68 k70⟩
        · intro a w9 hw hi hj ho hk
          refine .inl ⟨by rfl, ?_⟩
          simp only [Bool.false_eq_true, if_false, if_true, eq_self_iff_true]
          obtain k71 : RdXs w9 (a.tmps[71]?.getD undef) [[tg, cEq], ET, [cSe]] := hk 10 71 (by kernel_rfl) rfl
          go_simp
          refine (concatX_any _ [[tg, cEq], ET, [cSe]] _ k71 (by intro x hx; simp only [List.mem_cons, List.not_mem_nil, or_false] at hx; rcases hx with rfl | rfl | rfl <;> first | (simp; done) | omega) (by simp)).mono ?_; rintro e w2 ⟨r, rfl, hb, o⟩
          obtain ⟨q, c, h9⟩ := o.slice; subst h9; rw [HLT.out] at o ⊢; first | exact ⟨hb, _, rfl, _, _, rfl, o.rd⟩ | exact ⟨hb, _, _, by simp, o.rd⟩
        · intro a w9 hw hi hj ho hk
          refine .inl ⟨by rfl, ?_⟩
          simp only [Bool.false_eq_true, if_false, if_true, eq_self_iff_true]
          obtain ⟨a61, n61, c61, t61, o61⟩ : ∃ q n c, (a.tmps[61]?.getD undef) = .slice q n c ∧ OwnX W0.heap.size w9 (.slice q n c) BJ := hk 0 61 (by kernel_rfl) rfl
          obtain ⟨a72, c72, t72, k72⟩ : ∃ q c, (a.tmps[72]?.getD undef) = .slice q LT.length c ∧ RdX w9 (.slice q LT.length c) LT := hk 11 72 (by kernel_rfl) rfl
          have hzw := hw.size; exact wp_append_XG _ _ rfl (W0.heap.size) _ (BJ) (by first | (simp [Act.eval, Act.get]; exact t61) | simp [Act.eval, t61]) (o61) _ (LT) (by first | (simp [Act.eval, Act.get]; exact t72) | simp [Act.eval, t72]) (k72) (by omega) hzw (fun v2 w2 h2 g2 => by rw [HBN2.out] at h2; obtain ⟨q, c, h9⟩ := h2.slice; subst h9; exact ⟨g2 _ (Nat.le_refl _), _, rfl, _, _, rfl, h2⟩)
      intro w7 b7 i7
      intro _ _
      rintro _ rfl
      rintro _ rfl
      rintro _ ⟨q64, rfl, k64⟩
      intro _ _
      rintro _ rfl
      rintro _ rfl
      intro _ _
      rintro _ ⟨q69, rfl, k69⟩
      intro _ _
      intro _ _
      intro _ _
      intro x73 h73; obtain ⟨a73, c73, rfl, o73⟩ := h73 (by simp)
      try with_reducible replace b7 := New.undrawN b7
      try with_reducible replace b7 := New.undraw b7
      obtain ⟨c7, f7⟩ := b7.rules
      have z7 := b7.size
      try simp only [World.size_alloc, World.size_drew, World.heap_drewN, World.size_setCell] at z7
      have z7_0 : w.heap.size < w7.heap.size := by omega
      simp only [RC.EndAll, List.nil_append, List.cons_append, List.length_cons, List.length_nil, Nat.zero_add, Nat.reduceAdd, List.take_succ_cons, List.take_zero, List.drop_succ_cons, List.drop_zero, putAll, RG.putAll, Act.put, List.setIfInBounds_toArray, List.set_cons_succ, List.set_cons_zero]
      go_wp2_with fail
      go_roundw
      case rel => exact ⟨j + 1, by omega, by go_num, b7, by rw [HBE.out]; exact o73⟩
      case measure => simp [intOf]; omega
    · obtain rfl : j = ps.length := by omega
      have HPT := Lib.hid (show bodyT p ps.length ++ [kwN 5, cSe] = progT p by rw [progT, ← HPL.out])
      generalize bodyT p ps.length = BJ at hown hlB HPT
      go_wp2_with fail
      refine (iTokensOf_any _ [kwN 5, cSe] _ (rdS_layB [kwN 5, cSe] _) (by simp)).mono ?_; rintro e w9 ⟨r9, rfl, b9, o9⟩
      obtain ⟨a9, k9, rfl⟩ := o9.slice
      obtain ⟨c9, f9⟩ := b9.rules
      have z9 := b9.size
      try simp only [World.size_alloc, World.size_drew, World.heap_drewN, World.size_setCell] at z9
      have z9_0 : w.heap.size < w9.heap.size := by omega
      go_wp2_with (first | (at_builtin; refine wpList_append_XK rfl _ _ rfl W0.heap.size _ _ rfl (hown.new (((New.refl _).alloc _).trans b9)) _ ([kwN 5, cSe]) rfl (o9.rd) (by first  |  (simp only [List.length_cons, List.length_nil, List.length_append] at *; omega)  |  omega) (by first  |  (simp; done)  |  (simp; omega)  |  omega) ?_; intro vaE waE hoE hgE hkE; have naE : New W0 waE := hgE _ (by exact (by repeat (first | with_reducible exact New.refl _ | with_reducible assumption | with_reducible refine New.drew ?_ | with_reducible refine New.drewN ?_ _ | with_reducible refine New.alloc ?_ _ | with_reducible refine New.setCell ?_ (by first | (simp; done) | (simp; omega) | omega) _ | with_reducible refine New.trans ?_ (by with_reducible assumption)))) (Nat.le_refl _); rw [HPT.out] at hoE; obtain ⟨aaE, mmE, kaE, rfl⟩ := hoE.sliceP; obtain ⟨caE, faE⟩ := (KW0.new naE).rules; have laE := (KW0.new naE).lt; have zaE := naE.size))
      go_ret
      exact ⟨_, rfl, NW0.trans naE, hoE.base NW0.size⟩
set_option maxHeartbeats 8000000 in
theorem iProgTokensV_any (p : ProgD) (iv vv ov lv : Value) (w : World) (hp : RdP w p iv vv ov lv) (hw : wB p = true) (hk : KW w) (hpw : PW w) (hv : p.vars ≠ []) (hg : p.guard.toList.isEmpty = true) :
    Calls Tryz.prog 59 #[valP p iv vv ov lv] w (RetX w (progT p)) := by
  have hvi : (0 : Int) < (p.vars.length : Int) := by have := List.length_pos_iff.2 hv; omega
  have HV2 := Lib.hid (show [[kwN 2], p.vars, [cSe]].flatten = varT p by rw [varT, if_neg hv]; simp)
  have hgg : (p.guard.toList == []) = true := by rw [← hg]; cases p.guard.toList <;> rfl
  have HGT := Lib.hid (show guardT p = [] by rw [guardT, hg]; rfl)
  clear hv hg
  obtain ⟨_, _, _, _, _, n1, n2, n3, n4, hln⟩ := wB_parts hw
  have HK := Lib.hid hk
  have HPW := Lib.hid hpw
  have HP := Lib.hid hp
  have HLN := Lib.hid hln
  obtain ⟨h1, h2, h3, hl⟩ := hp
  obtain ⟨ia, ic, rfl, _⟩ := id h1
  obtain ⟨va, vc, rfl, _⟩ := id h2
  obtain ⟨oa, oc, rfl, _⟩ := id h3
  obtain ⟨ps, hps, hl1, hl2⟩ := hl
  obtain ⟨la, lc, rfl, hm, HC⟩ := Rd.flat encLV_len (by omega) hl1
  have HT := Lib.hid hl2
  have HPS := Lib.hid hps
  have HPL := Lib.hid (show p.lines.length = ps.length by rw [← hps, List.length_map])
  have hpl : ps.length ≤ 40 := by rw [← hps, List.length_map] at n4; exact n4
  have HHB := Lib.hid (fun k => (bodyT_facts hw k).2)
  clear h1 h2 h3 hl1 hl2 hps hk hpw hln hw n4
  obtain ⟨LX, hLX⟩ : ∃ LX, LX = [kwN 0, p.name, cSe, kwN 1] ++ p.inputs ++ [cSe] := ⟨_, rfl⟩
  have hlX : LX.length ≤ 30 := by rw [hLX]; simp only [List.length_append, List.length_cons, List.length_nil]; omega
  have HLX := Lib.hid hLX.symm
  obtain ⟨LV, hLV⟩ : ∃ LV, LV = LX ++ varT p := ⟨_, rfl⟩
  have hlVT : (varT p).length ≤ 22 := by
    rw [varT]; split
    · simp
    · simp only [List.length_append, List.length_cons, List.length_nil]; omega
  have hlV : LV.length ≤ 60 := by rw [hLV, List.length_append]; omega
  obtain ⟨OT, hOT⟩ : ∃ OT, OT = [kwN 3] ++ p.outputs ++ [cSe] := ⟨_, rfl⟩
  have hlOT : OT.length ≤ 22 := by rw [hOT]; simp only [List.length_append, List.length_cons, List.length_nil]; omega
  have HO3 := Lib.hid (show [[kwN 3], p.outputs, [cSe]].flatten = OT by rw [hOT]; simp)
  obtain ⟨LO, hLO⟩ : ∃ LO, LO = LV ++ OT := ⟨_, rfl⟩
  have hlO : LO.length ≤ 90 := by rw [hLO, List.length_append]; omega
  have HLO := Lib.hid hLO.symm
  have HB0 := Lib.hid (show LO ++ guardT p = bodyT p 0 by rw [hLO, hLV, hLX, hOT, bodyT, headT]; simp)
  have HLV := Lib.hid hLV.symm
  clear hLX hLV hOT hLO
  have KW0 : Blk (w.alloc (.cells #[.string p.name, .slice ia p.inputs.length ic, .slice va p.vars.length vc, .slice oa p.outputs.length oc, .string p.guard, .slice la ps.length lc] 48)) w.heap.size #[.string p.name, .slice ia p.inputs.length ic, .slice va p.vars.length vc, .slice oa p.outputs.length oc, .string p.guard, .slice la ps.length lc] 48 := Blk.alloc_at rfl
  have NW0 : New w (w.alloc (.cells #[.string p.name, .slice ia p.inputs.length ic, .slice va p.vars.length vc, .slice oa p.outputs.length oc, .string p.guard, .slice la ps.length lc] 48)) := by exact (by repeat (first | with_reducible exact New.refl _ | with_reducible assumption | with_reducible refine New.drew ?_ | with_reducible refine New.drewN ?_ _ | with_reducible refine New.alloc ?_ _ | with_reducible refine New.setCell ?_ (by first | (simp; done) | (simp; omega) | omega) _ | with_reducible refine New.trans ?_ (by with_reducible assumption)))
  have zW0 : w.heap.size < (w.alloc (.cells #[.string p.name, .slice ia p.inputs.length ic, .slice va p.vars.length vc, .slice oa p.outputs.length oc, .string p.guard, .slice la ps.length lc] 48)).heap.size := by simp
  go_enter Tryz.func59, Tryz.ntmps59
  go_wp2_with fail
  have eW0 := Lib.hid (show (w.alloc (.cells #[.string p.name, .slice ia p.inputs.length ic, .slice va p.vars.length vc, .slice oa p.outputs.length oc, .string p.guard, .slice la ps.length lc] 48)).heap.size = w.heap.size + 1 by simp)
  generalize (w.alloc (.cells #[.string p.name, .slice ia p.inputs.length ic, .slice va p.vars.length vc, .slice oa p.outputs.length oc, .string p.guard, .slice la ps.length lc] 48)) = W0 at KW0 NW0 zW0 eW0 ⊢
  have HS1 := Lib.hid (HP.out.ins.new NW0)
  have HS2 := Lib.hid (HP.out.vars.new NW0)
  have HS3 := Lib.hid (HP.out.outs.new NW0)
  obtain ⟨c0, f0⟩ := KW0.rules
  refine (iTokensOf_any _ [kwN 0, p.name, cSe, kwN 1] _ (rdS_layB [kwN 0, p.name, cSe, kwN 1] _ (by have := eW0.out; omega)) (by simp)).mono ?_; rintro e w1 ⟨r1, rfl, b1, o1⟩
  obtain ⟨a1, k1, rfl⟩ := o1.slice; replace o1 := o1.base (b' := W0.heap.size) (by first | (simp; done) | (simp; omega))
  obtain ⟨c1, f1⟩ := b1.rules
  have z1 := b1.size
  try simp only [World.size_alloc, World.size_drew, World.heap_drewN, World.size_setCell] at z1
  have z1_0 : w.heap.size < w1.heap.size := by omega
  go_wp2_with fail
  have nn1 : New W0 w1 := by exact (by repeat (first | with_reducible exact New.refl _ | with_reducible assumption | with_reducible refine New.drew ?_ | with_reducible refine New.drewN ?_ _ | with_reducible refine New.alloc ?_ _ | with_reducible refine New.setCell ?_ (by first | (simp; done) | (simp; omega) | omega) _ | with_reducible refine New.trans ?_ (by with_reducible assumption)))
  refine (iTokensOf_any _ p.inputs _ (Rd.new HS1.out nn1) (by omega)).mono ?_; rintro e w2 ⟨r2, rfl, b2, o2⟩
  obtain ⟨a2, k2, rfl⟩ := o2.slice
  obtain ⟨c2, f2⟩ := b2.rules
  have z2 := b2.size
  try simp only [World.size_alloc, World.size_drew, World.heap_drewN, World.size_setCell] at z2
  have z2_0 : w.heap.size < w2.heap.size := by omega
  go_wp2_with (first | (at_builtin; refine wpList_append_XK rfl _ _ rfl W0.heap.size _ _ rfl (o1.new b2) _ (p.inputs) rfl (o2.rd) (by first  |  (simp only [List.length_cons, List.length_nil, List.length_append] at *; omega)  |  omega) (by first  |  (simp; done)  |  (simp; omega)  |  omega) ?_; intro vaA waA hoA hgA hkA; have naA : New W0 waA := hgA _ (by exact (by repeat (first | with_reducible exact New.refl _ | with_reducible assumption | with_reducible refine New.drew ?_ | with_reducible refine New.drewN ?_ _ | with_reducible refine New.alloc ?_ _ | with_reducible refine New.setCell ?_ (by first | (simp; done) | (simp; omega) | omega) _ | with_reducible refine New.trans ?_ (by with_reducible assumption)))) (Nat.le_refl _); obtain ⟨aaA, mmA, kaA, rfl⟩ := hoA.sliceP; obtain ⟨caA, faA⟩ := (KW0.new naA).rules; have laA := (KW0.new naA).lt; have zaA := naA.size))
  refine (iTokensOf_any _ [cSe] _ (rdS_layB [cSe] _) (by simp)).mono ?_; rintro e w3 ⟨r3, rfl, b3, o3⟩
  obtain ⟨a3, k3, rfl⟩ := o3.slice
  obtain ⟨c3, f3⟩ := b3.rules
  have z3 := b3.size
  try simp only [World.size_alloc, World.size_drew, World.heap_drewN, World.size_setCell] at z3
  have z3_0 : w.heap.size < w3.heap.size := by omega
  go_wp2_with (first | (at_builtin; refine wpList_append_XK rfl _ _ rfl W0.heap.size _ _ rfl (hoA.new (((New.refl _).alloc _).trans b3)) _ ([cSe]) rfl (o3.rd) (by first  |  (simp only [List.length_cons, List.length_nil, List.length_append] at *; omega)  |  omega) (by first  |  (simp; done)  |  (simp; omega)  |  omega) ?_; intro vaB waB hoB hgB hkB; have naB : New W0 waB := hgB _ (by exact (by repeat (first | with_reducible exact New.refl _ | with_reducible assumption | with_reducible refine New.drew ?_ | with_reducible refine New.drewN ?_ _ | with_reducible refine New.alloc ?_ _ | with_reducible refine New.setCell ?_ (by first | (simp; done) | (simp; omega) | omega) _ | with_reducible refine New.trans ?_ (by with_reducible assumption)))) (Nat.le_refl _); rw [HLX.out] at hoB; obtain ⟨aaB, mmB, kaB, rfl⟩ := hoB.sliceP; obtain ⟨caB, faB⟩ := (KW0.new naB).rules; have laB := (KW0.new naB).lt; have zaB := naB.size))
  rw [HGT.out] at HB0
  generalize varT p = VT at HV2 HLV hlVT
  refine RC.wp_facts (132) (W0) (fun w' => OwnX W0.heap.size w' (.slice aaB mmB kaB) LX) [fun X W' => ∃ q n c, X = .slice q n c ∧ OwnX W0.heap.size W' (.slice q n c) LX, fun X W' => ∃ q, X = .slice (some ⟨q, 0, none⟩) 1 1 ∧ Blk W' q #[.string (kwN 2)] 9, fun X W' => ∃ q c, X = .slice q 1 c ∧ RdX W' (.slice q 1 c) [kwN 2], fun X _ => X = .pointer (some ⟨w.heap.size, 2, none⟩), fun X _ => X = .slice va p.vars.length vc, fun X W' => ∃ q c, X = .slice q p.vars.length c ∧ RdX W' (.slice q p.vars.length c) p.vars, fun X W' => ∃ q, X = .slice (some ⟨q, 0, none⟩) 1 1 ∧ Blk W' q #[.string cSe] 9, fun X W' => ∃ q c, X = .slice q 1 c ∧ RdX W' (.slice q 1 c) [cSe], fun X W' => RdXs W' X [[kwN 2], p.vars, [cSe]], fun X W' => ∃ q c, X = .slice q VT.length c ∧ RdX W' (.slice q VT.length c) VT, fun X W' => ∃ q c, X = .slice q LV.length c ∧ OwnX W0.heap.size W' (.slice q LV.length c) LV] [some 10, none, some 10, none, none, some 10, none, some 10, some 10, some 10, some 61] [false, false, false, false, false, false, false, false, false, false, true] (by kernel_rfl) (by kernel_rfl) (by kernel_rfl) (naB) (hoB) (fun _ _ n h => h.new n) ⟨fun X w0 w1 hn ⟨a23, n23, c23, t23, o23⟩ => ⟨a23, n23, c23, t23, o23.new hn⟩, fun X w0 w1 hn ⟨q24, t24, k24⟩ => ⟨q24, t24, k24.new hn⟩, fun X w0 w1 hn ⟨a25, c25, t25, k25⟩ => ⟨a25, c25, t25, k25.new hn⟩, RG.stable_eq _, RG.stable_eq _, fun X w0 w1 hn ⟨a28, c28, t28, k28⟩ => ⟨a28, c28, t28, k28.new hn⟩, fun X w0 w1 hn ⟨q29, t29, k29⟩ => ⟨q29, t29, k29.new hn⟩, fun X w0 w1 hn ⟨a30, c30, t30, k30⟩ => ⟨a30, c30, t30, k30.new hn⟩, fun X w0 w1 hn k31 => k31.new hn, fun X w0 w1 hn ⟨a32, c32, t32, k32⟩ => ⟨a32, c32, t32, k32.new hn⟩, fun X w0 w1 hn ⟨a33, c33, t33, o33⟩ => ⟨a33, c33, t33, o33.new hn⟩, trivial⟩ ⟨fun X w0 w1 hw0 hn ⟨q24, t24, k24⟩ => ⟨q24, t24, hn.blk _ _ _ k24 (by decide)⟩, RC.stable_eqG _ _ _, RC.stable_eqG _ _ _, fun X w0 w1 hw0 hn ⟨q29, t29, k29⟩ => ⟨q29, t29, hn.blk _ _ _ k29 (by decide)⟩, trivial⟩ ?_ ?_
  · refine ⟨?_, ?_, ?_, ?_, ?_, ?_, ?_, ?_, ?_, ?_, ?_, trivial⟩
    · intro a w9 hw hj ho hk
      refine .inl ⟨by rfl, ?_⟩
      simp only [Bool.false_eq_true, if_false, if_true, eq_self_iff_true]
      have t2 := ho 3 rfl; dsimp at t2; have oJ := hj (by kernel_rfl); dsimp only at oJ; go_simp; first | exact ⟨New.refl _, _, rfl, _, _, _, rfl, oJ⟩ | exact ⟨New.refl _, _, _, _, by simp, oJ⟩
    · intro a w9 hw hj ho hk
      refine .inl ⟨by rfl, ?_⟩
      simp only [Bool.false_eq_true, if_false, if_true, eq_self_iff_true]
      go_simp; first | exact ⟨(New.refl _).alloc _, _, rfl, _, rfl, Blk.alloc_at rfl⟩ | exact ⟨(New.refl _).alloc _, _, by simp, Blk.alloc_at rfl⟩
    · intro a w9 hw hj ho hk
      refine .inl ⟨by rfl, ?_⟩
      simp only [Bool.false_eq_true, if_false, if_true, eq_self_iff_true]
      obtain ⟨q24, t24, k24⟩ : ∃ q, (a.tmps[24]?.getD undef) = .slice (some ⟨q, 0, none⟩) 1 1 ∧ Blk w9 q #[.string (kwN 2)] 9 := hk 1 24 (by kernel_rfl) rfl
      go_simp
      refine (iTokensOf_any _ [kwN 2] _ (rdS_blk [kwN 2] k24) (by simp)).mono ?_; rintro e w2 ⟨r, rfl, hb, o⟩
      obtain ⟨q, c, rfl⟩ := o.slice; exact ⟨hb, _, rfl, _, _, rfl, o.rd⟩
    · intro a w9 hw hj ho hk
      refine .inl ⟨by rfl, ?_⟩
      simp only [Bool.false_eq_true, if_false, if_true, eq_self_iff_true]
      have t2 := ho 1 rfl
      dsimp at t2
      try with_reducible replace hw := New.undrawN hw
      try with_reducible replace hw := New.undraw hw
      obtain ⟨c, f'⟩ := hw.rules
      go_simp
      exact New.refl _
    · intro a w9 hw hj ho hk
      refine .inl ⟨by rfl, ?_⟩
      simp only [Bool.false_eq_true, if_false, if_true, eq_self_iff_true]
      have t26 : a.tmps[26]?.getD undef = .pointer (some ⟨w.heap.size, 2, none⟩) := hk 3 26 (by kernel_rfl) rfl
      try with_reducible replace hw := New.undrawN hw
      try with_reducible replace hw := New.undraw hw
      obtain ⟨c, f'⟩ := hw.rules
      go_simp
      exact New.refl _
    · intro a w9 hw hj ho hk
      refine .inl ⟨by rfl, ?_⟩
      simp only [Bool.false_eq_true, if_false, if_true, eq_self_iff_true]
      have t27 : a.tmps[27]?.getD undef = .slice va p.vars.length vc := hk 4 27 (by kernel_rfl) rfl
      go_simp
      refine (iTokensOf_any _ p.vars _ (HS2.out.new hw) (by omega)).mono ?_; rintro e w2 ⟨r, rfl, hb, o⟩
      obtain ⟨q, c, rfl⟩ := o.slice; exact ⟨hb, _, rfl, _, _, rfl, o.rd⟩
    · intro a w9 hw hj ho hk
      refine .inl ⟨by rfl, ?_⟩
      simp only [Bool.false_eq_true, if_false, if_true, eq_self_iff_true]
      go_simp; first | exact ⟨(New.refl _).alloc _, _, rfl, _, rfl, Blk.alloc_at rfl⟩ | exact ⟨(New.refl _).alloc _, _, by simp, Blk.alloc_at rfl⟩
    · intro a w9 hw hj ho hk
      refine .inl ⟨by rfl, ?_⟩
      simp only [Bool.false_eq_true, if_false, if_true, eq_self_iff_true]
      obtain ⟨q29, t29, k29⟩ : ∃ q, (a.tmps[29]?.getD undef) = .slice (some ⟨q, 0, none⟩) 1 1 ∧ Blk w9 q #[.string cSe] 9 := hk 6 29 (by kernel_rfl) rfl
      go_simp
      refine (iTokensOf_any _ [cSe] _ (rdS_blk [cSe] k29) (by simp)).mono ?_; rintro e w2 ⟨r, rfl, hb, o⟩
      obtain ⟨q, c, rfl⟩ := o.slice; exact ⟨hb, _, rfl, _, _, rfl, o.rd⟩
    · intro a w9 hw hj ho hk
      refine .inl ⟨by rfl, ?_⟩
      simp only [Bool.false_eq_true, if_false, if_true, eq_self_iff_true]
      obtain ⟨a25, c25, t25, k25⟩ : ∃ q c, (a.tmps[25]?.getD undef) = .slice q 1 c ∧ RdX w9 (.slice q 1 c) [kwN 2] := hk 2 25 (by kernel_rfl) rfl
      obtain ⟨a28, c28, t28, k28⟩ : ∃ q c, (a.tmps[28]?.getD undef) = .slice q p.vars.length c ∧ RdX w9 (.slice q p.vars.length c) p.vars := hk 5 28 (by kernel_rfl) rfl
      obtain ⟨a30, c30, t30, k30⟩ : ∃ q c, (a.tmps[30]?.getD undef) = .slice q 1 c ∧ RdX w9 (.slice q 1 c) [cSe] := hk 7 30 (by kernel_rfl) rfl
      go_simp; first | exact ⟨(New.refl _).alloc _, _, rfl, rdXs_lay3 k25 k28 k30⟩ | exact ⟨(New.refl _).alloc _, rdXs_lay3 k25 k28 k30⟩
    · intro a w9 hw hj ho hk
      refine .inl ⟨by rfl, ?_⟩
      simp only [Bool.false_eq_true, if_false, if_true, eq_self_iff_true]
      obtain k31 : RdXs w9 (a.tmps[31]?.getD undef) [[kwN 2], p.vars, [cSe]] := hk 8 31 (by kernel_rfl) rfl
      go_simp
      refine (concatX_any _ [[kwN 2], p.vars, [cSe]] _ k31 (by intro x hx; simp only [List.mem_cons, List.not_mem_nil, or_false] at hx; rcases hx with rfl | rfl | rfl <;> first | (simp; done) | omega) (by simp)).mono ?_; rintro e w2 ⟨r, rfl, hb, o⟩
      obtain ⟨q, c, h9⟩ := o.slice; subst h9; rw [HV2.out] at o ⊢; first | exact ⟨hb, _, rfl, _, _, rfl, o.rd⟩ | exact ⟨hb, _, _, by simp, o.rd⟩
    · intro a w9 hw hj ho hk
      refine .inl ⟨by rfl, ?_⟩
      simp only [Bool.false_eq_true, if_false, if_true, eq_self_iff_true]
      obtain ⟨a23, n23, c23, t23, o23⟩ : ∃ q n c, (a.tmps[23]?.getD undef) = .slice q n c ∧ OwnX W0.heap.size w9 (.slice q n c) LX := hk 0 23 (by kernel_rfl) rfl
      obtain ⟨a32, c32, t32, k32⟩ : ∃ q c, (a.tmps[32]?.getD undef) = .slice q VT.length c ∧ RdX w9 (.slice q VT.length c) VT := hk 9 32 (by kernel_rfl) rfl
      have hzw := hw.size; exact wp_append_XG _ _ rfl (W0.heap.size) _ (LX) (by first | (simp [Act.eval, Act.get]; exact t23) | simp [Act.eval, t23]) (o23) _ (VT) (by first | (simp [Act.eval, Act.get]; exact t32) | simp [Act.eval, t32]) (k32) (by omega) hzw (fun v2 w2 h2 g2 => by rw [HLV.out] at h2; obtain ⟨q, c, h9⟩ := h2.slice; subst h9; exact ⟨g2 _ (Nat.le_refl _), _, rfl, _, _, rfl, h2⟩)
  intro w5 b5
  intro _ _
  rintro _ ⟨q24, rfl, k24⟩
  intro _ _
  rintro _ rfl
  rintro _ rfl
  intro _ _
  rintro _ ⟨q29, rfl, k29⟩
  intro _ _
  intro _ _
  intro _ _
  intro x33 h33; obtain ⟨a33, c33, rfl, o33⟩ := h33 (by simp)
  try with_reducible replace b5 := New.undrawN b5
  try with_reducible replace b5 := New.undraw b5
  obtain ⟨c5, f5⟩ := b5.rules
  have z5 := b5.size
  try simp only [World.size_alloc, World.size_drew, World.heap_drewN, World.size_setCell] at z5
  have z5_0 : w.heap.size < w5.heap.size := by omega
  simp only [RC.EndAll, List.nil_append, List.cons_append, List.length_cons, List.length_nil, Nat.zero_add, Nat.reduceAdd, List.take_succ_cons, List.take_zero, List.drop_succ_cons, List.drop_zero, putAll, RG.putAll, Act.put, List.setIfInBounds_toArray, List.set_cons_succ, List.set_cons_zero]
  have lC := (KW0.new b5).lt
  go_wp2_with fail
  refine RC.wp_facts (132) (W0) (fun w' => OwnX W0.heap.size w' (.slice a33 LV.length c33) LV) [fun X W' => ∃ q n c, X = .slice q n c ∧ OwnX W0.heap.size W' (.slice q n c) LV, fun X W' => ∃ q, X = .slice (some ⟨q, 0, none⟩) 1 1 ∧ Blk W' q #[.string (kwN 3)] 9, fun X W' => ∃ q c, X = .slice q 1 c ∧ RdX W' (.slice q 1 c) [kwN 3], fun X _ => X = .pointer (some ⟨w.heap.size, 3, none⟩), fun X _ => X = .slice oa p.outputs.length oc, fun X W' => ∃ q c, X = .slice q p.outputs.length c ∧ RdX W' (.slice q p.outputs.length c) p.outputs, fun X W' => ∃ q, X = .slice (some ⟨q, 0, none⟩) 1 1 ∧ Blk W' q #[.string cSe] 9, fun X W' => ∃ q c, X = .slice q 1 c ∧ RdX W' (.slice q 1 c) [cSe], fun X W' => RdXs W' X [[kwN 3], p.outputs, [cSe]], fun X W' => ∃ q c, X = .slice q OT.length c ∧ RdX W' (.slice q OT.length c) OT, fun X W' => ∃ q c, X = .slice q LO.length c ∧ OwnX W0.heap.size W' (.slice q LO.length c) LO] [some 10, none, some 10, none, none, some 10, none, some 10, some 10, some 10, some 61] [false, false, false, false, false, false, false, false, false, false, true] (by kernel_rfl) (by kernel_rfl) (by kernel_rfl) (b5) (o33) (fun _ _ n h => h.new n) ⟨fun X w0 w1 hn ⟨a34, n34, c34, t34, o34⟩ => ⟨a34, n34, c34, t34, o34.new hn⟩, fun X w0 w1 hn ⟨q35, t35, k35⟩ => ⟨q35, t35, k35.new hn⟩, fun X w0 w1 hn ⟨a36, c36, t36, k36⟩ => ⟨a36, c36, t36, k36.new hn⟩, RG.stable_eq _, RG.stable_eq _, fun X w0 w1 hn ⟨a39, c39, t39, k39⟩ => ⟨a39, c39, t39, k39.new hn⟩, fun X w0 w1 hn ⟨q40, t40, k40⟩ => ⟨q40, t40, k40.new hn⟩, fun X w0 w1 hn ⟨a41, c41, t41, k41⟩ => ⟨a41, c41, t41, k41.new hn⟩, fun X w0 w1 hn k42 => k42.new hn, fun X w0 w1 hn ⟨a43, c43, t43, k43⟩ => ⟨a43, c43, t43, k43.new hn⟩, fun X w0 w1 hn ⟨a44, c44, t44, o44⟩ => ⟨a44, c44, t44, o44.new hn⟩, trivial⟩ ⟨fun X w0 w1 hw0 hn ⟨q35, t35, k35⟩ => ⟨q35, t35, hn.blk _ _ _ k35 (by decide)⟩, RC.stable_eqG _ _ _, RC.stable_eqG _ _ _, fun X w0 w1 hw0 hn ⟨q40, t40, k40⟩ => ⟨q40, t40, hn.blk _ _ _ k40 (by decide)⟩, trivial⟩ ?_ ?_
  · refine ⟨?_, ?_, ?_, ?_, ?_, ?_, ?_, ?_, ?_, ?_, ?_, trivial⟩
    · intro a w9 hw hj ho hk
      refine .inl ⟨by rfl, ?_⟩
      simp only [Bool.false_eq_true, if_false, if_true, eq_self_iff_true]
      have t2 := ho 3 rfl; dsimp at t2; have oJ := hj (by kernel_rfl); dsimp only at oJ; go_simp; first | exact ⟨New.refl _, _, rfl, _, _, _, rfl, oJ⟩ | exact ⟨New.refl _, _, _, _, by simp, oJ⟩
    · intro a w9 hw hj ho hk
      refine .inl ⟨by rfl, ?_⟩
      simp only [Bool.false_eq_true, if_false, if_true, eq_self_iff_true]
      go_simp; first | exact ⟨(New.refl _).alloc _, _, rfl, _, rfl, Blk.alloc_at rfl⟩ | exact ⟨(New.refl _).alloc _, _, by simp, Blk.alloc_at rfl⟩
    · intro a w9 hw hj ho hk
      refine .inl ⟨by rfl, ?_⟩
      simp only [Bool.false_eq_true, if_false, if_true, eq_self_iff_true]
      obtain ⟨q35, t35, k35⟩ : ∃ q, (a.tmps[35]?.getD undef) = .slice (some ⟨q, 0, none⟩) 1 1 ∧ Blk w9 q #[.string (kwN 3)] 9 := hk 1 35 (by kernel_rfl) rfl
      go_simp
      refine (iTokensOf_any _ [kwN 3] _ (rdS_blk [kwN 3] k35) (by simp)).mono ?_; rintro e w2 ⟨r, rfl, hb, o⟩
      obtain ⟨q, c, rfl⟩ := o.slice; exact ⟨hb, _, rfl, _, _, rfl, o.rd⟩
    · intro a w9 hw hj ho hk
      refine .inl ⟨by rfl, ?_⟩
      simp only [Bool.false_eq_true, if_false, if_true, eq_self_iff_true]
      have t2 := ho 1 rfl
      dsimp at t2
      try with_reducible replace hw := New.undrawN hw
      try with_reducible replace hw := New.undraw hw
      obtain ⟨c, f'⟩ := hw.rules
      go_simp
      exact New.refl _
    · intro a w9 hw hj ho hk
      refine .inl ⟨by rfl, ?_⟩
      simp only [Bool.false_eq_true, if_false, if_true, eq_self_iff_true]
      have t37 : a.tmps[37]?.getD undef = .pointer (some ⟨w.heap.size, 3, none⟩) := hk 3 37 (by kernel_rfl) rfl
      try with_reducible replace hw := New.undrawN hw
      try with_reducible replace hw := New.undraw hw
      obtain ⟨c, f'⟩ := hw.rules
      go_simp
      exact New.refl _
    · intro a w9 hw hj ho hk
      refine .inl ⟨by rfl, ?_⟩
      simp only [Bool.false_eq_true, if_false, if_true, eq_self_iff_true]
      have t38 : a.tmps[38]?.getD undef = .slice oa p.outputs.length oc := hk 4 38 (by kernel_rfl) rfl
      go_simp
      refine (iTokensOf_any _ p.outputs _ (HS3.out.new hw) (by omega)).mono ?_; rintro e w2 ⟨r, rfl, hb, o⟩
      obtain ⟨q, c, rfl⟩ := o.slice; exact ⟨hb, _, rfl, _, _, rfl, o.rd⟩
    · intro a w9 hw hj ho hk
      refine .inl ⟨by rfl, ?_⟩
      simp only [Bool.false_eq_true, if_false, if_true, eq_self_iff_true]
      go_simp; first | exact ⟨(New.refl _).alloc _, _, rfl, _, rfl, Blk.alloc_at rfl⟩ | exact ⟨(New.refl _).alloc _, _, by simp, Blk.alloc_at rfl⟩
    · intro a w9 hw hj ho hk
      refine .inl ⟨by rfl, ?_⟩
      simp only [Bool.false_eq_true, if_false, if_true, eq_self_iff_true]
      obtain ⟨q40, t40, k40⟩ : ∃ q, (a.tmps[40]?.getD undef) = .slice (some ⟨q, 0, none⟩) 1 1 ∧ Blk w9 q #[.string cSe] 9 := hk 6 40 (by kernel_rfl) rfl
      go_simp
      refine (iTokensOf_any _ [cSe] _ (rdS_blk [cSe] k40) (by simp)).mono ?_; rintro e w2 ⟨r, rfl, hb, o⟩
      obtain ⟨q, c, rfl⟩ := o.slice; exact ⟨hb, _, rfl, _, _, rfl, o.rd⟩
    · intro a w9 hw hj ho hk
      refine .inl ⟨by rfl, ?_⟩
      simp only [Bool.false_eq_true, if_false, if_true, eq_self_iff_true]
      obtain ⟨a36, c36, t36, k36⟩ : ∃ q c, (a.tmps[36]?.getD undef) = .slice q 1 c ∧ RdX w9 (.slice q 1 c) [kwN 3] := hk 2 36 (by kernel_rfl) rfl
      obtain ⟨a39, c39, t39, k39⟩ : ∃ q c, (a.tmps[39]?.getD undef) = .slice q p.outputs.length c ∧ RdX w9 (.slice q p.outputs.length c) p.outputs := hk 5 39 (by kernel_rfl) rfl
      obtain ⟨a41, c41, t41, k41⟩ : ∃ q c, (a.tmps[41]?.getD undef) = .slice q 1 c ∧ RdX w9 (.slice q 1 c) [cSe] := hk 7 41 (by kernel_rfl) rfl
      go_simp; first | exact ⟨(New.refl _).alloc _, _, rfl, rdXs_lay3 k36 k39 k41⟩ | exact ⟨(New.refl _).alloc _, rdXs_lay3 k36 k39 k41⟩
    · intro a w9 hw hj ho hk
      refine .inl ⟨by rfl, ?_⟩
      simp only [Bool.false_eq_true, if_false, if_true, eq_self_iff_true]
      obtain k42 : RdXs w9 (a.tmps[42]?.getD undef) [[kwN 3], p.outputs, [cSe]] := hk 8 42 (by kernel_rfl) rfl
      go_simp
      refine (concatX_any _ [[kwN 3], p.outputs, [cSe]] _ k42 (by intro x hx; simp only [List.mem_cons, List.not_mem_nil, or_false] at hx; rcases hx with rfl | rfl | rfl <;> first | (simp; done) | omega) (by simp)).mono ?_; rintro e w2 ⟨r, rfl, hb, o⟩
      obtain ⟨q, c, h9⟩ := o.slice; subst h9; rw [HO3.out] at o ⊢; first | exact ⟨hb, _, rfl, _, _, rfl, o.rd⟩ | exact ⟨hb, _, _, by simp, o.rd⟩
    · intro a w9 hw hj ho hk
      refine .inl ⟨by rfl, ?_⟩
      simp only [Bool.false_eq_true, if_false, if_true, eq_self_iff_true]
      obtain ⟨a34, n34, c34, t34, o34⟩ : ∃ q n c, (a.tmps[34]?.getD undef) = .slice q n c ∧ OwnX W0.heap.size w9 (.slice q n c) LV := hk 0 34 (by kernel_rfl) rfl
      obtain ⟨a43, c43, t43, k43⟩ : ∃ q c, (a.tmps[43]?.getD undef) = .slice q OT.length c ∧ RdX w9 (.slice q OT.length c) OT := hk 9 43 (by kernel_rfl) rfl
      have hzw := hw.size; exact wp_append_XG _ _ rfl (W0.heap.size) _ (LV) (by first | (simp [Act.eval, Act.get]; exact t34) | simp [Act.eval, t34]) (o34) _ (OT) (by first | (simp [Act.eval, Act.get]; exact t43) | simp [Act.eval, t43]) (k43) (by omega) hzw (fun v2 w2 h2 g2 => by rw [HLO.out] at h2; obtain ⟨q, c, h9⟩ := h2.slice; subst h9; exact ⟨g2 _ (Nat.le_refl _), _, rfl, _, _, rfl, h2⟩)
  intro w6 b6
  intro _ _
  rintro _ ⟨q35, rfl, k35⟩
  intro _ _
  rintro _ rfl
  rintro _ rfl
  intro _ _
  rintro _ ⟨q40, rfl, k40⟩
  intro _ _
  intro _ _
  intro _ _
  intro x44 h44; obtain ⟨a44, c44, rfl, o44⟩ := h44 (by simp)
  try with_reducible replace b6 := New.undrawN b6
  try with_reducible replace b6 := New.undraw b6
  obtain ⟨c6, f6⟩ := b6.rules
  have z6 := b6.size
  try simp only [World.size_alloc, World.size_drew, World.heap_drewN, World.size_setCell] at z6
  have z6_0 : w.heap.size < w6.heap.size := by omega
  simp only [RC.EndAll, List.nil_append, List.cons_append, List.length_cons, List.length_nil, Nat.zero_add, Nat.reduceAdd, List.take_succ_cons, List.take_zero, List.drop_succ_cons, List.drop_zero, putAll, RG.putAll, Act.put, List.setIfInBounds_toArray, List.set_cons_succ, List.set_cons_zero]
  have lD := (KW0.new b6).lt
  go_wp2_with fail
  have HB1 := Lib.hid (show LO = bodyT p 0 by have := HB0.out; simpa using this)
  have o44' : OwnX W0.heap.size w6 (.slice a44 LO.length c44) (bodyT p 0) := by rw [← HB1.out]; exact o44
  clear o44
  go_loopw [3, 57] (fun o i wr => ∃ j : Nat, j ≤ ps.length ∧ i = .int .i64 j ∧ New W0 wr ∧ OwnX W0.heap.size wr o (bodyT p j)) (fun _ i _ => ps.length - (intOf i).toNat)
  case atStart => exact ⟨0, Nat.zero_le _, rfl, b6, o44'⟩
  case round =>
    obtain ⟨j, hj, rfl, hN, hown⟩ := hrel
    have hNz := hN.size
    have hNw := NW0.trans hN
    have hlB := HHB.out j
    obtain ⟨ao, mo, ko, rfl⟩ := hown.sliceP
    by_cases hlt : j < ps.length
    · obtain ⟨b, off, rfl, hbl, hx⟩ := HC.out j hlt
      have x0 : wr.cell? ⟨b, off + j * 2, none⟩ = some (.string ps[j].1.target) := (hNw.cell hbl).trans (hx 0 _ (by omega) rfl)
      have x1 : wr.cell? ⟨b, off + j * 2 + 1, none⟩ = some ps[j].2 := (hNw.cell hbl).trans (hx 1 _ (by omega) rfl)
      clear hx
      have hbr : b < wr.heap.size := by have := hNw.size; omega
      obtain ⟨hlp, hle⟩ := lines_of HPS.out hlt
      have hrt := HT.out ps[j] (List.getElem_mem hlt)
      obtain ⟨ea, ec, hev, _⟩ := id hrt
      rw [hev] at x1 hrt
      clear hev
      obtain ⟨hl1, hl2⟩ := HLN.out ps[j].1 (by rw [← hle]; exact List.getElem_mem hlp)
      obtain ⟨he1, he2, _⟩ := exprT_facts hl2
      have hlT := (lineT_facts hl1 hl2).2
      have HBN := Lib.hid (show bodyT p (j + 1) = bodyT p j ++ lineT ps[j].1 by rw [bodyT_next hlp, hle])
      have HLT := Lib.hid (show [[ps[j].1.target, cEq], exprT ps[j].1.terms, [cSe]].flatten = lineT ps[j].1 by simp [lineT])
      have HE := Lib.hid (fun (w0 : World) (h : New w w0) => iExprTokens_any (.slice ea ps[j].1.terms.length ec) ps[j].1.terms w0 (HK.out.new h) (HPW.out.new h) (Rd.new hrt h) hl2)
      clear hle hl1 hl2 hrt he2
      generalize lineT ps[j].1 = LT at hlT HBN HLT
      generalize exprT ps[j].1.terms = ET at he1 HLT HE
      generalize ps[j].1.terms = tm at x1 HE
      generalize ps[j].1.target = tg at x0 HLT
      have HBN2 := Lib.hid HBN.out.symm
      generalize bodyT p j = BJ at hown hlB HBN HBN2
      obtain ⟨BN, hBN⟩ : ∃ BN, BN = bodyT p (j + 1) := ⟨_, rfl⟩
      rw [← hBN] at HBN HBN2
      have HBE := Lib.hid hBN.symm
      clear hBN
      go_wp2_with fail
      refine RI.wp_facts (132) (W0) (fun w' => OwnX W0.heap.size w' (.slice ao mo ko) BJ) (fun w' => Blk w' wr.heap.size #[.string tg, .slice ea tm.length ec] 91) [fun X W' => ∃ q n c, X = .slice q n c ∧ OwnX W0.heap.size W' (.slice q n c) BJ, fun X _ => X = .pointer (some ⟨wr.heap.size, 0, none⟩), fun X _ => X = .string tg, fun X W' => ∃ q, X = .slice (some ⟨q, 0, none⟩) 2 2 ∧ Blk W' q #[.string tg, .string cEq] 9, fun X W' => ∃ q c, X = .slice q 2 c ∧ RdX W' (.slice q 2 c) [tg, cEq], fun X _ => X = .pointer (some ⟨wr.heap.size, 1, none⟩), fun X _ => X = .slice ea tm.length ec, fun X W' => ∃ q c, X = .slice q ET.length c ∧ RdX W' (.slice q ET.length c) ET, fun X W' => ∃ q, X = .slice (some ⟨q, 0, none⟩) 1 1 ∧ Blk W' q #[.string cSe] 9, fun X W' => ∃ q c, X = .slice q 1 c ∧ RdX W' (.slice q 1 c) [cSe], fun X W' => RdXs W' X [[tg, cEq], ET, [cSe]], fun X W' => ∃ q c, X = .slice q LT.length c ∧ RdX W' (.slice q LT.length c) LT, fun X W' => ∃ q c, X = .slice q BN.length c ∧ OwnX W0.heap.size W' (.slice q BN.length c) BN] [some 12, none, none, none, some 12, none, none, some 12, none, some 12, some 12, some 12, some 63] [false, false, false, false, false, false, false, false, false, false, false, false, true] (by kernel_rfl) (by kernel_rfl) (by kernel_rfl) (hN.alloc _) (hown.new ((New.refl _).alloc _)) (fun _ _ n h => h.new n) (Blk.alloc_at rfl) (fun _ _ n h => h.new n) (fun _ _ _ g h => g.blk _ _ _ h (by decide)) ⟨fun X w0 w1 hn ⟨a61, n61, c61, t61, o61⟩ => ⟨a61, n61, c61, t61, o61.new hn⟩, RG.stable_eq _, RG.stable_eq _, fun X w0 w1 hn ⟨q64, t64, k64⟩ => ⟨q64, t64, k64.new hn⟩, fun X w0 w1 hn ⟨a65, c65, t65, k65⟩ => ⟨a65, c65, t65, k65.new hn⟩, RG.stable_eq _, RG.stable_eq _, fun X w0 w1 hn ⟨a68, c68, t68, k68⟩ => ⟨a68, c68, t68, k68.new hn⟩, fun X w0 w1 hn ⟨q69, t69, k69⟩ => ⟨q69, t69, k69.new hn⟩, fun X w0 w1 hn ⟨a70, c70, t70, k70⟩ => ⟨a70, c70, t70, k70.new hn⟩, fun X w0 w1 hn k71 => k71.new hn, fun X w0 w1 hn ⟨a72, c72, t72, k72⟩ => ⟨a72, c72, t72, k72.new hn⟩, fun X w0 w1 hn ⟨a73, c73, t73, o73⟩ => ⟨a73, c73, t73, o73.new hn⟩, trivial⟩ ⟨RC.stable_eqG _ _ _, RC.stable_eqG _ _ _, fun X w0 w1 hw0 hn ⟨q64, t64, k64⟩ => ⟨q64, t64, hn.blk _ _ _ k64 (by decide)⟩, RC.stable_eqG _ _ _, RC.stable_eqG _ _ _, fun X w0 w1 hw0 hn ⟨q69, t69, k69⟩ => ⟨q69, t69, hn.blk _ _ _ k69 (by decide)⟩, trivial⟩ ?_ ?_
      · refine ⟨?_, ?_, ?_, ?_, ?_, ?_, ?_, ?_, ?_, ?_, ?_, ?_, ?_, trivial⟩
        · intro a w9 hw hi hj ho hk
          refine .inl ⟨by rfl, ?_⟩
          simp only [Bool.false_eq_true, if_false, if_true, eq_self_iff_true]
          have t2 := ho 3 rfl; dsimp at t2; have oJ := hj (by kernel_rfl); dsimp only at oJ; go_simp; first | exact ⟨New.refl _, _, rfl, _, _, _, rfl, oJ⟩ | exact ⟨New.refl _, _, _, _, by simp, oJ⟩
        · intro a w9 hw hi hj ho hk
          refine .inl ⟨by rfl, ?_⟩
          simp only [Bool.false_eq_true, if_false, if_true, eq_self_iff_true]
          have t2 := ho 5 rfl
          dsimp at t2
          try with_reducible replace hw := New.undrawN hw
          try with_reducible replace hw := New.undraw hw
          obtain ⟨c, f'⟩ := hw.rules
          go_simp
          exact New.refl _
        · intro a w9 hw hi hj ho hk
          refine .inl ⟨by rfl, ?_⟩
          simp only [Bool.false_eq_true, if_false, if_true, eq_self_iff_true]
          have t62 : a.tmps[62]?.getD undef = .pointer (some ⟨wr.heap.size, 0, none⟩) := hk 1 62 (by kernel_rfl) rfl
          obtain ⟨c9, f9⟩ := hi.rules; have l9 := hi.lt; go_simp; exact New.refl _
        · intro a w9 hw hi hj ho hk
          refine .inl ⟨by rfl, ?_⟩
          simp only [Bool.false_eq_true, if_false, if_true, eq_self_iff_true]
          have t63 : a.tmps[63]?.getD undef = .string tg := hk 2 63 (by kernel_rfl) rfl
          go_simp; first | exact ⟨(New.refl _).alloc _, _, rfl, _, rfl, Blk.alloc_at rfl⟩ | exact ⟨(New.refl _).alloc _, _, by simp, Blk.alloc_at rfl⟩
        · intro a w9 hw hi hj ho hk
          refine .inl ⟨by rfl, ?_⟩
          simp only [Bool.false_eq_true, if_false, if_true, eq_self_iff_true]
          obtain ⟨q64, t64, k64⟩ : ∃ q, (a.tmps[64]?.getD undef) = .slice (some ⟨q, 0, none⟩) 2 2 ∧ Blk w9 q #[.string tg, .string cEq] 9 := hk 3 64 (by kernel_rfl) rfl
          go_simp
          refine (iTokensOf_any _ [tg, cEq] _ (rdS_blk [tg, cEq] k64) (by simp)).mono ?_; rintro e w2 ⟨r, rfl, hb, o⟩
          obtain ⟨q, c, rfl⟩ := o.slice; exact ⟨hb, _, rfl, _, _, rfl, o.rd⟩
        · intro a w9 hw hi hj ho hk
          refine .inl ⟨by rfl, ?_⟩
          simp only [Bool.false_eq_true, if_false, if_true, eq_self_iff_true]
          have t2 := ho 5 rfl
          dsimp at t2
          try with_reducible replace hw := New.undrawN hw
          try with_reducible replace hw := New.undraw hw
          obtain ⟨c, f'⟩ := hw.rules
          go_simp
          exact New.refl _
        · intro a w9 hw hi hj ho hk
          refine .inl ⟨by rfl, ?_⟩
          simp only [Bool.false_eq_true, if_false, if_true, eq_self_iff_true]
          have t66 : a.tmps[66]?.getD undef = .pointer (some ⟨wr.heap.size, 1, none⟩) := hk 5 66 (by kernel_rfl) rfl
          obtain ⟨c9, f9⟩ := hi.rules; have l9 := hi.lt; go_simp; exact New.refl _
        · intro a w9 hw hi hj ho hk
          refine .inl ⟨by rfl, ?_⟩
          simp only [Bool.false_eq_true, if_false, if_true, eq_self_iff_true]
          have t67 : a.tmps[67]?.getD undef = .slice ea tm.length ec := hk 6 67 (by kernel_rfl) rfl
          go_simp
          refine (HE.out _ (NW0.trans hw)).mono ?_; rintro e w2 ⟨q, c, rfl, hb, o⟩
          first | exact ⟨hb, _, rfl, _, _, rfl, o⟩ | exact ⟨hb, _, _, by simp, o⟩
        · intro a w9 hw hi hj ho hk
          refine .inl ⟨by rfl, ?_⟩
          simp only [Bool.false_eq_true, if_false, if_true, eq_self_iff_true]
          go_simp; first | exact ⟨(New.refl _).alloc _, _, rfl, _, rfl, Blk.alloc_at rfl⟩ | exact ⟨(New.refl _).alloc _, _, by simp, Blk.alloc_at rfl⟩
        · intro a w9 hw hi hj ho hk
          refine .inl ⟨by rfl, ?_⟩
          simp only [Bool.false_eq_true, if_false, if_true, eq_self_iff_true]
          obtain ⟨q69, t69, k69⟩ : ∃ q, (a.tmps[69]?.getD undef) = .slice (some ⟨q, 0, none⟩) 1 1 ∧ Blk w9 q #[.string cSe] 9 := hk 8 69 (by kernel_rfl) rfl
          go_simp
          refine (iTokensOf_any _ [cSe] _ (rdS_blk [cSe] k69) (by simp)).mono ?_; rintro e w2 ⟨r, rfl, hb, o⟩
          obtain ⟨q, c, rfl⟩ := o.slice; exact ⟨hb, _, rfl, _, _, rfl, o.rd⟩
        · intro a w9 hw hi hj ho hk
          refine .inl ⟨by rfl, ?_⟩
          simp only [Bool.false_eq_true, if_false, if_true, eq_self_iff_true]
          obtain ⟨a65, c65, t65, k65⟩ : ∃ q c, (a.tmps[65]?.getD undef) = .slice q 2 c ∧ RdX w9 (.slice q 2 c) [tg, cEq] := hk 4 65 (by kernel_rfl) rfl
          obtain ⟨a68, c68, t68, k68⟩ : ∃ q c, (a.tmps[68]?.getD undef) = .slice q ET.length c ∧ RdX w9 (.slice q ET.length c) ET := hk 7 68 (by kernel_rfl) rfl
          obtain ⟨a70, c70, t70, k70⟩ : ∃ q c, (a.tmps[70]?.getD undef) = .slice q 1 c ∧ RdX w9 (.slice q 1 c) [cSe] := hk 9 70 (by kernel_rfl) rfl
          go_simp; first | exact ⟨(New.refl _).alloc _, _, rfl, rdXs_lay3 k65 k68 k70⟩ | exact ⟨(New.refl _).alloc _, rdXs_lay3 k65 k68 k70⟩
        · intro a w9 hw hi hj ho hk
          refine .inl ⟨by rfl, ?_⟩
          simp only [Bool.false_eq_true, if_false, if_true, eq_self_iff_true]
          obtain k71 : RdXs w9 (a.tmps[71]?.getD undef) [[tg, cEq], ET, [cSe]] := hk 10 71 (by kernel_rfl) rfl
          go_simp
          refine (concatX_any _ [[tg, cEq], ET, [cSe]] _ k71 (by intro x hx; simp only [List.mem_cons, List.not_mem_nil, or_false] at hx; rcases hx with rfl | rfl | rfl <;> first | (simp; done) | omega) (by simp)).mono ?_; rintro e w2 ⟨r, rfl, hb, o⟩
          obtain ⟨q, c, h9⟩ := o.slice; subst h9; rw [HLT.out] at o ⊢; first | exact ⟨hb, _, rfl, _, _, rfl, o.rd⟩ | exact ⟨hb, _, _, by simp, o.rd⟩
        · intro a w9 hw hi hj ho hk
          refine .inl ⟨by rfl, ?_⟩
          simp only [Bool.false_eq_true, if_false, if_true, eq_self_iff_true]
          obtain ⟨a61, n61, c61, t61, o61⟩ : ∃ q n c, (a.tmps[61]?.getD undef) = .slice q n c ∧ OwnX W0.heap.size w9 (.slice q n c) BJ := hk 0 61 (by kernel_rfl) rfl
          obtain ⟨a72, c72, t72, k72⟩ : ∃ q c, (a.tmps[72]?.getD undef) = .slice q LT.length c ∧ RdX w9 (.slice q LT.length c) LT := hk 11 72 (by kernel_rfl) rfl
          have hzw := hw.size; exact wp_append_XG _ _ rfl (W0.heap.size) _ (BJ) (by first | (simp [Act.eval, Act.get]; exact t61) | simp [Act.eval, t61]) (o61) _ (LT) (by first | (simp [Act.eval, Act.get]; exact t72) | simp [Act.eval, t72]) (k72) (by omega) hzw (fun v2 w2 h2 g2 => by rw [HBN2.out] at h2; obtain ⟨q, c, h9⟩ := h2.slice; subst h9; exact ⟨g2 _ (Nat.le_refl _), _, rfl, _, _, rfl, h2⟩)
      intro w7 b7 i7
      intro _ _
      rintro _ rfl
      rintro _ rfl
      rintro _ ⟨q64, rfl, k64⟩
      intro _ _
      rintro _ rfl
      rintro _ rfl
      intro _ _
      rintro _ ⟨q69, rfl, k69⟩
      intro _ _
      intro _ _
      intro _ _
      intro x73 h73; obtain ⟨a73, c73, rfl, o73⟩ := h73 (by simp)
      try with_reducible replace b7 := New.undrawN b7
      try with_reducible replace b7 := New.undraw b7
      obtain ⟨c7, f7⟩ := b7.rules
      have z7 := b7.size
      try simp only [World.size_alloc, World.size_drew, World.heap_drewN, World.size_setCell] at z7
      have z7_0 : w.heap.size < w7.heap.size := by omega
      simp only [RC.EndAll, List.nil_append, List.cons_append, List.length_cons, List.length_nil, Nat.zero_add, Nat.reduceAdd, List.take_succ_cons, List.take_zero, List.drop_succ_cons, List.drop_zero, putAll, RG.putAll, Act.put, List.setIfInBounds_toArray, List.set_cons_succ, List.set_cons_zero]
      go_wp2_with fail
      go_roundw
      case rel => exact ⟨j + 1, by omega, by go_num, b7, by rw [HBE.out]; exact o73⟩
      case measure => simp [intOf]; omega
    · obtain rfl : j = ps.length := by omega
      have HPT := Lib.hid (show bodyT p ps.length ++ [kwN 5, cSe] = progT p by rw [progT, ← HPL.out])
      generalize bodyT p ps.length = BJ at hown hlB HPT
      go_wp2_with fail
      refine (iTokensOf_any _ [kwN 5, cSe] _ (rdS_layB [kwN 5, cSe] _) (by simp)).mono ?_; rintro e w9 ⟨r9, rfl, b9, o9⟩
      obtain ⟨a9, k9, rfl⟩ := o9.slice
      obtain ⟨c9, f9⟩ := b9.rules
      have z9 := b9.size
      try simp only [World.size_alloc, World.size_drew, World.heap_drewN, World.size_setCell] at z9
      have z9_0 : w.heap.size < w9.heap.size := by omega
      go_wp2_with (first | (at_builtin; refine wpList_append_XK rfl _ _ rfl W0.heap.size _ _ rfl (hown.new (((New.refl _).alloc _).trans b9)) _ ([kwN 5, cSe]) rfl (o9.rd) (by first  |  (simp only [List.length_cons, List.length_nil, List.length_append] at *; omega)  |  omega) (by first  |  (simp; done)  |  (simp; omega)  |  omega) ?_; intro vaE waE hoE hgE hkE; have naE : New W0 waE := hgE _ (by exact (by repeat (first | with_reducible exact New.refl _ | with_reducible assumption | with_reducible refine New.drew ?_ | with_reducible refine New.drewN ?_ _ | with_reducible refine New.alloc ?_ _ | with_reducible refine New.setCell ?_ (by first | (simp; done) | (simp; omega) | omega) _ | with_reducible refine New.trans ?_ (by with_reducible assumption)))) (Nat.le_refl _); rw [HPT.out] at hoE; obtain ⟨aaE, mmE, kaE, rfl⟩ := hoE.sliceP; obtain ⟨caE, faE⟩ := (KW0.new naE).rules; have laE := (KW0.new naE).lt; have zaE := naE.size))
      go_ret
      exact ⟨_, rfl, NW0.trans naE, hoE.base NW0.size⟩
set_option maxHeartbeats 8000000 in
theorem iProgTokensG_any (p : ProgD) (iv vv ov lv : Value) (w : World) (hp : RdP w p iv vv ov lv) (hw : wB p = true) (hk : KW w) (hpw : PW w) (hv : p.vars = []) (hg : p.guard.toList.isEmpty = false) :
    Calls Tryz.prog 59 #[valP p iv vv ov lv] w (RetX w (progT p)) := by
  have hvi : ¬ (0 : Int) < (p.vars.length : Int) := by rw [hv]; simp
  have HV2 := Lib.hid (show varT p = [] by rw [varT, if_pos hv])
  have hgg : (p.guard.toList == []) = false := by rw [← hg]; cases p.guard.toList <;> rfl
  have HGT := Lib.hid (show guardT p = [kwN 4, p.guard, cSe] by rw [guardT, hg]; rfl)
  clear hv hg
  obtain ⟨_, _, _, _, _, n1, n2, n3, n4, hln⟩ := wB_parts hw
  have HK := Lib.hid hk
  have HPW := Lib.hid hpw
  have HP := Lib.hid hp
  have HLN := Lib.hid hln
  obtain ⟨h1, h2, h3, hl⟩ := hp
  obtain ⟨ia, ic, rfl, _⟩ := id h1
  obtain ⟨va, vc, rfl, _⟩ := id h2
  obtain ⟨oa, oc, rfl, _⟩ := id h3
  obtain ⟨ps, hps, hl1, hl2⟩ := hl
  obtain ⟨la, lc, rfl, hm, HC⟩ := Rd.flat encLV_len (by omega) hl1
  have HT := Lib.hid hl2
  have HPS := Lib.hid hps
  have HPL := Lib.hid (show p.lines.length = ps.length by rw [← hps, List.length_map])
  have hpl : ps.length ≤ 40 := by rw [← hps, List.length_map] at n4; exact n4
  have HHB := Lib.hid (fun k => (bodyT_facts hw k).2)
  clear h1 h2 h3 hl1 hl2 hps hk hpw hln hw n4
  obtain ⟨LX, hLX⟩ : ∃ LX, LX = [kwN 0, p.name, cSe, kwN 1] ++ p.inputs ++ [cSe] := ⟨_, rfl⟩
  have hlX : LX.length ≤ 30 := by rw [hLX]; simp only [List.length_append, List.length_cons, List.length_nil]; omega
  have HLX := Lib.hid hLX.symm
  obtain ⟨LV, hLV⟩ : ∃ LV, LV = LX ++ varT p := ⟨_, rfl⟩
  have hlVT : (varT p).length ≤ 22 := by
    rw [varT]; split
    · simp
    · simp only [List.length_append, List.length_cons, List.length_nil]; omega
  have hlV : LV.length ≤ 60 := by rw [hLV, List.length_append]; omega
  obtain ⟨OT, hOT⟩ : ∃ OT, OT = [kwN 3] ++ p.outputs ++ [cSe] := ⟨_, rfl⟩
  have hlOT : OT.length ≤ 22 := by rw [hOT]; simp only [List.length_append, List.length_cons, List.length_nil]; omega
  have HO3 := Lib.hid (show [[kwN 3], p.outputs, [cSe]].flatten = OT by rw [hOT]; simp)
  obtain ⟨LO, hLO⟩ : ∃ LO, LO = LV ++ OT := ⟨_, rfl⟩
  have hlO : LO.length ≤ 90 := by rw [hLO, List.length_append]; omega
  have HLO := Lib.hid hLO.symm
  have HB0 := Lib.hid (show LO ++ guardT p = bodyT p 0 by rw [hLO, hLV, hLX, hOT, bodyT, headT]; simp)
  have HLV := Lib.hid hLV.symm
  clear hLX hLV hOT hLO
  have KW0 : Blk (w.alloc (.cells #[.string p.name, .slice ia p.inputs.length ic, .slice va p.vars.length vc, .slice oa p.outputs.length oc, .string p.guard, .slice la ps.length lc] 48)) w.heap.size #[.string p.name, .slice ia p.inputs.length ic, .slice va p.vars.length vc, .slice oa p.outputs.length oc, .string p.guard, .slice la ps.length lc] 48 := Blk.alloc_at rfl
  have NW0 : New w (w.alloc (.cells #[.string p.name, .slice ia p.inputs.length ic, .slice va p.vars.length vc, .slice oa p.outputs.length oc, .string p.guard, .slice la ps.length lc] 48)) := by exact (by repeat (first | with_reducible exact New.refl _ | with_reducible assumption | with_reducible refine New.drew ?_ | with_reducible refine New.drewN ?_ _ | with_reducible refine New.alloc ?_ _ | with_reducible refine New.setCell ?_ (by first | (simp; done) | (simp; omega) | omega) _ | with_reducible refine New.trans ?_ (by with_reducible assumption)))
  have zW0 : w.heap.size < (w.alloc (.cells #[.string p.name, .slice ia p.inputs.length ic, .slice va p.vars.length vc, .slice oa p.outputs.length oc, .string p.guard, .slice la ps.length lc] 48)).heap.size := by simp
  go_enter Tryz.func59, Tryz.ntmps59
  go_wp2_with fail
  have eW0 := Lib.hid (show (w.alloc (.cells #[.string p.name, .slice ia p.inputs.length ic, .slice va p.vars.length vc, .slice oa p.outputs.length oc, .string p.guard, .slice la ps.length lc] 48)).heap.size = w.heap.size + 1 by simp)
  generalize (w.alloc (.cells #[.string p.name, .slice ia p.inputs.length ic, .slice va p.vars.length vc, .slice oa p.outputs.length oc, .string p.guard, .slice la ps.length lc] 48)) = W0 at KW0 NW0 zW0 eW0 ⊢
  have HS1 := Lib.hid (HP.out.ins.new NW0)
  have HS2 := Lib.hid (HP.out.vars.new NW0)
  have HS3 := Lib.hid (HP.out.outs.new NW0)
  obtain ⟨c0, f0⟩ := KW0.rules
  refine (iTokensOf_any _ [kwN 0, p.name, cSe, kwN 1] _ (rdS_layB [kwN 0, p.name, cSe, kwN 1] _ (by have := eW0.out; omega)) (by simp)).mono ?_; rintro e w1 ⟨r1, rfl, b1, o1⟩
  obtain ⟨a1, k1, rfl⟩ := o1.slice; replace o1 := o1.base (b' := W0.heap.size) (by first | (simp; done) | (simp; omega))
  obtain ⟨c1, f1⟩ := b1.rules
  have z1 := b1.size
  try simp only [World.size_alloc, World.size_drew, World.heap_drewN, World.size_setCell] at z1
  have z1_0 : w.heap.size < w1.heap.size := by omega
  go_wp2_with fail
  have nn1 : New W0 w1 := by exact (by repeat (first | with_reducible exact New.refl _ | with_reducible assumption | with_reducible refine New.drew ?_ | with_reducible refine New.drewN ?_ _ | with_reducible refine New.alloc ?_ _ | with_reducible refine New.setCell ?_ (by first | (simp; done) | (simp; omega) | omega) _ | with_reducible refine New.trans ?_ (by with_reducible assumption)))
  refine (iTokensOf_any _ p.inputs _ (Rd.new HS1.out nn1) (by omega)).mono ?_; rintro e w2 ⟨r2, rfl, b2, o2⟩
  obtain ⟨a2, k2, rfl⟩ := o2.slice
  obtain ⟨c2, f2⟩ := b2.rules
  have z2 := b2.size
  try simp only [World.size_alloc, World.size_drew, World.heap_drewN, World.size_setCell] at z2
  have z2_0 : w.heap.size < w2.heap.size := by omega
  go_wp2_with (first | (at_builtin; refine wpList_append_XK rfl _ _ rfl W0.heap.size _ _ rfl (o1.new b2) _ (p.inputs) rfl (o2.rd) (by first  |  (simp only [List.length_cons, List.length_nil, List.length_append] at *; omega)  |  omega) (by first  |  (simp; done)  |  (simp; omega)  |  omega) ?_; intro vaA waA hoA hgA hkA; have naA : New W0 waA := hgA _ (by exact (by repeat (first | with_reducible exact New.refl _ | with_reducible assumption | with_reducible refine New.drew ?_ | with_reducible refine New.drewN ?_ _ | with_reducible refine New.alloc ?_ _ | with_reducible refine New.setCell ?_ (by first | (simp; done) | (simp; omega) | omega) _ | with_reducible refine New.trans ?_ (by with_reducible assumption)))) (Nat.le_refl _); obtain ⟨aaA, mmA, kaA, rfl⟩ := hoA.sliceP; obtain ⟨caA, faA⟩ := (KW0.new naA).rules; have laA := (KW0.new naA).lt; have zaA := naA.size))
  refine (iTokensOf_any _ [cSe] _ (rdS_layB [cSe] _) (by simp)).mono ?_; rintro e w3 ⟨r3, rfl, b3, o3⟩
  obtain ⟨a3, k3, rfl⟩ := o3.slice
  obtain ⟨c3, f3⟩ := b3.rules
  have z3 := b3.size
  try simp only [World.size_alloc, World.size_drew, World.heap_drewN, World.size_setCell] at z3
  have z3_0 : w.heap.size < w3.heap.size := by omega
  go_wp2_with (first | (at_builtin; refine wpList_append_XK rfl _ _ rfl W0.heap.size _ _ rfl (hoA.new (((New.refl _).alloc _).trans b3)) _ ([cSe]) rfl (o3.rd) (by first  |  (simp only [List.length_cons, List.length_nil, List.length_append] at *; omega)  |  omega) (by first  |  (simp; done)  |  (simp; omega)  |  omega) ?_; intro vaB waB hoB hgB hkB; have naB : New W0 waB := hgB _ (by exact (by repeat (first | with_reducible exact New.refl _ | with_reducible assumption | with_reducible refine New.drew ?_ | with_reducible refine New.drewN ?_ _ | with_reducible refine New.alloc ?_ _ | with_reducible refine New.setCell ?_ (by first | (simp; done) | (simp; omega) | omega) _ | with_reducible refine New.trans ?_ (by with_reducible assumption)))) (Nat.le_refl _); rw [HLX.out] at hoB; obtain ⟨aaB, mmB, kaB, rfl⟩ := hoB.sliceP; obtain ⟨caB, faB⟩ := (KW0.new naB).rules; have laB := (KW0.new naB).lt; have zaB := naB.size))
  rw [HGT.out] at HB0
  generalize varT p = VT at HV2 HLV hlVT
  have HLV2 := Lib.hid (show LX = LV by have := HLV.out; rw [HV2.out] at this; simpa using this)
  rw [HLV2.out] at hoB
  refine RC.wp_facts (132) (W0) (fun w' => OwnX W0.heap.size w' (.slice aaB mmB kaB) LV) [fun X W' => ∃ q n c, X = .slice q n c ∧ OwnX W0.heap.size W' (.slice q n c) LV, fun X W' => ∃ q, X = .slice (some ⟨q, 0, none⟩) 1 1 ∧ Blk W' q #[.string (kwN 3)] 9, fun X W' => ∃ q c, X = .slice q 1 c ∧ RdX W' (.slice q 1 c) [kwN 3], fun X _ => X = .pointer (some ⟨w.heap.size, 3, none⟩), fun X _ => X = .slice oa p.outputs.length oc, fun X W' => ∃ q c, X = .slice q p.outputs.length c ∧ RdX W' (.slice q p.outputs.length c) p.outputs, fun X W' => ∃ q, X = .slice (some ⟨q, 0, none⟩) 1 1 ∧ Blk W' q #[.string cSe] 9, fun X W' => ∃ q c, X = .slice q 1 c ∧ RdX W' (.slice q 1 c) [cSe], fun X W' => RdXs W' X [[kwN 3], p.outputs, [cSe]], fun X W' => ∃ q c, X = .slice q OT.length c ∧ RdX W' (.slice q OT.length c) OT, fun X W' => ∃ q c, X = .slice q LO.length c ∧ OwnX W0.heap.size W' (.slice q LO.length c) LO] [some 10, none, some 10, none, none, some 10, none, some 10, some 10, some 10, some 61] [false, false, false, false, false, false, false, false, false, false, true] (by kernel_rfl) (by kernel_rfl) (by kernel_rfl) (naB) (hoB) (fun _ _ n h => h.new n) ⟨fun X w0 w1 hn ⟨a34, n34, c34, t34, o34⟩ => ⟨a34, n34, c34, t34, o34.new hn⟩, fun X w0 w1 hn ⟨q35, t35, k35⟩ => ⟨q35, t35, k35.new hn⟩, fun X w0 w1 hn ⟨a36, c36, t36, k36⟩ => ⟨a36, c36, t36, k36.new hn⟩, RG.stable_eq _, RG.stable_eq _, fun X w0 w1 hn ⟨a39, c39, t39, k39⟩ => ⟨a39, c39, t39, k39.new hn⟩, fun X w0 w1 hn ⟨q40, t40, k40⟩ => ⟨q40, t40, k40.new hn⟩, fun X w0 w1 hn ⟨a41, c41, t41, k41⟩ => ⟨a41, c41, t41, k41.new hn⟩, fun X w0 w1 hn k42 => k42.new hn, fun X w0 w1 hn ⟨a43, c43, t43, k43⟩ => ⟨a43, c43, t43, k43.new hn⟩, fun X w0 w1 hn ⟨a44, c44, t44, o44⟩ => ⟨a44, c44, t44, o44.new hn⟩, trivial⟩ ⟨fun X w0 w1 hw0 hn ⟨q35, t35, k35⟩ => ⟨q35, t35, hn.blk _ _ _ k35 (by decide)⟩, RC.stable_eqG _ _ _, RC.stable_eqG _ _ _, fun X w0 w1 hw0 hn ⟨q40, t40, k40⟩ => ⟨q40, t40, hn.blk _ _ _ k40 (by decide)⟩, trivial⟩ ?_ ?_
  · refine ⟨?_, ?_, ?_, ?_, ?_, ?_, ?_, ?_, ?_, ?_, ?_, trivial⟩
    · intro a w9 hw hj ho hk
      refine .inl ⟨by rfl, ?_⟩
      simp only [Bool.false_eq_true, if_false, if_true, eq_self_iff_true]
      have t2 := ho 3 rfl; dsimp at t2; have oJ := hj (by kernel_rfl); dsimp only at oJ; go_simp; first | exact ⟨New.refl _, _, rfl, _, _, _, rfl, oJ⟩ | exact ⟨New.refl _, _, _, _, by simp, oJ⟩
    · intro a w9 hw hj ho hk
      refine .inl ⟨by rfl, ?_⟩
      simp only [Bool.false_eq_true, if_false, if_true, eq_self_iff_true]
      go_simp; first | exact ⟨(New.refl _).alloc _, _, rfl, _, rfl, Blk.alloc_at rfl⟩ | exact ⟨(New.refl _).alloc _, _, by simp, Blk.alloc_at rfl⟩
    · intro a w9 hw hj ho hk
      refine .inl ⟨by rfl, ?_⟩
      simp only [Bool.false_eq_true, if_false, if_true, eq_self_iff_true]
      obtain ⟨q35, t35, k35⟩ : ∃ q, (a.tmps[35]?.getD undef) = .slice (some ⟨q, 0, none⟩) 1 1 ∧ Blk w9 q #[.string (kwN 3)] 9 := hk 1 35 (by kernel_rfl) rfl
      go_simp
      refine (iTokensOf_any _ [kwN 3] _ (rdS_blk [kwN 3] k35) (by simp)).mono ?_; rintro e w2 ⟨r, rfl, hb, o⟩
      obtain ⟨q, c, rfl⟩ := o.slice; exact ⟨hb, _, rfl, _, _, rfl, o.rd⟩
    · intro a w9 hw hj ho hk
      refine .inl ⟨by rfl, ?_⟩
      simp only [Bool.false_eq_true, if_false, if_true, eq_self_iff_true]
      have t2 := ho 1 rfl
      dsimp at t2
      try with_reducible replace hw := New.undrawN hw
      try with_reducible replace hw := New.undraw hw
      obtain ⟨c, f'⟩ := hw.rules
      go_simp
      exact New.refl _
    · intro a w9 hw hj ho hk
      refine .inl ⟨by rfl, ?_⟩
      simp only [Bool.false_eq_true, if_false, if_true, eq_self_iff_true]
      have t37 : a.tmps[37]?.getD undef = .pointer (some ⟨w.heap.size, 3, none⟩) := hk 3 37 (by kernel_rfl) rfl
      try with_reducible replace hw := New.undrawN hw
      try with_reducible replace hw := New.undraw hw
      obtain ⟨c, f'⟩ := hw.rules
      go_simp
      exact New.refl _
    · intro a w9 hw hj ho hk
      refine .inl ⟨by rfl, ?_⟩
      simp only [Bool.false_eq_true, if_false, if_true, eq_self_iff_true]
      have t38 : a.tmps[38]?.getD undef = .slice oa p.outputs.length oc := hk 4 38 (by kernel_rfl) rfl
      go_simp
      refine (iTokensOf_any _ p.outputs _ (HS3.out.new hw) (by omega)).mono ?_; rintro e w2 ⟨r, rfl, hb, o⟩
      obtain ⟨q, c, rfl⟩ := o.slice; exact ⟨hb, _, rfl, _, _, rfl, o.rd⟩
    · intro a w9 hw hj ho hk
      refine .inl ⟨by rfl, ?_⟩
      simp only [Bool.false_eq_true, if_false, if_true, eq_self_iff_true]
      go_simp; first | exact ⟨(New.refl _).alloc _, _, rfl, _, rfl, Blk.alloc_at rfl⟩ | exact ⟨(New.refl _).alloc _, _, by simp, Blk.alloc_at rfl⟩
    · intro a w9 hw hj ho hk
      refine .inl ⟨by rfl, ?_⟩
      simp only [Bool.false_eq_true, if_false, if_true, eq_self_iff_true]
      obtain ⟨q40, t40, k40⟩ : ∃ q, (a.tmps[40]?.getD undef) = .slice (some ⟨q, 0, none⟩) 1 1 ∧ Blk w9 q #[.string cSe] 9 := hk 6 40 (by kernel_rfl) rfl
      go_simp
      refine (iTokensOf_any _ [cSe] _ (rdS_blk [cSe] k40) (by simp)).mono ?_; rintro e w2 ⟨r, rfl, hb, o⟩
      obtain ⟨q, c, rfl⟩ := o.slice; exact ⟨hb, _, rfl, _, _, rfl, o.rd⟩
    · intro a w9 hw hj ho hk
      refine .inl ⟨by rfl, ?_⟩
      simp only [Bool.false_eq_true, if_false, if_true, eq_self_iff_true]
      obtain ⟨a36, c36, t36, k36⟩ : ∃ q c, (a.tmps[36]?.getD undef) = .slice q 1 c ∧ RdX w9 (.slice q 1 c) [kwN 3] := hk 2 36 (by kernel_rfl) rfl
      obtain ⟨a39, c39, t39, k39⟩ : ∃ q c, (a.tmps[39]?.getD undef) = .slice q p.outputs.length c ∧ RdX w9 (.slice q p.outputs.length c) p.outputs := hk 5 39 (by kernel_rfl) rfl
      obtain ⟨a41, c41, t41, k41⟩ : ∃ q c, (a.tmps[41]?.getD undef) = .slice q 1 c ∧ RdX w9 (.slice q 1 c) [cSe] := hk 7 41 (by kernel_rfl) rfl
      go_simp; first | exact ⟨(New.refl _).alloc _, _, rfl, rdXs_lay3 k36 k39 k41⟩ | exact ⟨(New.refl _).alloc _, rdXs_lay3 k36 k39 k41⟩
    · intro a w9 hw hj ho hk
      refine .inl ⟨by rfl, ?_⟩
      simp only [Bool.false_eq_true, if_false, if_true, eq_self_iff_true]
      obtain k42 : RdXs w9 (a.tmps[42]?.getD undef) [[kwN 3], p.outputs, [cSe]] := hk 8 42 (by kernel_rfl) rfl
      go_simp
      refine (concatX_any _ [[kwN 3], p.outputs, [cSe]] _ k42 (by intro x hx; simp only [List.mem_cons, List.not_mem_nil, or_false] at hx; rcases hx with rfl | rfl | rfl <;> first | (simp; done) | omega) (by simp)).mono ?_; rintro e w2 ⟨r, rfl, hb, o⟩
      obtain ⟨q, c, h9⟩ := o.slice; subst h9; rw [HO3.out] at o ⊢; first | exact ⟨hb, _, rfl, _, _, rfl, o.rd⟩ | exact ⟨hb, _, _, by simp, o.rd⟩
    · intro a w9 hw hj ho hk
      refine .inl ⟨by rfl, ?_⟩
      simp only [Bool.false_eq_true, if_false, if_true, eq_self_iff_true]
      obtain ⟨a34, n34, c34, t34, o34⟩ : ∃ q n c, (a.tmps[34]?.getD undef) = .slice q n c ∧ OwnX W0.heap.size w9 (.slice q n c) LV := hk 0 34 (by kernel_rfl) rfl
      obtain ⟨a43, c43, t43, k43⟩ : ∃ q c, (a.tmps[43]?.getD undef) = .slice q OT.length c ∧ RdX w9 (.slice q OT.length c) OT := hk 9 43 (by kernel_rfl) rfl
      have hzw := hw.size; exact wp_append_XG _ _ rfl (W0.heap.size) _ (LV) (by first | (simp [Act.eval, Act.get]; exact t34) | simp [Act.eval, t34]) (o34) _ (OT) (by first | (simp [Act.eval, Act.get]; exact t43) | simp [Act.eval, t43]) (k43) (by omega) hzw (fun v2 w2 h2 g2 => by rw [HLO.out] at h2; obtain ⟨q, c, h9⟩ := h2.slice; subst h9; exact ⟨g2 _ (Nat.le_refl _), _, rfl, _, _, rfl, h2⟩)
  intro w6 b6
  intro _ _
  rintro _ ⟨q35, rfl, k35⟩
  intro _ _
  rintro _ rfl
  rintro _ rfl
  intro _ _
  rintro _ ⟨q40, rfl, k40⟩
  intro _ _
  intro _ _
  intro _ _
  intro x44 h44; obtain ⟨a44, c44, rfl, o44⟩ := h44 (by simp)
  try with_reducible replace b6 := New.undrawN b6
  try with_reducible replace b6 := New.undraw b6
  obtain ⟨c6, f6⟩ := b6.rules
  have z6 := b6.size
  try simp only [World.size_alloc, World.size_drew, World.heap_drewN, World.size_setCell] at z6
  have z6_0 : w.heap.size < w6.heap.size := by omega
  simp only [RC.EndAll, List.nil_append, List.cons_append, List.length_cons, List.length_nil, Nat.zero_add, Nat.reduceAdd, List.take_succ_cons, List.take_zero, List.drop_succ_cons, List.drop_zero, putAll, RG.putAll, Act.put, List.setIfInBounds_toArray, List.set_cons_succ, List.set_cons_zero]
  have lD := (KW0.new b6).lt
  go_wp2_with fail
  refine (iTokensOf_any _ [kwN 4, p.guard, cSe] _ (rdS_layB [kwN 4, p.guard, cSe] _) (by simp)).mono ?_; rintro e w8 ⟨r8, rfl, b8, o8⟩
  obtain ⟨a8, k8, rfl⟩ := o8.slice
  obtain ⟨c8, f8⟩ := b8.rules
  have z8 := b8.size
  try simp only [World.size_alloc, World.size_drew, World.heap_drewN, World.size_setCell] at z8
  have z8_0 : w.heap.size < w8.heap.size := by omega
  go_wp2_with (first | (at_builtin; refine wpList_append_XK rfl _ _ rfl W0.heap.size _ _ rfl (o44.new (((New.refl _).alloc _).trans b8)) _ ([kwN 4, p.guard, cSe]) rfl (o8.rd) (by first  |  (simp only [List.length_cons, List.length_nil, List.length_append] at *; omega)  |  omega) (by first  |  (simp; done)  |  (simp; omega)  |  omega) ?_; intro vaG waG hoG hgG hkG; have naG : New W0 waG := hgG _ (by exact (by repeat (first | with_reducible exact New.refl _ | with_reducible assumption | with_reducible refine New.drew ?_ | with_reducible refine New.drewN ?_ _ | with_reducible refine New.alloc ?_ _ | with_reducible refine New.setCell ?_ (by first | (simp; done) | (simp; omega) | omega) _ | with_reducible refine New.trans ?_ (by with_reducible assumption)))) (Nat.le_refl _); rw [HB0.out] at hoG; obtain ⟨aaG, mmG, kaG, rfl⟩ := hoG.sliceP; obtain ⟨caG, faG⟩ := (KW0.new naG).rules; have laG := (KW0.new naG).lt; have zaG := naG.size))
  go_loopw [3, 57] (fun o i wr => ∃ j : Nat, j ≤ ps.length ∧ i = .int .i64 j ∧ New W0 wr ∧ OwnX W0.heap.size wr o (bodyT p j)) (fun _ i _ => ps.length - (intOf i).toNat)
  case atStart => exact ⟨0, Nat.zero_le _, rfl, naG, hoG⟩
  case round =>
    obtain ⟨j, hj, rfl, hN, hown⟩ := hrel
    have hNz := hN.size
    have hNw := NW0.trans hN
    have hlB := HHB.out j
    obtain ⟨ao, mo, ko, rfl⟩ := hown.sliceP
    by_cases hlt : j < ps.length
    · obtain ⟨b, off, rfl, hbl, hx⟩ := HC.out j hlt
      have x0 : wr.cell? ⟨b, off + j * 2, none⟩ = some (.string ps[j].1.target) := (hNw.cell hbl).trans (hx 0 _ (by omega) rfl)
      have x1 : wr.cell? ⟨b, off + j * 2 + 1, none⟩ = some ps[j].2 := (hNw.cell hbl).trans (hx 1 _ (by omega) rfl)
      clear hx
      have hbr : b < wr.heap.size := by have := hNw.size; omega
      obtain ⟨hlp, hle⟩ := lines_of HPS.out hlt
      have hrt := HT.out ps[j] (List.getElem_mem hlt)
      obtain ⟨ea, ec, hev, _⟩ := id hrt
      rw [hev] at x1 hrt
      clear hev
      obtain ⟨hl1, hl2⟩ := HLN.out ps[j].1 (by rw [← hle]; exact List.getElem_mem hlp)
      obtain ⟨he1, he2, _⟩ := exprT_facts hl2
      have hlT := (lineT_facts hl1 hl2).2
      have HBN := Lib.hid (show bodyT p (j + 1) = bodyT p j ++ lineT ps[j].1 by rw [bodyT_next hlp, hle])
      have HLT := Lib.hid (show [[ps[j].1.target, cEq], exprT ps[j].1.terms, [cSe]].flatten = lineT ps[j].1 by simp [lineT])
      have HE := Lib.hid (fun (w0 : World) (h : New w w0) => iExprTokens_any (.slice ea ps[j].1.terms.length ec) ps[j].1.terms w0 (HK.out.new h) (HPW.out.new h) (Rd.new hrt h) hl2)
      clear hle hl1 hl2 hrt he2
      generalize lineT ps[j].1 = LT at hlT HBN HLT
      generalize exprT ps[j].1.terms = ET at he1 HLT HE
      generalize ps[j].1.terms = tm at x1 HE
      generalize ps[j].1.target = tg at x0 HLT
      have HBN2 := Lib.hid HBN.out.symm
      generalize bodyT p j = BJ at hown hlB HBN HBN2
      obtain ⟨BN, hBN⟩ : ∃ BN, BN = bodyT p (j + 1) := ⟨_, rfl⟩
      rw [← hBN] at HBN HBN2
      have HBE := Lib.hid hBN.symm
      clear hBN
      go_wp2_with fail
      refine RI.wp_facts (132) (W0) (fun w' => OwnX W0.heap.size w' (.slice ao mo ko) BJ) (fun w' => Blk w' wr.heap.size #[.string tg, .slice ea tm.length ec] 91) [fun X W' => ∃ q n c, X = .slice q n c ∧ OwnX W0.heap.size W' (.slice q n c) BJ, fun X _ => X = .pointer (some ⟨wr.heap.size, 0, none⟩), fun X _ => X = .string tg, fun X W' => ∃ q, X = .slice (some ⟨q, 0, none⟩) 2 2 ∧ Blk W' q #[.string tg, .string cEq] 9, fun X W' => ∃ q c, X = .slice q 2 c ∧ RdX W' (.slice q 2 c) [tg, cEq], fun X _ => X = .pointer (some ⟨wr.heap.size, 1, none⟩), fun X _ => X = .slice ea tm.length ec, fun X W' => ∃ q c, X = .slice q ET.length c ∧ RdX W' (.slice q ET.length c) ET, fun X W' => ∃ q, X = .slice (some ⟨q, 0, none⟩) 1 1 ∧ Blk W' q #[.string cSe] 9, fun X W' => ∃ q c, X = .slice q 1 c ∧ RdX W' (.slice q 1 c) [cSe], fun X W' => RdXs W' X [[tg, cEq], ET, [cSe]], fun X W' => ∃ q c, X = .slice q LT.length c ∧ RdX W' (.slice q LT.length c) LT, fun X W' => ∃ q c, X = .slice q BN.length c ∧ OwnX W0.heap.size W' (.slice q BN.length c) BN] [some 12, none, none, none, some 12, none, none, some 12, none, some 12, some 12, some 12, some 63] [false, false, false, false, false, false, false, false, false, false, false, false, true] (by kernel_rfl) (by kernel_rfl) (by kernel_rfl) (hN.alloc _) (hown.new ((New.refl _).alloc _)) (fun _ _ n h => h.new n) (Blk.alloc_at rfl) (fun _ _ n h => h.new n) (fun _ _ _ g h => g.blk _ _ _ h (by decide)) ⟨fun X w0 w1 hn ⟨a61, n61, c61, t61, o61⟩ => ⟨a61, n61, c61, t61, o61.new hn⟩, RG.stable_eq _, RG.stable_eq _, fun X w0 w1 hn ⟨q64, t64, k64⟩ => ⟨q64, t64, k64.new hn⟩, fun X w0 w1 hn ⟨a65, c65, t65, k65⟩ => ⟨a65, c65, t65, k65.new hn⟩, RG.stable_eq _, RG.stable_eq _, fun X w0 w1 hn ⟨a68, c68, t68, k68⟩ => ⟨a68, c68, t68, k68.new hn⟩, fun X w0 w1 hn ⟨q69, t69, k69⟩ => ⟨q69, t69, k69.new hn⟩, fun X w0 w1 hn ⟨a70, c70, t70, k70⟩ => ⟨a70, c70, t70, k70.new hn⟩, fun X w0 w1 hn k71 => k71.new hn, fun X w0 w1 hn ⟨a72, c72, t72, k72⟩ => ⟨a72, c72, t72, k72.new hn⟩, fun X w0 w1 hn ⟨a73, c73, t73, o73⟩ => ⟨a73, c73, t73, o73.new hn⟩, trivial⟩ ⟨RC.stable_eqG _ _ _, RC.stable_eqG _ _ _, fun X w0 w1 hw0 hn ⟨q64, t64, k64⟩ => ⟨q64, t64, hn.blk _ _ _ k64 (by decide)⟩, RC.stable_eqG _ _ _, RC.stable_eqG _ _ _, fun X w0 w1 hw0 hn ⟨q69, t69, k69⟩ => ⟨q69, t69, hn.blk _ _ _ k69 (by decide)⟩, trivial⟩ ?_ ?_
      · refine ⟨?_, ?_, ?_, ?_, ?_, ?_, ?_, ?_, ?_, ?_, ?_, ?_, ?_, trivial⟩
        · intro a w9 hw hi hj ho hk
          refine .inl ⟨by rfl, ?_⟩
          simp only [Bool.false_eq_true, if_false, if_true, eq_self_iff_true]
          have t2 := ho 3 rfl; dsimp at t2; have oJ := hj (by kernel_rfl); dsimp only at oJ; go_simp; first | exact ⟨New.refl _, _, rfl, _, _, _, rfl, oJ⟩ | exact ⟨New.refl _, _, _, _, by simp, oJ⟩
        · intro a w9 hw hi hj ho hk
          refine .inl ⟨by rfl, ?_⟩
          simp only [Bool.false_eq_true, if_false, if_true, eq_self_iff_true]
          have t2 := ho 5 rfl
          dsimp at t2
          try with_reducible replace hw := New.undrawN hw
          try with_reducible replace hw := New.undraw hw
          obtain ⟨c, f'⟩ := hw.rules
          go_simp
          exact New.refl _
        · intro a w9 hw hi hj ho hk
          refine .inl ⟨by rfl, ?_⟩
          simp only [Bool.false_eq_true, if_false, if_true, eq_self_iff_true]
          have t62 : a.tmps[62]?.getD undef = .pointer (some ⟨wr.heap.size, 0, none⟩) := hk 1 62 (by kernel_rfl) rfl
          obtain ⟨c9, f9⟩ := hi.rules; have l9 := hi.lt; go_simp; exact New.refl _
        · intro a w9 hw hi hj ho hk
          refine .inl ⟨by rfl, ?_⟩
          simp only [Bool.false_eq_true, if_false, if_true, eq_self_iff_true]
          have t63 : a.tmps[63]?.getD undef = .string tg := hk 2 63 (by kernel_rfl) rfl
          go_simp; first | exact ⟨(New.refl _).alloc _, _, rfl, _, rfl, Blk.alloc_at rfl⟩ | exact ⟨(New.refl _).alloc _, _, by simp, Blk.alloc_at rfl⟩
        · intro a w9 hw hi hj ho hk
          refine .inl ⟨by rfl, ?_⟩
          simp only [Bool.false_eq_true, if_false, if_true, eq_self_iff_true]
          obtain ⟨q64, t64, k64⟩ : ∃ q, (a.tmps[64]?.getD undef) = .slice (some ⟨q, 0, none⟩) 2 2 ∧ Blk w9 q #[.string tg, .string cEq] 9 := hk 3 64 (by kernel_rfl) rfl
          go_simp
          refine (iTokensOf_any _ [tg, cEq] _ (rdS_blk [tg, cEq] k64) (by simp)).mono ?_; rintro e w2 ⟨r, rfl, hb, o⟩
          obtain ⟨q, c, rfl⟩ := o.slice; exact ⟨hb, _, rfl, _, _, rfl, o.rd⟩
        · intro a w9 hw hi hj ho hk
          refine .inl ⟨by rfl, ?_⟩
          simp only [Bool.false_eq_true, if_false, if_true, eq_self_iff_true]
          have t2 := ho 5 rfl
          dsimp at t2
          try with_reducible replace hw := New.undrawN hw
          try with_reducible replace hw := New.undraw hw
          obtain ⟨c, f'⟩ := hw.rules
          go_simp
          exact New.refl _
        · intro a w9 hw hi hj ho hk
          refine .inl ⟨by rfl, ?_⟩
          simp only [Bool.false_eq_true, if_false, if_true, eq_self_iff_true]
          have t66 : a.tmps[66]?.getD undef = .pointer (some ⟨wr.heap.size, 1, none⟩) := hk 5 66 (by kernel_rfl) rfl
          obtain ⟨c9, f9⟩ := hi.rules; have l9 := hi.lt; go_simp; exact New.refl _
        · intro a w9 hw hi hj ho hk
          refine .inl ⟨by rfl, ?_⟩
          simp only [Bool.false_eq_true, if_false, if_true, eq_self_iff_true]
          have t67 : a.tmps[67]?.getD undef = .slice ea tm.length ec := hk 6 67 (by kernel_rfl) rfl
          go_simp
          refine (HE.out _ (NW0.trans hw)).mono ?_; rintro e w2 ⟨q, c, rfl, hb, o⟩
          first | exact ⟨hb, _, rfl, _, _, rfl, o⟩ | exact ⟨hb, _, _, by simp, o⟩
        · intro a w9 hw hi hj ho hk
          refine .inl ⟨by rfl, ?_⟩
          simp only [Bool.false_eq_true, if_false, if_true, eq_self_iff_true]
          go_simp; first | exact ⟨(New.refl _).alloc _, _, rfl, _, rfl, Blk.alloc_at rfl⟩ | exact ⟨(New.refl _).alloc _, _, by simp, Blk.alloc_at rfl⟩
        · intro a w9 hw hi hj ho hk
          refine .inl ⟨by rfl, ?_⟩
          simp only [Bool.false_eq_true, if_false, if_true, eq_self_iff_true]
          obtain ⟨q69, t69, k69⟩ : ∃ q, (a.tmps[69]?.getD undef) = .slice (some ⟨q, 0, none⟩) 1 1 ∧ Blk w9 q #[.string cSe] 9 := hk 8 69 (by kernel_rfl) rfl
          go_simp
          refine (iTokensOf_any _ [cSe] _ (rdS_blk [cSe] k69) (by simp)).mono ?_; rintro e w2 ⟨r, rfl, hb, o⟩
          obtain ⟨q, c, rfl⟩ := o.slice; exact ⟨hb, _, rfl, _, _, rfl, o.rd⟩
        · intro a w9 hw hi hj ho hk
          refine .inl ⟨by rfl, ?_⟩
          simp only [Bool.false_eq_true, if_false, if_true, eq_self_iff_true]
          obtain ⟨a65, c65, t65, k65⟩ : ∃ q c, (a.tmps[65]?.getD undef) = .slice q 2 c ∧ RdX w9 (.slice q 2 c) [tg, cEq] := hk 4 65 (by kernel_rfl) rfl
          obtain ⟨a68, c68, t68, k68⟩ : ∃ q c, (a.tmps[68]?.getD undef) = .slice q ET.length c ∧ RdX w9 (.slice q ET.length c) ET := hk 7 68 (by kernel_rfl) rfl
          obtain ⟨a70, c70, t70, k70⟩ : ∃ q c, (a.tmps[70]?.getD undef) = .slice q 1 c ∧ RdX w9 (.slice q 1 c) [cSe] := hk 9 70 (by kernel_rfl) rfl
          go_simp; first | exact ⟨(New.refl _).alloc _, _, rfl, rdXs_lay3 k65 k68 k70⟩ | exact ⟨(New.refl _).alloc _, rdXs_lay3 k65 k68 k70⟩
        · intro a w9 hw hi hj ho hk
          refine .inl ⟨by rfl, ?_⟩
          simp only [Bool.false_eq_true, if_false, if_true, eq_self_iff_true]
          obtain k71 : RdXs w9 (a.tmps[71]?.getD undef) [[tg, cEq], ET, [cSe]] := hk 10 71 (by kernel_rfl) rfl
          go_simp
          refine (concatX_any _ [[tg, cEq], ET, [cSe]] _ k71 (by intro x hx; simp only [List.mem_cons, List.not_mem_nil, or_false] at hx; rcases hx with rfl | rfl | rfl <;> first | (simp; done) | omega) (by simp)).mono ?_; rintro e w2 ⟨r, rfl, hb, o⟩
          obtain ⟨q, c, h9⟩ := o.slice; subst h9; rw [HLT.out] at o ⊢; first | exact ⟨hb, _, rfl, _, _, rfl, o.rd⟩ | exact ⟨hb, _, _, by simp, o.rd⟩
        · intro a w9 hw hi hj ho hk
          refine .inl ⟨by rfl, ?_⟩
          simp only [Bool.false_eq_true, if_false, if_true, eq_self_iff_true]
          obtain ⟨a61, n61, c61, t61, o61⟩ : ∃ q n c, (a.tmps[61]?.getD undef) = .slice q n c ∧ OwnX W0.heap.size w9 (.slice q n c) BJ := hk 0 61 (by kernel_rfl) rfl
          obtain ⟨a72, c72, t72, k72⟩ : ∃ q c, (a.tmps[72]?.getD undef) = .slice q LT.length c ∧ RdX w9 (.slice q LT.length c) LT := hk 11 72 (by kernel_rfl) rfl
          have hzw := hw.size; exact wp_append_XG _ _ rfl (W0.heap.size) _ (BJ) (by first | (simp [Act.eval, Act.get]; exact t61) | simp [Act.eval, t61]) (o61) _ (LT) (by first | (simp [Act.eval, Act.get]; exact t72) | simp [Act.eval, t72]) (k72) (by omega) hzw (fun v2 w2 h2 g2 => by rw [HBN2.out] at h2; obtain ⟨q, c, h9⟩ := h2.slice; subst h9; exact ⟨g2 _ (Nat.le_refl _), _, rfl, _, _, rfl, h2⟩)
      intro w7 b7 i7
      intro _ _
      rintro _ rfl
      rintro _ rfl
      rintro _ ⟨q64, rfl, k64⟩
      intro _ _
      rintro _ rfl
      rintro _ rfl
      intro _ _
      rintro _ ⟨q69, rfl, k69⟩
      intro _ _
      intro _ _
      intro _ _
      intro x73 h73; obtain ⟨a73, c73, rfl, o73⟩ := h73 (by simp)
      try with_reducible replace b7 := New.undrawN b7
      try with_reducible replace b7 := New.undraw b7
      obtain ⟨c7, f7⟩ := b7.rules
      have z7 := b7.size
      try simp only [World.size_alloc, World.size_drew, World.heap_drewN, World.size_setCell] at z7
      have z7_0 : w.heap.size < w7.heap.size := by omega
      simp only [RC.EndAll, List.nil_append, List.cons_append, List.length_cons, List.length_nil, Nat.zero_add, Nat.reduceAdd, List.take_succ_cons, List.take_zero, List.drop_succ_cons, List.drop_zero, putAll, RG.putAll, Act.put, List.setIfInBounds_toArray, List.set_cons_succ, List.set_cons_zero]
      go_wp2_with fail
      go_roundw
      case rel => exact ⟨j + 1, by omega, by go_num, b7, by rw [HBE.out]; exact o73⟩
      case measure => simp [intOf]; omega
    · obtain rfl : j = ps.length := by omega
      have HPT := Lib.hid (show bodyT p ps.length ++ [kwN 5, cSe] = progT p by rw [progT, ← HPL.out])
      generalize bodyT p ps.length = BJ at hown hlB HPT
      go_wp2_with fail
      refine (iTokensOf_any _ [kwN 5, cSe] _ (rdS_layB [kwN 5, cSe] _) (by simp)).mono ?_; rintro e w9 ⟨r9, rfl, b9, o9⟩
      obtain ⟨a9, k9, rfl⟩ := o9.slice
      obtain ⟨c9, f9⟩ := b9.rules
      have z9 := b9.size
      try simp only [World.size_alloc, World.size_drew, World.heap_drewN, World.size_setCell] at z9
      have z9_0 : w.heap.size < w9.heap.size := by omega
      go_wp2_with (first | (at_builtin; refine wpList_append_XK rfl _ _ rfl W0.heap.size _ _ rfl (hown.new (((New.refl _).alloc _).trans b9)) _ ([kwN 5, cSe]) rfl (o9.rd) (by first  |  (simp only [List.length_cons, List.length_nil, List.length_append] at *; omega)  |  omega) (by first  |  (simp; done)  |  (simp; omega)  |  omega) ?_; intro vaE waE hoE hgE hkE; have naE : New W0 waE := hgE _ (by exact (by repeat (first | with_reducible exact New.refl _ | with_reducible assumption | with_reducible refine New.drew ?_ | with_reducible refine New.drewN ?_ _ | with_reducible refine New.alloc ?_ _ | with_reducible refine New.setCell ?_ (by first | (simp; done) | (simp; omega) | omega) _ | with_reducible refine New.trans ?_ (by with_reducible assumption)))) (Nat.le_refl _); rw [HPT.out] at hoE; obtain ⟨aaE, mmE, kaE, rfl⟩ := hoE.sliceP; obtain ⟨caE, faE⟩ := (KW0.new naE).rules; have laE := (KW0.new naE).lt; have zaE := naE.size))
      go_ret
      exact ⟨_, rfl, NW0.trans naE, hoE.base NW0.size⟩
set_option maxHeartbeats 8000000 in
theorem iProgTokensN_any (p : ProgD) (iv vv ov lv : Value) (w : World) (hp : RdP w p iv vv ov lv) (hw : wB p = true) (hk : KW w) (hpw : PW w) (hv : p.vars = []) (hg : p.guard.toList.isEmpty = true) :
    Calls Tryz.prog 59 #[valP p iv vv ov lv] w (RetX w (progT p)) := by
  have hvi : ¬ (0 : Int) < (p.vars.length : Int) := by rw [hv]; simp
  have HV2 := Lib.hid (show varT p = [] by rw [varT, if_pos hv])
  have hgg : (p.guard.toList == []) = true := by rw [← hg]; cases p.guard.toList <;> rfl
  have HGT := Lib.hid (show guardT p = [] by rw [guardT, hg]; rfl)
  clear hv hg
  obtain ⟨_, _, _, _, _, n1, n2, n3, n4, hln⟩ := wB_parts hw
  have HK := Lib.hid hk
  have HPW := Lib.hid hpw
  have HP := Lib.hid hp
  have HLN := Lib.hid hln
  obtain ⟨h1, h2, h3, hl⟩ := hp
  obtain ⟨ia, ic, rfl, _⟩ := id h1
  obtain ⟨va, vc, rfl, _⟩ := id h2
  obtain ⟨oa, oc, rfl, _⟩ := id h3
  obtain ⟨ps, hps, hl1, hl2⟩ := hl
  obtain ⟨la, lc, rfl, hm, HC⟩ := Rd.flat encLV_len (by omega) hl1
  have HT := Lib.hid hl2
  have HPS := Lib.hid hps
  have HPL := Lib.hid (show p.lines.length = ps.length by rw [← hps, List.length_map])
  have hpl : ps.length ≤ 40 := by rw [← hps, List.length_map] at n4; exact n4
  have HHB := Lib.hid (fun k => (bodyT_facts hw k).2)
  clear h1 h2 h3 hl1 hl2 hps hk hpw hln hw n4
  obtain ⟨LX, hLX⟩ : ∃ LX, LX = [kwN 0, p.name, cSe, kwN 1] ++ p.inputs ++ [cSe] := ⟨_, rfl⟩
  have hlX : LX.length ≤ 30 := by rw [hLX]; simp only [List.length_append, List.length_cons, List.length_nil]; omega
  have HLX := Lib.hid hLX.symm
  obtain ⟨LV, hLV⟩ : ∃ LV, LV = LX ++ varT p := ⟨_, rfl⟩
  have hlVT : (varT p).length ≤ 22 := by
    rw [varT]; split
    · simp
    · simp only [List.length_append, List.length_cons, List.length_nil]; omega
  have hlV : LV.length ≤ 60 := by rw [hLV, List.length_append]; omega
  obtain ⟨OT, hOT⟩ : ∃ OT, OT = [kwN 3] ++ p.outputs ++ [cSe] := ⟨_, rfl⟩
  have hlOT : OT.length ≤ 22 := by rw [hOT]; simp only [List.length_append, List.length_cons, List.length_nil]; omega
  have HO3 := Lib.hid (show [[kwN 3], p.outputs, [cSe]].flatten = OT by rw [hOT]; simp)
  obtain ⟨LO, hLO⟩ : ∃ LO, LO = LV ++ OT := ⟨_, rfl⟩
  have hlO : LO.length ≤ 90 := by rw [hLO, List.length_append]; omega
  have HLO := Lib.hid hLO.symm
  have HB0 := Lib.hid (show LO ++ guardT p = bodyT p 0 by rw [hLO, hLV, hLX, hOT, bodyT, headT]; simp)
  have HLV := Lib.hid hLV.symm
  clear hLX hLV hOT hLO
  have KW0 : Blk (w.alloc (.cells #[.string p.name, .slice ia p.inputs.length ic, .slice va p.vars.length vc, .slice oa p.outputs.length oc, .string p.guard, .slice la ps.length lc] 48)) w.heap.size #[.string p.name, .slice ia p.inputs.length ic, .slice va p.vars.length vc, .slice oa p.outputs.length oc, .string p.guard, .slice la ps.length lc] 48 := Blk.alloc_at rfl
  have NW0 : New w (w.alloc (.cells #[.string p.name, .slice ia p.inputs.length ic, .slice va p.vars.length vc, .slice oa p.outputs.length oc, .string p.guard, .slice la ps.length lc] 48)) := by exact (by repeat (first | with_reducible exact New.refl _ | with_reducible assumption | with_reducible refine New.drew ?_ | with_reducible refine New.drewN ?_ _ | with_reducible refine New.alloc ?_ _ | with_reducible refine New.setCell ?_ (by first | (simp; done) | (simp; omega) | omega) _ | with_reducible refine New.trans ?_ (by with_reducible assumption)))
  have zW0 : w.heap.size < (w.alloc (.cells #[.string p.name, .slice ia p.inputs.length ic, .slice va p.vars.length vc, .slice oa p.outputs.length oc, .string p.guard, .slice la ps.length lc] 48)).heap.size := by simp
  go_enter Tryz.func59, Tryz.ntmps59
  go_wp2_with fail
  have eW0 := Lib.hid (show (w.alloc (.cells #[.string p.name, .slice ia p.inputs.length ic, .slice va p.vars.length vc, .slice oa p.outputs.length oc, .string p.guard, .slice la ps.length lc] 48)).heap.size = w.heap.size + 1 by simp)
  generalize (w.alloc (.cells #[.string p.name, .slice ia p.inputs.length ic, .slice va p.vars.length vc, .slice oa p.outputs.length oc, .string p.guard, .slice la ps.length lc] 48)) = W0 at KW0 NW0 zW0 eW0 ⊢
  have HS1 := Lib.hid (HP.out.ins.new NW0)
  have HS2 := Lib.hid (HP.out.vars.new NW0)
  have HS3 := Lib.hid (HP.out.outs.new NW0)
  obtain ⟨c0, f0⟩ := KW0.rules
  refine (iTokensOf_any _ [kwN 0, p.name, cSe, kwN 1] _ (rdS_layB [kwN 0, p.name, cSe, kwN 1] _ (by have := eW0.out; omega)) (by simp)).mono ?_; rintro e w1 ⟨r1, rfl, b1, o1⟩
  obtain ⟨a1, k1, rfl⟩ := o1.slice; replace o1 := o1.base (b' := W0.heap.size) (by first | (simp; done) | (simp; omega))
  obtain ⟨c1, f1⟩ := b1.rules
  have z1 := b1.size
  try simp only [World.size_alloc, World.size_drew, World.heap_drewN, World.size_setCell] at z1
  have z1_0 : w.heap.size < w1.heap.size := by omega
  go_wp2_with fail
  have nn1 : New W0 w1 := by exact (by repeat (first | with_reducible exact New.refl _ | with_reducible assumption | with_reducible refine New.drew ?_ | with_reducible refine New.drewN ?_ _ | with_reducible refine New.alloc ?_ _ | with_reducible refine New.setCell ?_ (by first | (simp; done) | (simp; omega) | omega) _ | with_reducible refine New.trans ?_ (by with_reducible assumption)))
  refine (iTokensOf_any _ p.inputs _ (Rd.new HS1.out nn1) (by omega)).mono ?_; rintro e w2 ⟨r2, rfl, b2, o2⟩
  obtain ⟨a2, k2, rfl⟩ := o2.slice
  obtain ⟨c2, f2⟩ := b2.rules
  have z2 := b2.size
  try simp only [World.size_alloc, World.size_drew, World.heap_drewN, World.size_setCell] at z2
  have z2_0 : w.heap.size < w2.heap.size := by omega
  go_wp2_with (first | (at_builtin; refine wpList_append_XK rfl _ _ rfl W0.heap.size _ _ rfl (o1.new b2) _ (p.inputs) rfl (o2.rd) (by first  |  (simp only [List.length_cons, List.length_nil, List.length_append] at *; omega)  |  omega) (by first  |  (simp; done)  |  (simp; omega)  |  omega) ?_; intro vaA waA hoA hgA hkA; have naA : New W0 waA := hgA _ (by exact (by repeat (first | with_reducible exact New.refl _ | with_reducible assumption | with_reducible refine New.drew ?_ | with_reducible refine New.drewN ?_ _ | with_reducible refine New.alloc ?_ _ | with_reducible refine New.setCell ?_ (by first | (simp; done) | (simp; omega) | omega) _ | with_reducible refine New.trans ?_ (by with_reducible assumption)))) (Nat.le_refl _); obtain ⟨aaA, mmA, kaA, rfl⟩ := hoA.sliceP; obtain ⟨caA, faA⟩ := (KW0.new naA).rules; have laA := (KW0.new naA).lt; have zaA := naA.size))
  refine (iTokensOf_any _ [cSe] _ (rdS_layB [cSe] _) (by simp)).mono ?_; rintro e w3 ⟨r3, rfl, b3, o3⟩
  obtain ⟨a3, k3, rfl⟩ := o3.slice
  obtain ⟨c3, f3⟩ := b3.rules
  have z3 := b3.size
  try simp only [World.size_alloc, World.size_drew, World.heap_drewN, World.size_setCell] at z3
  have z3_0 : w.heap.size < w3.heap.size := by omega
  go_wp2_with (first | (at_builtin; refine wpList_append_XK rfl _ _ rfl W0.heap.size _ _ rfl (hoA.new (((New.refl _).alloc _).trans b3)) _ ([cSe]) rfl (o3.rd) (by first  |  (simp only [List.length_cons, List.length_nil, List.length_append] at *; omega)  |  omega) (by first  |  (simp; done)  |  (simp; omega)  |  omega) ?_; intro vaB waB hoB hgB hkB; have naB : New W0 waB := hgB _ (by exact (by repeat (first | with_reducible exact New.refl _ | with_reducible assumption | with_reducible refine New.drew ?_ | with_reducible refine New.drewN ?_ _ | with_reducible refine New.alloc ?_ _ | with_reducible refine New.setCell ?_ (by first | (simp; done) | (simp; omega) | omega) _ | with_reducible refine New.trans ?_ (by with_reducible assumption)))) (Nat.le_refl _); rw [HLX.out] at hoB; obtain ⟨aaB, mmB, kaB, rfl⟩ := hoB.sliceP; obtain ⟨caB, faB⟩ := (KW0.new naB).rules; have laB := (KW0.new naB).lt; have zaB := naB.size))
  rw [HGT.out] at HB0
  generalize varT p = VT at HV2 HLV hlVT
  have HLV2 := Lib.hid (show LX = LV by have := HLV.out; rw [HV2.out] at this; simpa using this)
  rw [HLV2.out] at hoB
  refine RC.wp_facts (132) (W0) (fun w' => OwnX W0.heap.size w' (.slice aaB mmB kaB) LV) [fun X W' => ∃ q n c, X = .slice q n c ∧ OwnX W0.heap.size W' (.slice q n c) LV, fun X W' => ∃ q, X = .slice (some ⟨q, 0, none⟩) 1 1 ∧ Blk W' q #[.string (kwN 3)] 9, fun X W' => ∃ q c, X = .slice q 1 c ∧ RdX W' (.slice q 1 c) [kwN 3], fun X _ => X = .pointer (some ⟨w.heap.size, 3, none⟩), fun X _ => X = .slice oa p.outputs.length oc, fun X W' => ∃ q c, X = .slice q p.outputs.length c ∧ RdX W' (.slice q p.outputs.length c) p.outputs, fun X W' => ∃ q, X = .slice (some ⟨q, 0, none⟩) 1 1 ∧ Blk W' q #[.string cSe] 9, fun X W' => ∃ q c, X = .slice q 1 c ∧ RdX W' (.slice q 1 c) [cSe], fun X W' => RdXs W' X [[kwN 3], p.outputs, [cSe]], fun X W' => ∃ q c, X = .slice q OT.length c ∧ RdX W' (.slice q OT.length c) OT, fun X W' => ∃ q c, X = .slice q LO.length c ∧ OwnX W0.heap.size W' (.slice q LO.length c) LO] [some 10, none, some 10, none, none, some 10, none, some 10, some 10, some 10, some 61] [false, false, false, false, false, false, false, false, false, false, true] (by kernel_rfl) (by kernel_rfl) (by kernel_rfl) (naB) (hoB) (fun _ _ n h => h.new n) ⟨fun X w0 w1 hn ⟨a34, n34, c34, t34, o34⟩ => ⟨a34, n34, c34, t34, o34.new hn⟩, fun X w0 w1 hn ⟨q35, t35, k35⟩ => ⟨q35, t35, k35.new hn⟩, fun X w0 w1 hn ⟨a36, c36, t36, k36⟩ => ⟨a36, c36, t36, k36.new hn⟩, RG.stable_eq _, RG.stable_eq _, fun X w0 w1 hn ⟨a39, c39, t39, k39⟩ => ⟨a39, c39, t39, k39.new hn⟩, fun X w0 w1 hn ⟨q40, t40, k40⟩ => ⟨q40, t40, k40.new hn⟩, fun X w0 w1 hn ⟨a41, c41, t41, k41⟩ => ⟨a41, c41, t41, k41.new hn⟩, fun X w0 w1 hn k42 => k42.new hn, fun X w0 w1 hn ⟨a43, c43, t43, k43⟩ => ⟨a43, c43, t43, k43.new hn⟩, fun X w0 w1 hn ⟨a44, c44, t44, o44⟩ => ⟨a44, c44, t44, o44.new hn⟩, trivial⟩ ⟨fun X w0 w1 hw0 hn ⟨q35, t35, k35⟩ => ⟨q35, t35, hn.blk _ _ _ k35 (by decide)⟩, RC.stable_eqG _ _ _, RC.stable_eqG _ _ _, fun X w0 w1 hw0 hn ⟨q40, t40, k40⟩ => ⟨q40, t40, hn.blk _ _ _ k40 (by decide)⟩, trivial⟩ ?_ ?_
  · refine ⟨?_, ?_, ?_, ?_, ?_, ?_, ?_, ?_, ?_, ?_, ?_, trivial⟩
    · intro a w9 hw hj ho hk
      refine .inl ⟨by rfl, ?_⟩
      simp only [Bool.false_eq_true, if_false, if_true, eq_self_iff_true]
      have t2 := ho 3 rfl; dsimp at t2; have oJ := hj (by kernel_rfl); dsimp only at oJ; go_simp; first | exact ⟨New.refl _, _, rfl, _, _, _, rfl, oJ⟩ | exact ⟨New.refl _, _, _, _, by simp, oJ⟩
    · intro a w9 hw hj ho hk
      refine .inl ⟨by rfl, ?_⟩
      simp only [Bool.false_eq_true, if_false, if_true, eq_self_iff_true]
      go_simp; first | exact ⟨(New.refl _).alloc _, _, rfl, _, rfl, Blk.alloc_at rfl⟩ | exact ⟨(New.refl _).alloc _, _, by simp, Blk.alloc_at rfl⟩
    · intro a w9 hw hj ho hk
      refine .inl ⟨by rfl, ?_⟩
      simp only [Bool.false_eq_true, if_false, if_true, eq_self_iff_true]
      obtain ⟨q35, t35, k35⟩ : ∃ q, (a.tmps[35]?.getD undef) = .slice (some ⟨q, 0, none⟩) 1 1 ∧ Blk w9 q #[.string (kwN 3)] 9 := hk 1 35 (by kernel_rfl) rfl
      go_simp
      refine (iTokensOf_any _ [kwN 3] _ (rdS_blk [kwN 3] k35) (by simp)).mono ?_; rintro e w2 ⟨r, rfl, hb, o⟩
      obtain ⟨q, c, rfl⟩ := o.slice; exact ⟨hb, _, rfl, _, _, rfl, o.rd⟩
    · intro a w9 hw hj ho hk
      refine .inl ⟨by rfl, ?_⟩
      simp only [Bool.false_eq_true, if_false, if_true, eq_self_iff_true]
      have t2 := ho 1 rfl
      dsimp at t2
      try with_reducible replace hw := New.undrawN hw
      try with_reducible replace hw := New.undraw hw
      obtain ⟨c, f'⟩ := hw.rules
      go_simp
      exact New.refl _
    · intro a w9 hw hj ho hk
      refine .inl ⟨by rfl, ?_⟩
      simp only [Bool.false_eq_true, if_false, if_true, eq_self_iff_true]
      have t37 : a.tmps[37]?.getD undef = .pointer (some ⟨w.heap.size, 3, none⟩) := hk 3 37 (by kernel_rfl) rfl
      try with_reducible replace hw := New.undrawN hw
      try with_reducible replace hw := New.undraw hw
      obtain ⟨c, f'⟩ := hw.rules
      go_simp
      exact New.refl _
    · intro a w9 hw hj ho hk
      refine .inl ⟨by rfl, ?_⟩
      simp only [Bool.false_eq_true, if_false, if_true, eq_self_iff_true]
      have t38 : a.tmps[38]?.getD undef = .slice oa p.outputs.length oc := hk 4 38 (by kernel_rfl) rfl
      go_simp
      refine (iTokensOf_any _ p.outputs _ (HS3.out.new hw) (by omega)).mono ?_; rintro e w2 ⟨r, rfl, hb, o⟩
      obtain ⟨q, c, rfl⟩ := o.slice; exact ⟨hb, _, rfl, _, _, rfl, o.rd⟩
    · intro a w9 hw hj ho hk
      refine .inl ⟨by rfl, ?_⟩
      simp only [Bool.false_eq_true, if_false, if_true, eq_self_iff_true]
      go_simp; first | exact ⟨(New.refl _).alloc _, _, rfl, _, rfl, Blk.alloc_at rfl⟩ | exact ⟨(New.refl _).alloc _, _, by simp, Blk.alloc_at rfl⟩
    · intro a w9 hw hj ho hk
      refine .inl ⟨by rfl, ?_⟩
      simp only [Bool.false_eq_true, if_false, if_true, eq_self_iff_true]
      obtain ⟨q40, t40, k40⟩ : ∃ q, (a.tmps[40]?.getD undef) = .slice (some ⟨q, 0, none⟩) 1 1 ∧ Blk w9 q #[.string cSe] 9 := hk 6 40 (by kernel_rfl) rfl
      go_simp
      refine (iTokensOf_any _ [cSe] _ (rdS_blk [cSe] k40) (by simp)).mono ?_; rintro e w2 ⟨r, rfl, hb, o⟩
      obtain ⟨q, c, rfl⟩ := o.slice; exact ⟨hb, _, rfl, _, _, rfl, o.rd⟩
    · intro a w9 hw hj ho hk
      refine .inl ⟨by rfl, ?_⟩
      simp only [Bool.false_eq_true, if_false, if_true, eq_self_iff_true]
      obtain ⟨a36, c36, t36, k36⟩ : ∃ q c, (a.tmps[36]?.getD undef) = .slice q 1 c ∧ RdX w9 (.slice q 1 c) [kwN 3] := hk 2 36 (by kernel_rfl) rfl
      obtain ⟨a39, c39, t39, k39⟩ : ∃ q c, (a.tmps[39]?.getD undef) = .slice q p.outputs.length c ∧ RdX w9 (.slice q p.outputs.length c) p.outputs := hk 5 39 (by kernel_rfl) rfl
      obtain ⟨a41, c41, t41, k41⟩ : ∃ q c, (a.tmps[41]?.getD undef) = .slice q 1 c ∧ RdX w9 (.slice q 1 c) [cSe] := hk 7 41 (by kernel_rfl) rfl
      go_simp; first | exact ⟨(New.refl _).alloc _, _, rfl, rdXs_lay3 k36 k39 k41⟩ | exact ⟨(New.refl _).alloc _, rdXs_lay3 k36 k39 k41⟩
    · intro a w9 hw hj ho hk
      refine .inl ⟨by rfl, ?_⟩
      simp only [Bool.false_eq_true, if_false, if_true, eq_self_iff_true]
      obtain k42 : RdXs w9 (a.tmps[42]?.getD undef) [[kwN 3], p.outputs, [cSe]] := hk 8 42 (by kernel_rfl) rfl
      go_simp
      refine (concatX_any _ [[kwN 3], p.outputs, [cSe]] _ k42 (by intro x hx; simp only [List.mem_cons, List.not_mem_nil, or_false] at hx; rcases hx with rfl | rfl | rfl <;> first | (simp; done) | omega) (by simp)).mono ?_; rintro e w2 ⟨r, rfl, hb, o⟩
      obtain ⟨q, c, h9⟩ := o.slice; subst h9; rw [HO3.out] at o ⊢; first | exact ⟨hb, _, rfl, _, _, rfl, o.rd⟩ | exact ⟨hb, _, _, by simp, o.rd⟩
    · intro a w9 hw hj ho hk
      refine .inl ⟨by rfl, ?_⟩
      simp only [Bool.false_eq_true, if_false, if_true, eq_self_iff_true]
      obtain ⟨a34, n34, c34, t34, o34⟩ : ∃ q n c, (a.tmps[34]?.getD undef) = .slice q n c ∧ OwnX W0.heap.size w9 (.slice q n c) LV := hk 0 34 (by kernel_rfl) rfl
      obtain ⟨a43, c43, t43, k43⟩ : ∃ q c, (a.tmps[43]?.getD undef) = .slice q OT.length c ∧ RdX w9 (.slice q OT.length c) OT := hk 9 43 (by kernel_rfl) rfl
      have hzw := hw.size; exact wp_append_XG _ _ rfl (W0.heap.size) _ (LV) (by first | (simp [Act.eval, Act.get]; exact t34) | simp [Act.eval, t34]) (o34) _ (OT) (by first | (simp [Act.eval, Act.get]; exact t43) | simp [Act.eval, t43]) (k43) (by omega) hzw (fun v2 w2 h2 g2 => by rw [HLO.out] at h2; obtain ⟨q, c, h9⟩ := h2.slice; subst h9; exact ⟨g2 _ (Nat.le_refl _), _, rfl, _, _, rfl, h2⟩)
  intro w6 b6
  intro _ _
  rintro _ ⟨q35, rfl, k35⟩
  intro _ _
  rintro _ rfl
  rintro _ rfl
  intro _ _
  rintro _ ⟨q40, rfl, k40⟩
  intro _ _
  intro _ _
  intro _ _
  intro x44 h44; obtain ⟨a44, c44, rfl, o44⟩ := h44 (by simp)
  try with_reducible replace b6 := New.undrawN b6
  try with_reducible replace b6 := New.undraw b6
  obtain ⟨c6, f6⟩ := b6.rules
  have z6 := b6.size
  try simp only [World.size_alloc, World.size_drew, World.heap_drewN, World.size_setCell] at z6
  have z6_0 : w.heap.size < w6.heap.size := by omega
  simp only [RC.EndAll, List.nil_append, List.cons_append, List.length_cons, List.length_nil, Nat.zero_add, Nat.reduceAdd, List.take_succ_cons, List.take_zero, List.drop_succ_cons, List.drop_zero, putAll, RG.putAll, Act.put, List.setIfInBounds_toArray, List.set_cons_succ, List.set_cons_zero]
  have lD := (KW0.new b6).lt
  go_wp2_with fail
  have HB1 := Lib.hid (show LO = bodyT p 0 by have := HB0.out; simpa using this)
  have o44' : OwnX W0.heap.size w6 (.slice a44 LO.length c44) (bodyT p 0) := by rw [← HB1.out]; exact o44
  clear o44
  go_loopw [3, 57] (fun o i wr => ∃ j : Nat, j ≤ ps.length ∧ i = .int .i64 j ∧ New W0 wr ∧ OwnX W0.heap.size wr o (bodyT p j)) (fun _ i _ => ps.length - (intOf i).toNat)
  case atStart => exact ⟨0, Nat.zero_le _, rfl, b6, o44'⟩
  case round =>
    obtain ⟨j, hj, rfl, hN, hown⟩ := hrel
    have hNz := hN.size
    have hNw := NW0.trans hN
    have hlB := HHB.out j
    obtain ⟨ao, mo, ko, rfl⟩ := hown.sliceP
    by_cases hlt : j < ps.length
    · obtain ⟨b, off, rfl, hbl, hx⟩ := HC.out j hlt
      have x0 : wr.cell? ⟨b, off + j * 2, none⟩ = some (.string ps[j].1.target) := (hNw.cell hbl).trans (hx 0 _ (by omega) rfl)
      have x1 : wr.cell? ⟨b, off + j * 2 + 1, none⟩ = some ps[j].2 := (hNw.cell hbl).trans (hx 1 _ (by omega) rfl)
      clear hx
      have hbr : b < wr.heap.size := by have := hNw.size; omega
      obtain ⟨hlp, hle⟩ := lines_of HPS.out hlt
      have hrt := HT.out ps[j] (List.getElem_mem hlt)
      obtain ⟨ea, ec, hev, _⟩ := id hrt
      rw [hev] at x1 hrt
      clear hev
      obtain ⟨hl1, hl2⟩ := HLN.out ps[j].1 (by rw [← hle]; exact List.getElem_mem hlp)
      obtain ⟨he1, he2, _⟩ := exprT_facts hl2
      have hlT := (lineT_facts hl1 hl2).2
      have HBN := Lib.hid (show bodyT p (j + 1) = bodyT p j ++ lineT ps[j].1 by rw [bodyT_next hlp, hle])
      have HLT := Lib.hid (show [[ps[j].1.target, cEq], exprT ps[j].1.terms, [cSe]].flatten = lineT ps[j].1 by simp [lineT])
      have HE := Lib.hid (fun (w0 : World) (h : New w w0) => iExprTokens_any (.slice ea ps[j].1.terms.length ec) ps[j].1.terms w0 (HK.out.new h) (HPW.out.new h) (Rd.new hrt h) hl2)
      clear hle hl1 hl2 hrt he2
      generalize lineT ps[j].1 = LT at hlT HBN HLT
      generalize exprT ps[j].1.terms = ET at he1 HLT HE
      generalize ps[j].1.terms = tm at x1 HE
      generalize ps[j].1.target = tg at x0 HLT
      have HBN2 := Lib.hid HBN.out.symm
      generalize bodyT p j = BJ at hown hlB HBN HBN2
      obtain ⟨BN, hBN⟩ : ∃ BN, BN = bodyT p (j + 1) := ⟨_, rfl⟩
      rw [← hBN] at HBN HBN2
      have HBE := Lib.hid hBN.symm
      clear hBN
      go_wp2_with fail
      refine RI.wp_facts (132) (W0) (fun w' => OwnX W0.heap.size w' (.slice ao mo ko) BJ) (fun w' => Blk w' wr.heap.size #[.string tg, .slice ea tm.length ec] 91) [fun X W' => ∃ q n c, X = .slice q n c ∧ OwnX W0.heap.size W' (.slice q n c) BJ, fun X _ => X = .pointer (some ⟨wr.heap.size, 0, none⟩), fun X _ => X = .string tg, fun X W' => ∃ q, X = .slice (some ⟨q, 0, none⟩) 2 2 ∧ Blk W' q #[.string tg, .string cEq] 9, fun X W' => ∃ q c, X = .slice q 2 c ∧ RdX W' (.slice q 2 c) [tg, cEq], fun X _ => X = .pointer (some ⟨wr.heap.size, 1, none⟩), fun X _ => X = .slice ea tm.length ec, fun X W' => ∃ q c, X = .slice q ET.length c ∧ RdX W' (.slice q ET.length c) ET, fun X W' => ∃ q, X = .slice (some ⟨q, 0, none⟩) 1 1 ∧ Blk W' q #[.string cSe] 9, fun X W' => ∃ q c, X = .slice q 1 c ∧ RdX W' (.slice q 1 c) [cSe], fun X W' => RdXs W' X [[tg, cEq], ET, [cSe]], fun X W' => ∃ q c, X = .slice q LT.length c ∧ RdX W' (.slice q LT.length c) LT, fun X W' => ∃ q c, X = .slice q BN.length c ∧ OwnX W0.heap.size W' (.slice q BN.length c) BN] [some 12, none, none, none, some 12, none, none, some 12, none, some 12, some 12, some 12, some 63] [false, false, false, false, false, false, false, false, false, false, false, false, true] (by kernel_rfl) (by kernel_rfl) (by kernel_rfl) (hN.alloc _) (hown.new ((New.refl _).alloc _)) (fun _ _ n h => h.new n) (Blk.alloc_at rfl) (fun _ _ n h => h.new n) (fun _ _ _ g h => g.blk _ _ _ h (by decide)) ⟨fun X w0 w1 hn ⟨a61, n61, c61, t61, o61⟩ => ⟨a61, n61, c61, t61, o61.new hn⟩, RG.stable_eq _, RG.stable_eq _, fun X w0 w1 hn ⟨q64, t64, k64⟩ => ⟨q64, t64, k64.new hn⟩, fun X w0 w1 hn ⟨a65, c65, t65, k65⟩ => ⟨a65, c65, t65, k65.new hn⟩, RG.stable_eq _, RG.stable_eq _, fun X w0 w1 hn ⟨a68, c68, t68, k68⟩ => ⟨a68, c68, t68, k68.new hn⟩, fun X w0 w1 hn ⟨q69, t69, k69⟩ => ⟨q69, t69, k69.new hn⟩, fun X w0 w1 hn ⟨a70, c70, t70, k70⟩ => ⟨a70, c70, t70, k70.new hn⟩, fun X w0 w1 hn k71 => k71.new hn, fun X w0 w1 hn ⟨a72, c72, t72, k72⟩ => ⟨a72, c72, t72, k72.new hn⟩, fun X w0 w1 hn ⟨a73, c73, t73, o73⟩ => ⟨a73, c73, t73, o73.new hn⟩, trivial⟩ ⟨RC.stable_eqG _ _ _, RC.stable_eqG _ _ _, fun X w0 w1 hw0 hn ⟨q64, t64, k64⟩ => ⟨q64, t64, hn.blk _ _ _ k64 (by decide)⟩, RC.stable_eqG _ _ _, RC.stable_eqG _ _ _, fun X w0 w1 hw0 hn ⟨q69, t69, k69⟩ => ⟨q69, t69, hn.blk _ _ _ k69 (by decide)⟩, trivial⟩ ?_ ?_
      · refine ⟨?_, ?_, ?_, ?_, ?_, ?_, ?_, ?_, ?_, ?_, ?_, ?_, ?_, trivial⟩
        · intro a w9 hw hi hj ho hk
          refine .inl ⟨by rfl, ?_⟩
          simp only [Bool.false_eq_true, if_false, if_true, eq_self_iff_true]
          have t2 := ho 3 rfl; dsimp at t2; have oJ := hj (by kernel_rfl); dsimp only at oJ; go_simp; first | exact ⟨New.refl _, _, rfl, _, _, _, rfl, oJ⟩ | exact ⟨New.refl _, _, _, _, by simp, oJ⟩
        · intro a w9 hw hi hj ho hk
          refine .inl ⟨by rfl, ?_⟩
          simp only [Bool.false_eq_true, if_false, if_true, eq_self_iff_true]
          have t2 := ho 5 rfl
          dsimp at t2
          try with_reducible replace hw := New.undrawN hw
          try with_reducible replace hw := New.undraw hw
          obtain ⟨c, f'⟩ := hw.rules
          go_simp
          exact New.refl _
        · intro a w9 hw hi hj ho hk
          refine .inl ⟨by rfl, ?_⟩
          simp only [Bool.false_eq_true, if_false, if_true, eq_self_iff_true]
          have t62 : a.tmps[62]?.getD undef = .pointer (some ⟨wr.heap.size, 0, none⟩) := hk 1 62 (by kernel_rfl) rfl
          obtain ⟨c9, f9⟩ := hi.rules; have l9 := hi.lt; go_simp; exact New.refl _
        · intro a w9 hw hi hj ho hk
          refine .inl ⟨by rfl, ?_⟩
          simp only [Bool.false_eq_true, if_false, if_true, eq_self_iff_true]
          have t63 : a.tmps[63]?.getD undef = .string tg := hk 2 63 (by kernel_rfl) rfl
          go_simp; first | exact ⟨(New.refl _).alloc _, _, rfl, _, rfl, Blk.alloc_at rfl⟩ | exact ⟨(New.refl _).alloc _, _, by simp, Blk.alloc_at rfl⟩
        · intro a w9 hw hi hj ho hk
          refine .inl ⟨by rfl, ?_⟩
          simp only [Bool.false_eq_true, if_false, if_true, eq_self_iff_true]
          obtain ⟨q64, t64, k64⟩ : ∃ q, (a.tmps[64]?.getD undef) = .slice (some ⟨q, 0, none⟩) 2 2 ∧ Blk w9 q #[.string tg, .string cEq] 9 := hk 3 64 (by kernel_rfl) rfl
          go_simp
          refine (iTokensOf_any _ [tg, cEq] _ (rdS_blk [tg, cEq] k64) (by simp)).mono ?_; rintro e w2 ⟨r, rfl, hb, o⟩
          obtain ⟨q, c, rfl⟩ := o.slice; exact ⟨hb, _, rfl, _, _, rfl, o.rd⟩
        · intro a w9 hw hi hj ho hk
          refine .inl ⟨by rfl, ?_⟩
          simp only [Bool.false_eq_true, if_false, if_true, eq_self_iff_true]
          have t2 := ho 5 rfl
          dsimp at t2
          try with_reducible replace hw := New.undrawN hw
          try with_reducible replace hw := New.undraw hw
          obtain ⟨c, f'⟩ := hw.rules
          go_simp
          exact New.refl _
        · intro a w9 hw hi hj ho hk
          refine .inl ⟨by rfl, ?_⟩
          simp only [Bool.false_eq_true, if_false, if_true, eq_self_iff_true]
          have t66 : a.tmps[66]?.getD undef = .pointer (some ⟨wr.heap.size, 1, none⟩) := hk 5 66 (by kernel_rfl) rfl
          obtain ⟨c9, f9⟩ := hi.rules; have l9 := hi.lt; go_simp; exact New.refl _
        · intro a w9 hw hi hj ho hk
          refine .inl ⟨by rfl, ?_⟩
          simp only [Bool.false_eq_true, if_false, if_true, eq_self_iff_true]
          have t67 : a.tmps[67]?.getD undef = .slice ea tm.length ec := hk 6 67 (by kernel_rfl) rfl
          go_simp
          refine (HE.out _ (NW0.trans hw)).mono ?_; rintro e w2 ⟨q, c, rfl, hb, o⟩
          first | exact ⟨hb, _, rfl, _, _, rfl, o⟩ | exact ⟨hb, _, _, by simp, o⟩
        · intro a w9 hw hi hj ho hk
          refine .inl ⟨by rfl, ?_⟩
          simp only [Bool.false_eq_true, if_false, if_true, eq_self_iff_true]
          go_simp; first | exact ⟨(New.refl _).alloc _, _, rfl, _, rfl, Blk.alloc_at rfl⟩ | exact ⟨(New.refl _).alloc _, _, by simp, Blk.alloc_at rfl⟩
        · intro a w9 hw hi hj ho hk
          refine .inl ⟨by rfl, ?_⟩
          simp only [Bool.false_eq_true, if_false, if_true, eq_self_iff_true]
          obtain ⟨q69, t69, k69⟩ : ∃ q, (a.tmps[69]?.getD undef) = .slice (some ⟨q, 0, none⟩) 1 1 ∧ Blk w9 q #[.string cSe] 9 := hk 8 69 (by kernel_rfl) rfl
          go_simp
          refine (iTokensOf_any _ [cSe] _ (rdS_blk [cSe] k69) (by simp)).mono ?_; rintro e w2 ⟨r, rfl, hb, o⟩
          obtain ⟨q, c, rfl⟩ := o.slice; exact ⟨hb, _, rfl, _, _, rfl, o.rd⟩
        · intro a w9 hw hi hj ho hk
          refine .inl ⟨by rfl, ?_⟩
          simp only [Bool.false_eq_true, if_false, if_true, eq_self_iff_true]
          obtain ⟨a65, c65, t65, k65⟩ : ∃ q c, (a.tmps[65]?.getD undef) = .slice q 2 c ∧ RdX w9 (.slice q 2 c) [tg, cEq] := hk 4 65 (by kernel_rfl) rfl
          obtain ⟨a68, c68, t68, k68⟩ : ∃ q c, (a.tmps[68]?.getD undef) = .slice q ET.length c ∧ RdX w9 (.slice q ET.length c) ET := hk 7 68 (by kernel_rfl) rfl
          obtain ⟨a70, c70, t70, k70⟩ : ∃ q c, (a.tmps[70]?.getD undef) = .slice q 1 c ∧ RdX w9 (.slice q 1 c) [cSe] := hk 9 70 (by kernel_rfl) rfl
          go_simp; first | exact ⟨(New.refl _).alloc _, _, rfl, rdXs_lay3 k65 k68 k70⟩ | exact ⟨(New.refl _).alloc _, rdXs_lay3 k65 k68 k70⟩
        · intro a w9 hw hi hj ho hk
          refine .inl ⟨by rfl, ?_⟩
          simp only [Bool.false_eq_true, if_false, if_true, eq_self_iff_true]
          obtain k71 : RdXs w9 (a.tmps[71]?.getD undef) [[tg, cEq], ET, [cSe]] := hk 10 71 (by kernel_rfl) rfl
          go_simp
          refine (concatX_any _ [[tg, cEq], ET, [cSe]] _ k71 (by intro x hx; simp only [List.mem_cons, List.not_mem_nil, or_false] at hx; rcases hx with rfl | rfl | rfl <;> first | (simp; done) | omega) (by simp)).mono ?_; rintro e w2 ⟨r, rfl, hb, o⟩
          obtain ⟨q, c, h9⟩ := o.slice; subst h9; rw [HLT.out] at o ⊢; first | exact ⟨hb, _, rfl, _, _, rfl, o.rd⟩ | exact ⟨hb, _, _, by simp, o.rd⟩
        · intro a w9 hw hi hj ho hk
          refine .inl ⟨by rfl, ?_⟩
          simp only [Bool.false_eq_true, if_false, if_true, eq_self_iff_true]
          obtain ⟨a61, n61, c61, t61, o61⟩ : ∃ q n c, (a.tmps[61]?.getD undef) = .slice q n c ∧ OwnX W0.heap.size w9 (.slice q n c) BJ := hk 0 61 (by kernel_rfl) rfl
          obtain ⟨a72, c72, t72, k72⟩ : ∃ q c, (a.tmps[72]?.getD undef) = .slice q LT.length c ∧ RdX w9 (.slice q LT.length c) LT := hk 11 72 (by kernel_rfl) rfl
          have hzw := hw.size; exact wp_append_XG _ _ rfl (W0.heap.size) _ (BJ) (by first | (simp [Act.eval, Act.get]; exact t61) | simp [Act.eval, t61]) (o61) _ (LT) (by first | (simp [Act.eval, Act.get]; exact t72) | simp [Act.eval, t72]) (k72) (by omega) hzw (fun v2 w2 h2 g2 => by rw [HBN2.out] at h2; obtain ⟨q, c, h9⟩ := h2.slice; subst h9; exact ⟨g2 _ (Nat.le_refl _), _, rfl, _, _, rfl, h2⟩)
      intro w7 b7 i7
      intro _ _
      rintro _ rfl
      rintro _ rfl
      rintro _ ⟨q64, rfl, k64⟩
      intro _ _
      rintro _ rfl
      rintro _ rfl
      intro _ _
      rintro _ ⟨q69, rfl, k69⟩
      intro _ _
      intro _ _
      intro _ _
      intro x73 h73; obtain ⟨a73, c73, rfl, o73⟩ := h73 (by simp)
      try with_reducible replace b7 := New.undrawN b7
      try with_reducible replace b7 := New.undraw b7
      obtain ⟨c7, f7⟩ := b7.rules
      have z7 := b7.size
      try simp only [World.size_alloc, World.size_drew, World.heap_drewN, World.size_setCell] at z7
      have z7_0 : w.heap.size < w7.heap.size := by omega
      simp only [RC.EndAll, List.nil_append, List.cons_append, List.length_cons, List.length_nil, Nat.zero_add, Nat.reduceAdd, List.take_succ_cons, List.take_zero, List.drop_succ_cons, List.drop_zero, putAll, RG.putAll, Act.put, List.setIfInBounds_toArray, List.set_cons_succ, List.set_cons_zero]
      go_wp2_with fail
      go_roundw
      case rel => exact ⟨j + 1, by omega, by go_num, b7, by rw [HBE.out]; exact o73⟩
      case measure => simp [intOf]; omega
    · obtain rfl : j = ps.length := by omega
      have HPT := Lib.hid (show bodyT p ps.length ++ [kwN 5, cSe] = progT p by rw [progT, ← HPL.out])
      generalize bodyT p ps.length = BJ at hown hlB HPT
      go_wp2_with fail
      refine (iTokensOf_any _ [kwN 5, cSe] _ (rdS_layB [kwN 5, cSe] _) (by simp)).mono ?_; rintro e w9 ⟨r9, rfl, b9, o9⟩
      obtain ⟨a9, k9, rfl⟩ := o9.slice
      obtain ⟨c9, f9⟩ := b9.rules
      have z9 := b9.size
      try simp only [World.size_alloc, World.size_drew, World.heap_drewN, World.size_setCell] at z9
      have z9_0 : w.heap.size < w9.heap.size := by omega
      go_wp2_with (first | (at_builtin; refine wpList_append_XK rfl _ _ rfl W0.heap.size _ _ rfl (hown.new (((New.refl _).alloc _).trans b9)) _ ([kwN 5, cSe]) rfl (o9.rd) (by first  |  (simp only [List.length_cons, List.length_nil, List.length_append] at *; omega)  |  omega) (by first  |  (simp; done)  |  (simp; omega)  |  omega) ?_; intro vaE waE hoE hgE hkE; have naE : New W0 waE := hgE _ (by exact (by repeat (first | with_reducible exact New.refl _ | with_reducible assumption | with_reducible refine New.drew ?_ | with_reducible refine New.drewN ?_ _ | with_reducible refine New.alloc ?_ _ | with_reducible refine New.setCell ?_ (by first | (simp; done) | (simp; omega) | omega) _ | with_reducible refine New.trans ?_ (by with_reducible assumption)))) (Nat.le_refl _); rw [HPT.out] at hoE; obtain ⟨aaE, mmE, kaE, rfl⟩ := hoE.sliceP; obtain ⟨caE, faE⟩ := (KW0.new naE).rules; have laE := (KW0.new naE).lt; have zaE := naE.size))
      go_ret
      exact ⟨_, rfl, NW0.trans naE, hoE.base NW0.size⟩
end Go.Proofs.YteielmihlfakgaaGreatDoor
