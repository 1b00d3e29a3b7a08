/- Contracts: tokens of expressions: the reference. -/
import Derived.Test.YteielmihlfakgaaGreatDoorProg
import Derived.Test.YteielmihlfakgaaGreatDoorExpU
namespace Go.Proofs.YteielmihlfakgaaGreatDoor
open Go Go.Proofs Go.RowKit
set_option linter.unusedVariables false
set_option linter.unusedSimpArgs false
set_option maxRecDepth 100000
theorem sApply_any (t : ETerm) (av : Value) (L : List VT) (w : World) (ha : RdW w av L) (hL : (L.length : Int) = takes t.kind) (ht : termE t = true) (hs : ∀ v ∈ L, v.toks.length ≤ 5000) :
    Calls Tryz.prog 91 #[.agg #[.int .i64 t.kind, .string t.name, .int .i64 t.num], av] w (RetWr w (applyV t (L.getD 0 zV) (L.getD 1 zV)) t.kind) := by
  obtain ⟨h1, h2, hn1, n0, n1⟩ := term_bd ht
  obtain ⟨k, nm, n⟩ := t
  dsimp only at *
  rcases (by omega : k = 1 ∨ k = 2 ∨ k = 3 ∨ k = 4 ∨ k = 5 ∨ k = 6 ∨ 7 ≤ k) with rfl | rfl | rfl | rfl | rfl | rfl | h7
  · exact sApplyName_any nm n av w (name_size (hn1 rfl))
  · exact sApplyTrue_any nm n av w
  · exact sApplyFalse_any nm n av w
  · have hl : L.length = 1 := by have : takes 4 = 1 := by decide
                                 omega
    obtain ⟨A, rfl⟩ := List.length_eq_one_iff.1 hl
    exact sApplyNot_any A nm n av w ha (hs A (by simp))
  · have hl : L.length = 2 := by have : takes 5 = 2 := by decide
                                 omega
    obtain ⟨A, B, rfl⟩ : ∃ A B, L = [A, B] := by match L, hl with | [A, B], _ => exact ⟨A, B, rfl⟩
    exact sApplyAnd_any A B nm n av w ha (hs A (by simp)) (hs B (by simp))
  · have hl : L.length = 2 := by have : takes 6 = 2 := by decide
                                 omega
    obtain ⟨A, B, rfl⟩ : ∃ A B, L = [A, B] := by match L, hl with | [A, B], _ => exact ⟨A, B, rfl⟩
    exact sApplyOr_any A B nm n av w ha (hs A (by simp)) (hs B (by simp))
  · have hb := takes_bd k
    have h0 : takes k ≠ 0 := fun h => by have := takes_k.1 h; omega
    have h := sApplyBlk_any k nm n L av w h7 h2 n0 n1 ha (by omega) hs
    have e : applyV ⟨k, nm, n⟩ (L.getD 0 zV) (L.getD 1 zV) = [kwOf k, cOp] ++ argT L L.length ++ numT ⟨k, nm, n⟩ ++ [cCl] := by
      rw [argT_all (t := ⟨k, nm, n⟩) hL (by omega)]
      unfold applyV
      rw [if_neg (by dsimp only; omega), if_neg (by dsimp only; omega), if_neg (by dsimp only; omega), if_neg (by dsimp only; omega), if_neg (by dsimp only; omega), if_neg (by dsimp only; omega), blkV]
      simp
    rw [e]; exact h
theorem infoSp : (Tryz.prog.info? 135).map (fun i => (i.zero, i.size, i.bytes)) = some (some (Value.agg #[.slice none 0 0, .int .i64 0]), 2, 32) := by kernel_rfl
theorem rdW_of_blk {w : World} {q : Nat} {sv : Value} {k : Int} {T : TypeId} (h : Blk w q #[sv, .int .i64 k] T) : Rd w (.slice (some ⟨q, 0, none⟩) 1 1) 1 (encW (sv, k)) := by
  refine ⟨some ⟨q, 0, none⟩, 1, rfl, by omega, ⟨(fun h => by cases h), Nat.le_refl _⟩, fun j u hu => ⟨q, 0, rfl, h.lt, ?_⟩⟩
  rw [Nat.zero_add, h.rules.1]
  simpa [encW] using hu
set_option maxHeartbeats 8000000 in
theorem sExprTokens_any (v : Value) (ts : List ETerm) (w : World) (hv : RdT w v ts) (ho : okH ts = true) :
    Calls Tryz.prog 53 #[v] w (RetTk w (exprT ts)) := by
  obtain ⟨i0, hi, hz0, hz1, hz2⟩ := info_parts infoSp
  obtain ⟨R, hr, h1, hl⟩ := okH_run ho
  have HAT := Lib.hid (fun k (h : k < ts.length) => exp_at hr h)
  have HTT := Lib.hid (fun k (h : k ≤ ts.length) => exp_tot hr k h)
  have hend := (exprT_facts ho).2.2
  obtain ⟨a, cap, rfl, hm, HC⟩ := Rd.flat encTerm_len (by omega) hv
  clear hv ho hr
  go_enter Tryz.func53, Tryz.ntmps53
  go_wp2_with fail
  go_loopw [3, 4] (fun st i wr => ∃ j : Nat, j ≤ ts.length ∧ i = .int .i64 j ∧ New w wr ∧ ∃ g sc, st = .slice (some ⟨g, 0, none⟩) (expV ts j).length sc ∧ RdW wr st (expV ts j)) (fun _ i _ => ts.length - (intOf i).toNat)
  case atStart => exact ⟨0, Nat.zero_le _, rfl, (New.refl w).alloc _, _, 0, rfl, (ownW_empty (Nat.le_refl _) _).rd⟩
  case round =>
    obtain ⟨j, hj, rfl, hN, g, sc, rfl, hrd⟩ := hrel
    have hNz := hN.size
    by_cases hlt : j < ts.length
    · obtain ⟨b, off, rfl, hbl, hx⟩ := HC.out j hlt
      have x0 : wr.cell? ⟨b, off + j * 3, none⟩ = some (.int .i64 ts[j].kind) := (hN.cell hbl).trans (hx 0 _ (by omega) rfl)
      have x1 : wr.cell? ⟨b, off + j * 3 + 1, none⟩ = some (.string ts[j].name) := (hN.cell hbl).trans (hx 1 _ (by omega) rfl)
      have x2 : wr.cell? ⟨b, off + j * 3 + 2, none⟩ = some (.int .i64 ts[j].num) := (hN.cell hbl).trans (hx 2 _ (by omega) rfl)
      clear hx
      have hbr : b < wr.heap.size := by omega
      obtain ⟨ht, htk⟩ := HAT.out j hlt
      have HX := Lib.hid (expV_next hlt)
      have htot := HTT.out j hj
      have hT6 : ∀ v ∈ expV ts j, v.toks.length ≤ 5000 := fun v hv => by have := tot_mem hv; omega
      have hll := expV_len ts j hj
      generalize ts[j] = t at x0 x1 x2 ht htk HX
      generalize expV ts j = L at hrd HX htk hT6 hll htot
      have hb := takes_bd t.kind
      obtain ⟨f, hf⟩ : ∃ f : Nat, frV L t = f := ⟨_, rfl⟩
      have hfl : f ≤ L.length ∧ (L.length : Int) - takes t.kind = f := by rw [frV] at hf; omega
      have HS := Lib.hid (stV_at hf)
      have hdl : ((L.drop f).length : Int) = takes t.kind := by rw [List.length_drop]; omega
      have HW := Lib.hid (fun (av : Value) (w0 : World) (ha : RdW w0 av (L.drop f)) => sApply_any t av (L.drop f) w0 ha hdl ht (fun v hv => hT6 v (List.mem_of_mem_drop hv)))
      have HTK := Lib.hid (fun (w0 : World) => sTakes_any t.kind w0)
      clear hf ht hdl htk hT6 htot
      generalize applyV t ((L.drop f).getD 0 zV) ((L.drop f).getD 1 zV) = TT at HS HW
      obtain ⟨hf1, hf2⟩ := hfl
      generalize takes t.kind = tk at *
      obtain ⟨k, nm, n⟩ := t
      dsimp only at *
      have HRD := Lib.hid hrd
      obtain ⟨_, _, e9, hm9, hcp, _, _⟩ := hrd.open
      cases e9
      clear hrd
      have hfc : f ≤ sc := by omega
      have hji : (j : Int) < (ts.length : Int) := by omega
      have hj0 : ¬ ((j : Int) < 0) := by omega
      go_wp2_with (first | (go_at_call 90; refine (HTK.out _).mono ?_; rintro e _ ⟨rfl, rfl⟩))
      refine RG.wp_facts [fun X _ => X = .slice (some ⟨b, off, none⟩) ts.length cap, fun X _ => X = .int .i64 (j : Int), fun X _ => X = .pointer (some ⟨b, off + j * 3, none⟩), fun X _ => X = .agg #[.int .i64 k, .string nm, .int .i64 n], fun X _ => X = .slice (some ⟨g, 0, none⟩) L.length sc, fun X _ => X = .int .i64 (f : Nat), fun X W' => RdW W' X (L.drop f), fun X W' => ∃ q c, X = .agg #[.slice q TT.length c, .int .i64 k] ∧ RdX W' (.slice q TT.length c) TT, fun X W' => ∃ q, X = .pointer (some ⟨q, 0, none⟩) ∧ wr.heap.size ≤ q ∧ Blk W' q #[.slice none 0 0, .int .i64 0] 135] (by kernel_rfl) (by kernel_rfl) ⟨RG.stable_eq _, RG.stable_eq _, RG.stable_eq _, RG.stable_eq _, RG.stable_eq _, RG.stable_eq _, fun X w0 w1 hn k29 => k29.new hn, fun X w0 w1 hn ⟨a30, c30, t30, k30⟩ => ⟨a30, c30, t30, k30.new hn⟩, fun X w0 w1 hn ⟨q6, t6, l6, k6⟩ => ⟨q6, t6, l6, k6.new hn⟩, trivial⟩ ?_ ?_
      · refine ⟨?_, ?_, ?_, ?_, ?_, ?_, ?_, ?_, ?_, trivial⟩
        · intro a w9 hw ho hk
          refine .inl ⟨by rfl, ?_⟩
          have t2 := ho 0 rfl
          dsimp at t2
          try with_reducible replace hw := New.undrawN hw
          try with_reducible replace hw := New.undraw hw
          obtain ⟨c, f'⟩ := hw.rules
          go_simp
          exact New.refl _
        · intro a w9 hw ho hk
          refine .inl ⟨by rfl, ?_⟩
          have t2 := ho 4 rfl
          dsimp at t2
          try with_reducible replace hw := New.undrawN hw
          try with_reducible replace hw := New.undraw hw
          obtain ⟨c, f'⟩ := hw.rules
          go_simp
          exact New.refl _
        · intro a w9 hw ho hk
          refine .inl ⟨by rfl, ?_⟩
          have t23 : a.tmps[23]?.getD undef = .slice (some ⟨b, off, none⟩) ts.length cap := hk 0 23 (by kernel_rfl) rfl
          have t24 : a.tmps[24]?.getD undef = .int .i64 (j : Int) := hk 1 24 (by kernel_rfl) rfl
          go_simp
          exact New.refl _
        · intro a w9 hw ho hk
          refine .inl ⟨by rfl, ?_⟩
          have t25 : a.tmps[25]?.getD undef = .pointer (some ⟨b, off + j * 3, none⟩) := hk 2 25 (by kernel_rfl) rfl
          try with_reducible replace hw := New.undrawN hw
          try with_reducible replace hw := New.undraw hw
          obtain ⟨c, f'⟩ := hw.rules
          go_simp
          exact New.refl _
        · intro a w9 hw ho hk
          refine .inl ⟨by rfl, ?_⟩
          have t2 := ho 3 rfl
          dsimp at t2
          try with_reducible replace hw := New.undrawN hw
          try with_reducible replace hw := New.undraw hw
          obtain ⟨c, f'⟩ := hw.rules
          go_simp
          exact New.refl _
        · intro a w9 hw ho hk
          refine .inl ⟨by rfl, ?_⟩
          have t2 := ho 5 rfl
          dsimp at t2
          try with_reducible replace hw := New.undrawN hw
          try with_reducible replace hw := New.undraw hw
          obtain ⟨c, f'⟩ := hw.rules
          go_simp
          exact New.refl _
        · intro a w9 hw ho hk
          refine .inl ⟨by rfl, ?_⟩
          have t27 : a.tmps[27]?.getD undef = .slice (some ⟨g, 0, none⟩) L.length sc := hk 4 27 (by kernel_rfl) rfl
          have t28 : a.tmps[28]?.getD undef = .int .i64 (f : Nat) := hk 5 28 (by kernel_rfl) rfl
          go_simp
          first | exact ⟨New.refl _, _, rfl, RdW.drop0 (HRD.out.new (New.trans (show New wr _ by exact (by repeat (first | with_reducible exact New.refl _ | with_reducible assumption | with_reducible refine New.drew ?_ | with_reducible refine New.drewN ?_ _ | with_reducible refine New.alloc ?_ _ | with_reducible refine New.setCell ?_ (by first | (simp; done) | (simp; omega) | omega) _ | with_reducible refine New.trans ?_ (by with_reducible assumption)))) hw)) (by omega)⟩ | exact ⟨New.refl _, RdW.drop0 (HRD.out.new (New.trans (show New wr _ by exact (by repeat (first | with_reducible exact New.refl _ | with_reducible assumption | with_reducible refine New.drew ?_ | with_reducible refine New.drewN ?_ _ | with_reducible refine New.alloc ?_ _ | with_reducible refine New.setCell ?_ (by first | (simp; done) | (simp; omega) | omega) _ | with_reducible refine New.trans ?_ (by with_reducible assumption)))) hw)) (by omega)⟩
        · intro a w9 hw ho hk
          refine .inl ⟨by rfl, ?_⟩
          have t26 : a.tmps[26]?.getD undef = .agg #[.int .i64 k, .string nm, .int .i64 n] := hk 3 26 (by kernel_rfl) rfl
          obtain k29 : RdW w9 (a.tmps[29]?.getD undef) (L.drop f) := hk 6 29 (by kernel_rfl) rfl
          go_simp
          refine (HW.out _ _ k29).mono ?_; rintro e w2 ⟨q, c, rfl, hb, o⟩
          first | exact ⟨hb, _, rfl, _, _, rfl, o⟩ | exact ⟨hb, _, _, by simp, o⟩
        · intro a w9 hw ho hk
          refine .inl ⟨by rfl, ?_⟩
          have hws := hw.size; go_simp; first | exact ⟨(New.refl _).alloc _, _, rfl, _, rfl, by omega, Blk.alloc_at rfl⟩ | exact ⟨(New.refl _).alloc _, _, by simp, by omega, Blk.alloc_at rfl⟩
      intro w3 b3 x23 h23 x24 h24 x25 h25 x26 h26 x27 h27 x28 h28 x29 k29 x30 ⟨a30, c30, t30, k30⟩ x6 ⟨q6, t6, l6, k6⟩
      subst h23 h24 h25 h26 h27 h28 t30 t6
      try with_reducible replace b3 := New.undrawN b3
      try with_reducible replace b3 := New.undraw b3
      obtain ⟨c3, f3⟩ := b3.rules
      have z3 := b3.size
      try simp only [World.size_alloc, World.size_drew, World.heap_drewN, World.size_setCell] at z3
      simp only [RG.EndAll, List.nil_append, List.cons_append, List.length_cons, List.length_nil, Nat.zero_add, Nat.reduceAdd, List.take_succ_cons, List.take_zero, List.drop_succ_cons, List.drop_zero, RG.putAll, Act.put, List.setIfInBounds_toArray, List.set_cons_succ, List.set_cons_zero]
      have lt6 := k6.lt
      obtain ⟨c6, f6⟩ := k6.rules
      go_wp2_with fail
      have N4 : New w ((w3.setCell ⟨q6, 0, none⟩ (.slice a30 TT.length c30)).setCell ⟨q6, 1, none⟩ (.int .i64 k)) := by exact (by repeat (first | with_reducible exact New.refl _ | with_reducible assumption | with_reducible refine New.drew ?_ | with_reducible refine New.drewN ?_ _ | with_reducible refine New.alloc ?_ _ | with_reducible refine New.setCell ?_ (by first | (simp; done) | (simp; omega) | omega) _ | with_reducible refine New.trans ?_ (by with_reducible assumption)))
      have K4 := (k6.set 0 (.slice a30 TT.length c30)).set 1 (.int .i64 k)
      have N34 : New wr ((w3.setCell ⟨q6, 0, none⟩ (.slice a30 TT.length c30)).setCell ⟨q6, 1, none⟩ (.int .i64 k)) := by exact (by repeat (first | with_reducible exact New.refl _ | with_reducible assumption | with_reducible refine New.drew ?_ | with_reducible refine New.drewN ?_ _ | with_reducible refine New.alloc ?_ _ | with_reducible refine New.setCell ?_ (by first | (simp; done) | (simp; omega) | omega) _ | with_reducible refine New.trans ?_ (by with_reducible assumption)))
      simp only [List.setIfInBounds_toArray, List.set_cons_succ, List.set_cons_zero] at K4
      have k4 := (k30.setS (o := 0) k6 (.slice a30 TT.length c30)).setS (o := 1) (k6.set 0 (.slice a30 TT.length c30)) (.int .i64 k)
      generalize ((w3.setCell ⟨q6, 0, none⟩ (.slice a30 TT.length c30)).setCell ⟨q6, 1, none⟩ (.int .i64 k)) = w4 at N4 K4 N34 k4 ⊢
      clear c3 f3 c6 f6 k6 k30 k29 b3
      have lt4 := K4.lt
      obtain ⟨c4, f4⟩ := K4.rules
      obtain ⟨ps, hps, rdp⟩ := RdW.take (HRD.out.new N34) hf1 hfc
      have hpl : ps.length = f := by rw [hps.1, List.length_take]; omega
      have HPS := Lib.hid hps
      have RDP := Lib.hid rdp
      have HPL := Lib.hid hpl
      clear hps rdp hpl
      refine RG.wp_facts [fun X W' => ∃ q, X = .slice (some ⟨q, 0, none⟩) 0 0 ∧ w4.heap.size ≤ q ∧ Blk W' q #[] 135, fun X _ => X = .slice (some ⟨g, 0, none⟩) L.length sc, fun X _ => X = .int .i64 (f : Nat), fun X _ => X = .slice (some ⟨g, 0, none⟩) f sc, fun X W' => W'.ownsRow w4.heap.size 135 2 X ps.length (ps.flatMap encW), fun X _ => X = .agg #[.slice a30 TT.length c30, .int .i64 k], fun X W' => ∃ q, X = .slice (some ⟨q, 0, none⟩) 1 1 ∧ Blk W' q #[.slice a30 TT.length c30, .int .i64 k] 135] (by kernel_rfl) (by kernel_rfl) ⟨fun X w0 w1 hn ⟨q31, t31, l31, o31⟩ => ⟨q31, t31, l31, o31.new hn⟩, RG.stable_eq _, RG.stable_eq _, RG.stable_eq _, fun X w0 w1 hn r35 => own_new r35 hn, RG.stable_eq _, fun X w0 w1 hn ⟨q37, t37, k37⟩ => ⟨q37, t37, k37.new hn⟩, trivial⟩ ?_ ?_
      · refine ⟨?_, ?_, ?_, ?_, ?_, ?_, ?_, trivial⟩
        · intro a w9 hw ho hk
          refine .inl ⟨by rfl, ?_⟩
          have hws := hw.size; go_simp; first | exact ⟨(New.refl _).alloc _, _, rfl, _, rfl, hws, Blk.alloc_at rfl⟩ | exact ⟨(New.refl _).alloc _, _, by simp, hws, Blk.alloc_at rfl⟩
        · intro a w9 hw ho hk
          refine .inl ⟨by rfl, ?_⟩
          have t2 := ho 3 rfl
          dsimp at t2
          try with_reducible replace hw := New.undrawN hw
          try with_reducible replace hw := New.undraw hw
          obtain ⟨c, f'⟩ := hw.rules
          go_simp
          exact New.refl _
        · intro a w9 hw ho hk
          refine .inl ⟨by rfl, ?_⟩
          have t2 := ho 5 rfl
          dsimp at t2
          try with_reducible replace hw := New.undrawN hw
          try with_reducible replace hw := New.undraw hw
          obtain ⟨c, f'⟩ := hw.rules
          go_simp
          exact New.refl _
        · intro a w9 hw ho hk
          refine .inl ⟨by rfl, ?_⟩
          have t32 : a.tmps[32]?.getD undef = .slice (some ⟨g, 0, none⟩) L.length sc := hk 1 32 (by kernel_rfl) rfl
          have t33 : a.tmps[33]?.getD undef = .int .i64 (f : Nat) := hk 2 33 (by kernel_rfl) rfl
          go_simp
          exact New.refl _
        · intro a w9 hw ho hk
          refine .inl ⟨by rfl, ?_⟩
          obtain ⟨q31, t31, l31, o31⟩ : ∃ q, (a.tmps[31]?.getD undef) = .slice (some ⟨q, 0, none⟩) 0 0 ∧ w4.heap.size ≤ q ∧ Blk w9 q #[] 135 := hk 0 31 (by kernel_rfl) rfl
          have t34 : a.tmps[34]?.getD undef = .slice (some ⟨g, 0, none⟩) f sc := hk 3 34 (by kernel_rfl) rfl
          have hws := hw.size; have hpq := HPL.out; exact wp_append_fresh _ _ 133 rfl 135 i0 (Value.agg #[.slice none 0 0, .int .i64 0]) 2 32 Tryz.underlying133 hi hz0 hz1 hz2 rfl (by decide) w4.heap.size q31 l31 (by first | (simp [Act.eval, Act.get]; exact t31) | simp [Act.eval, t31]) o31 (.slice (some ⟨g, 0, none⟩) f sc) ps.length (ps.flatMap encW) (by first | (simp [Act.eval, Act.get]; exact t34) | simp [Act.eval, t34]) (by have h9 := Rd.new RDP.out hw; rw [← hpq]; rw [← hpq] at h9; exact h9) (flat_length encW 2 encW_len _) (encW_one ps HPS.out.one) (by unfold maxLen; omega) (by omega) hws (fun v2 w2 hn2 hr2 => ⟨hn2, _, rfl, hr2⟩)
        · intro a w9 hw ho hk
          refine .inl ⟨by rfl, ?_⟩
          have t2 := ho 6 rfl
          dsimp at t2
          try with_reducible replace hw := New.undrawN hw
          try with_reducible replace hw := New.undraw hw
          obtain ⟨c, f'⟩ := hw.rules
          go_simp
          exact New.refl _
        · intro a w9 hw ho hk
          refine .inl ⟨by rfl, ?_⟩
          have t36 : a.tmps[36]?.getD undef = .agg #[.slice a30 TT.length c30, .int .i64 k] := hk 5 36 (by kernel_rfl) rfl
          go_simp; first | exact ⟨(New.refl _).alloc _, _, rfl, _, rfl, Blk.alloc_at rfl⟩ | exact ⟨(New.refl _).alloc _, _, by simp, Blk.alloc_at rfl⟩
      intro w5 b5 x31 ⟨q31, t31, l31, o31⟩ x32 h32 x33 h33 x34 h34 x35 r35 x36 h36 x37 ⟨q37, t37, k37⟩
      subst t31 h32 h33 h34 h36 t37
      have hb5 := b5.size
      have hpq := HPL.out
      try with_reducible replace b5 := New.undrawN b5
      try with_reducible replace b5 := New.undraw b5
      obtain ⟨c5, f5⟩ := b5.rules
      have z5 := b5.size
      try simp only [World.size_alloc, World.size_drew, World.heap_drewN, World.size_setCell] at z5
      simp only [RG.EndAll, List.nil_append, List.cons_append, List.length_cons, List.length_nil, Nat.zero_add, Nat.reduceAdd, List.take_succ_cons, List.take_zero, List.drop_succ_cons, List.drop_zero, RG.putAll, Act.put, List.setIfInBounds_toArray, List.set_cons_succ, List.set_cons_zero]
      go_wp2_with (at_builtin; refine wpList_append_rd rfl _ _ 133 rfl w4.heap.size 135 i0 (Value.agg #[.slice none 0 0, .int .i64 0]) 2 32 Tryz.underlying133 hi hz0 hz1 hz2 rfl (by decide) _ _ _ rfl r35 _ 1 (encW (.slice a30 TT.length c30, k)) rfl (rdW_of_blk k37) rfl (by intro u hu; simp [encW] at hu; rcases hu with rfl | rfl <;> rfl) (by unfold maxLen; omega) (by omega) hb5 ?_; intro va wa howna hgra)
      have N4a : New w4 wa := New.grown b5 hgra (fun q hq => (own_block_lt r35 q hq).1)
      have OA : OwnW 135 w4.heap.size wa va (L.take f ++ [⟨TT, k⟩]) := ⟨ps ++ [(.slice a30 TT.length c30, k)], (HPS.out.new N4a).snoc (k4.new N4a), by rw [List.length_append, List.flatMap_append]; simpa using howna⟩
      rcases OA.st (by simp) with ⟨_, h9⟩ | ⟨g', sc', rfl, hrd'⟩
      · simp at h9
      · go_roundw
        case rel => exact ⟨j + 1, by omega, by go_num, N4.trans N4a, g', sc', by rw [HX.out, HS.out], by rw [HX.out, HS.out]; exact hrd'⟩
        case measure => simp [intOf]; omega
    · obtain rfl : j = ts.length := by omega
      have hE : exprT ts = ((expV ts ts.length).getD 0 zV).toks := rfl
      generalize expV ts ts.length = L at hrd hend hE
      obtain ⟨_, _, e9, _, _, _, HA⟩ := hrd.open
      cases e9
      obtain ⟨g', off', sa, sd, e8, hg, y0, y1, hT⟩ := HA.out 0 (by omega)
      cases e8
      have HE := Lib.hid (show exprT ts = L[0].toks by rw [hE]; simp [List.getD, show 0 < L.length by omega])
      rw [hend] at *
      simp only [Nat.zero_mul, Nat.add_zero, Nat.zero_add] at y0 y1
      have RT := Lib.hid hT
      clear hT HA hrd hE
      generalize L[0].toks = TT at *
      go_wp2_with fail
      go_ret
      exact ⟨sa, sd, by rw [HE.out]; rfl, hN, by rw [HE.out]; exact RT.out⟩
end Go.Proofs.YteielmihlfakgaaGreatDoor
