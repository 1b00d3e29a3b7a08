/- Contracts: tokens of a term's value: the reference. -/
import Derived.Test.YteielmihlfakgaaGreatDoorProg
import Derived.Test.YteielmihlfakgaaGreatDoorExpS
namespace Go.Proofs.YteielmihlfakgaaGreatDoor
open Go Go.Proofs Go.RowKit
set_option linter.unusedVariables false
set_option linter.unusedSimpArgs false
set_option maxRecDepth 100000
set_option maxHeartbeats 4000000 in
theorem sApplyNot_any (A : VT) (nm : ByteArray) (n : Int) (av : Value) (w : World) (ha : RdW w av [A]) (hs : A.toks.length ≤ 5000) :
    Calls Tryz.prog 91 #[.agg #[.int .i64 4, .string nm, .int .i64 n], av] w (RetWr w (kwN 8 :: clV (looseN A) A.toks) 4) := by
  obtain ⟨aa, ac, rfl, hm, hcp, _, HA⟩ := ha.open
  obtain ⟨b, off, sa, sc, rfl, hbl, x0, x1, hTA⟩ := HA.out 0 (by simp)
  simp only [List.length_cons, List.length_nil, Nat.zero_add, List.getElem_cons_zero, List.getElem_cons_succ, Nat.zero_mul, Nat.one_mul, Nat.add_zero, Nat.reduceAdd] at x0 x1 hTA hcp ⊢
  have RA := Lib.hid hTA
  clear ha HA hTA hm
  have hb1 : b < w.heap.size + 1 := by omega
  have hb2 : b < w.heap.size + 1 + 1 := by omega
  have hc : ((A.kind == 5) = true ∧ looseN A = true) ∨ ((A.kind == 5) = false ∧ (A.kind == 6) = true ∧ looseN A = true) ∨ ((A.kind == 5) = false ∧ (A.kind == 6) = false ∧ looseN A = false) := by
    by_cases h5 : A.kind = 5
    · exact .inl ⟨by simp [h5], by simp [looseN, h5]⟩
    · by_cases h6 : A.kind = 6
      · exact .inr (.inl ⟨by simp [h5], by simp [h6], by simp [looseN, h6]⟩)
      · exact .inr (.inr ⟨by simp [h5], by simp [h6], by simp [looseN, h5, h6]⟩)
  have hcl := clV_len (looseN A) A.toks
  obtain ⟨TT, hTT⟩ : ∃ TT, TT = kwN 8 :: clV (looseN A) A.toks := ⟨_, rfl⟩
  have HTT := Lib.hid (show [kwN 8] ++ clV (looseN A) A.toks = TT by rw [hTT]; simp)
  rw [← hTT]
  clear hTT
  generalize looseN A = lb at hc hcl HTT
  have HCL := Lib.hid (fun (w0 : World) (h : New w w0) => sClosed_any (.slice sa A.toks.length sc) A.toks A.kind lb w0 (RA.out.new h) (by omega))
  rcases hc with ⟨hk5, rfl⟩ | ⟨hk5, hk6, rfl⟩ | ⟨hk5, hk6, rfl⟩
  · skip
    go_enter Tryz.func91, Tryz.ntmps91
    go_wp2_with fail
    refine RC.wp_facts (132) (_) (fun _ => True) [fun X W' => ∃ q, X = .slice (some ⟨q, 0, none⟩) 1 1 ∧ Blk W' q #[.string (kwN 8)] 9, fun X W' => ∃ q c, X = .slice q 1 c ∧ OwnX (w.heap.size + 1 + 1) W' (.slice q 1 c) [kwN 8], fun X _ => X = .slice (some ⟨b, off, none⟩) 1 ac, fun X _ => X = .pointer (some ⟨b, off, none⟩), fun X _ => X = .agg #[.slice sa A.toks.length sc, .int .i64 A.kind], fun X _ => X = .bool true, fun X W' => ∃ q c, X = .slice q (clV true A.toks).length c ∧ RdX W' (.slice q (clV true A.toks).length c) (clV true A.toks), fun X W' => ∃ q c, X = .slice q (TT).length c ∧ OwnX (w.heap.size + 1 + 1) W' (.slice q (TT).length c) (TT), fun X _ => X = .pointer (some ⟨w.heap.size, 0, none⟩), fun X _ => X = .int .i64 4, fun X W' => ∃ q c, X = .agg #[.slice q TT.length c, .int .i64 4] ∧ OwnX (w.heap.size + 1 + 1) W' (.slice q TT.length c) TT] [none, some 7, none, none, none, none, some 7, some 10, none, none, some 61] [false, false, false, false, false, false, false, true, false, false, false] (by kernel_rfl) (by kernel_rfl) (by kernel_rfl) (New.refl _) (trivial) (fun _ _ _ h => h) ⟨fun X w0 w1 hn ⟨q36, t36, k36⟩ => ⟨q36, t36, k36.new hn⟩, fun X w0 w1 hn ⟨a37, c37, t37, o37⟩ => ⟨a37, c37, t37, o37.new hn⟩, RG.stable_eq _, RG.stable_eq _, RG.stable_eq _, RG.stable_eq _, fun X w0 w1 hn ⟨a42, c42, t42, k42⟩ => ⟨a42, c42, t42, k42.new hn⟩, fun X w0 w1 hn ⟨a43, c43, t43, o43⟩ => ⟨a43, c43, t43, o43.new hn⟩, RG.stable_eq _, RG.stable_eq _, fun X w0 w1 hn ⟨a46, c46, t46, o46⟩ => ⟨a46, c46, t46, o46.new hn⟩, trivial⟩ ⟨fun X w0 w1 hw0 hn ⟨q36, t36, k36⟩ => ⟨q36, t36, hn.blk _ _ _ k36 (by decide)⟩, RC.stable_eqG _ _ _, RC.stable_eqG _ _ _, RC.stable_eqG _ _ _, RC.stable_eqG _ _ _, RC.stable_eqG _ _ _, RC.stable_eqG _ _ _, trivial⟩ ?_ ?_
    · refine ⟨?_, ?_, ?_, ?_, ?_, ?_, ?_, ?_, ?_, ?_, ?_, trivial⟩
      · intro a w9 hw hj ho hk
        refine .inl ⟨by rfl, ?_⟩
        simp only [Bool.false_eq_true, if_false, if_true, eq_self_iff_true]
        go_simp; first | exact ⟨(New.refl _).alloc _, _, rfl, _, rfl, Blk.alloc_at rfl⟩ | exact ⟨(New.refl _).alloc _, _, by simp, Blk.alloc_at rfl⟩
      · intro a w9 hw hj ho hk
        refine .inl ⟨by rfl, ?_⟩
        simp only [Bool.false_eq_true, if_false, if_true, eq_self_iff_true]
        obtain ⟨q36, t36, k36⟩ : ∃ q, (a.tmps[36]?.getD undef) = .slice (some ⟨q, 0, none⟩) 1 1 ∧ Blk w9 q #[.string (kwN 8)] 9 := hk 0 36 (by kernel_rfl) rfl
        go_simp
        refine (sTokens_any _ [kwN 8] _ (rdS_blk [kwN 8] k36) (ok_kw 8) (by simp)).mono ?_; rintro e w2 ⟨r, rfl, hb, o⟩
        have hzw := hw.size; obtain ⟨q, c, rfl⟩ := o.slice; exact ⟨hb, _, rfl, _, _, rfl, o.base (by first | (simp only [World.size_alloc] at hzw; omega) | omega)⟩
      · intro a w9 hw hj ho hk
        refine .inl ⟨by rfl, ?_⟩
        simp only [Bool.false_eq_true, if_false, if_true, eq_self_iff_true]
        have t2 := ho 1 rfl
        dsimp at t2
        try with_reducible replace hw := New.undrawN hw
        try with_reducible replace hw := New.undraw hw
        obtain ⟨c, f'⟩ := hw.rules
        go_simp
        exact New.refl _
      · intro a w9 hw hj ho hk
        refine .inl ⟨by rfl, ?_⟩
        simp only [Bool.false_eq_true, if_false, if_true, eq_self_iff_true]
        have t38 : a.tmps[38]?.getD undef = .slice (some ⟨b, off, none⟩) 1 ac := hk 2 38 (by kernel_rfl) rfl
        go_simp
        exact New.refl _
      · intro a w9 hw hj ho hk
        refine .inl ⟨by rfl, ?_⟩
        simp only [Bool.false_eq_true, if_false, if_true, eq_self_iff_true]
        have t39 : a.tmps[39]?.getD undef = .pointer (some ⟨b, off, none⟩) := hk 3 39 (by kernel_rfl) rfl
        try with_reducible replace hw := New.undrawN hw
        try with_reducible replace hw := New.undraw hw
        obtain ⟨c, f'⟩ := hw.rules
        go_simp
        exact New.refl _
      · intro a w9 hw hj ho hk
        refine .inl ⟨by rfl, ?_⟩
        simp only [Bool.false_eq_true, if_false, if_true, eq_self_iff_true]
        have t2 := ho 5 rfl
        dsimp at t2
        try with_reducible replace hw := New.undrawN hw
        try with_reducible replace hw := New.undraw hw
        obtain ⟨c, f'⟩ := hw.rules
        go_simp
        exact New.refl _
      · intro a w9 hw hj ho hk
        refine .inl ⟨by rfl, ?_⟩
        simp only [Bool.false_eq_true, if_false, if_true, eq_self_iff_true]
        have t40 : a.tmps[40]?.getD undef = .agg #[.slice sa A.toks.length sc, .int .i64 A.kind] := hk 4 40 (by kernel_rfl) rfl
        have t41 : a.tmps[41]?.getD undef = .bool true := hk 5 41 (by kernel_rfl) rfl
        go_simp
        refine (HCL.out _ (New.trans (show New w _ by exact (by repeat (first | with_reducible exact New.refl _ | with_reducible assumption | with_reducible refine New.drew ?_ | with_reducible refine New.drewN ?_ _ | with_reducible refine New.alloc ?_ _ | with_reducible refine New.setCell ?_ (by first | (simp; done) | (simp; omega) | omega) _ | with_reducible refine New.trans ?_ (by with_reducible assumption)))) hw)).mono ?_; rintro e w2 ⟨q, c, rfl, hb, o⟩
        first | exact ⟨hb, _, rfl, _, _, rfl, o⟩ | exact ⟨hb, _, _, by simp, o⟩
      · intro a w9 hw hj ho hk
        refine .inl ⟨by rfl, ?_⟩
        simp only [Bool.false_eq_true, if_false, if_true, eq_self_iff_true]
        obtain ⟨a37, c37, t37, o37⟩ : ∃ q c, (a.tmps[37]?.getD undef) = .slice q 1 c ∧ OwnX (w.heap.size + 1 + 1) w9 (.slice q 1 c) [kwN 8] := hk 1 37 (by kernel_rfl) rfl
        obtain ⟨a42, c42, t42, k42⟩ : ∃ q c, (a.tmps[42]?.getD undef) = .slice q (clV true A.toks).length c ∧ RdX w9 (.slice q (clV true A.toks).length c) (clV true A.toks) := hk 6 42 (by kernel_rfl) rfl
        have hzw := hw.size; exact wp_append_XG _ _ rfl (w.heap.size + 1 + 1) _ ([kwN 8]) (by first | (simp [Act.eval, Act.get]; exact t37) | simp [Act.eval, t37]) (o37) _ (clV true A.toks) (by first | (simp [Act.eval, Act.get]; exact t42) | simp [Act.eval, t42]) (k42) (by first | (simp only [List.length_cons, List.length_nil, List.length_append] at *; omega) | omega) (by first | (simp only [World.size_alloc] at hzw; omega) | omega) (fun v2 w2 h2 g2 => by rw [HTT.out] at h2; obtain ⟨q, c, h9⟩ := h2.slice; subst h9; exact ⟨g2 _ (by first | (simp only [World.size_alloc]; omega) | omega), _, rfl, _, _, rfl, h2⟩)
      · intro a w9 hw hj ho hk
        refine .inl ⟨by rfl, ?_⟩
        simp only [Bool.false_eq_true, if_false, if_true, eq_self_iff_true]
        have t2 := ho 2 rfl
        dsimp at t2
        try with_reducible replace hw := New.undrawN hw
        try with_reducible replace hw := New.undraw hw
        obtain ⟨c, f'⟩ := hw.rules
        go_simp
        exact New.refl _
      · intro a w9 hw hj ho hk
        refine .inl ⟨by rfl, ?_⟩
        simp only [Bool.false_eq_true, if_false, if_true, eq_self_iff_true]
        have t44 : a.tmps[44]?.getD undef = .pointer (some ⟨w.heap.size, 0, none⟩) := hk 8 44 (by kernel_rfl) rfl
        try with_reducible replace hw := New.undrawN hw
        try with_reducible replace hw := New.undraw hw
        obtain ⟨c, f'⟩ := hw.rules
        go_simp
        exact New.refl _
      · intro a w9 hw hj ho hk
        refine .inl ⟨by rfl, ?_⟩
        simp only [Bool.false_eq_true, if_false, if_true, eq_self_iff_true]
        obtain ⟨a43, c43, t43, o43⟩ : ∃ q c, (a.tmps[43]?.getD undef) = .slice q (TT).length c ∧ OwnX (w.heap.size + 1 + 1) w9 (.slice q (TT).length c) (TT) := hk 7 43 (by kernel_rfl) rfl
        have t45 : a.tmps[45]?.getD undef = .int .i64 4 := hk 9 45 (by kernel_rfl) rfl
        go_simp
        first | exact ⟨New.refl _, _, rfl, _, _, rfl, o43⟩ | exact ⟨New.refl _, _, _, by simp, o43⟩
    intro w3 b3
    rintro _ ⟨q36, rfl, k36⟩
    intro _ _
    rintro _ rfl
    rintro _ rfl
    rintro _ rfl
    rintro _ rfl
    intro _ _
    intro _ _
    rintro _ rfl
    rintro _ rfl
    intro x46 h46; obtain ⟨a46, c46, rfl, o46⟩ := h46 (by simp)
    try with_reducible replace b3 := New.undrawN b3
    try with_reducible replace b3 := New.undraw b3
    obtain ⟨c3, f3⟩ := b3.rules
    have z3 := b3.size
    try simp only [World.size_alloc, World.size_drew, World.heap_drewN, World.size_setCell] at z3
    have z3_0 : w.heap.size < w3.heap.size := by omega
    have z3_1 : w.heap.size + 1 < w3.heap.size := by omega
    simp only [RC.EndAll, List.nil_append, List.cons_append, List.length_cons, List.length_nil, Nat.zero_add, Nat.reduceAdd, List.take_succ_cons, List.take_zero, List.drop_succ_cons, List.drop_zero, putAll, RG.putAll, Act.put, List.setIfInBounds_toArray, List.set_cons_succ, List.set_cons_zero]
    have KB3 : Blk w3 (w.heap.size + 1) #[.slice none 0 0, .int .i64 0] 135 := Blk.new (Blk.alloc_at (by simp)) b3
    go_wp2_with fail
    exact ret_wr rfl (show New w w3 by exact (by repeat (first | with_reducible exact New.refl _ | with_reducible assumption | with_reducible refine New.drew ?_ | with_reducible refine New.drewN ?_ _ | with_reducible refine New.alloc ?_ _ | with_reducible refine New.setCell ?_ (by first | (simp; done) | (simp; omega) | omega) _ | with_reducible refine New.trans ?_ (by with_reducible assumption)))) (by omega) KB3 (o46) (by simp [results, Tryz.results91, go_sem, c3, f3, z3_0, z3_1])
  · skip
    go_enter Tryz.func91, Tryz.ntmps91
    go_wp2_with fail
    refine RC.wp_facts (132) (_) (fun _ => True) [fun X W' => ∃ q, X = .slice (some ⟨q, 0, none⟩) 1 1 ∧ Blk W' q #[.string (kwN 8)] 9, fun X W' => ∃ q c, X = .slice q 1 c ∧ OwnX (w.heap.size + 1 + 1) W' (.slice q 1 c) [kwN 8], fun X _ => X = .slice (some ⟨b, off, none⟩) 1 ac, fun X _ => X = .pointer (some ⟨b, off, none⟩), fun X _ => X = .agg #[.slice sa A.toks.length sc, .int .i64 A.kind], fun X _ => X = .bool true, fun X W' => ∃ q c, X = .slice q (clV true A.toks).length c ∧ RdX W' (.slice q (clV true A.toks).length c) (clV true A.toks), fun X W' => ∃ q c, X = .slice q (TT).length c ∧ OwnX (w.heap.size + 1 + 1) W' (.slice q (TT).length c) (TT), fun X _ => X = .pointer (some ⟨w.heap.size, 0, none⟩), fun X _ => X = .int .i64 4, fun X W' => ∃ q c, X = .agg #[.slice q TT.length c, .int .i64 4] ∧ OwnX (w.heap.size + 1 + 1) W' (.slice q TT.length c) TT] [none, some 7, none, none, none, none, some 7, some 10, none, none, some 61] [false, false, false, false, false, false, false, true, false, false, false] (by kernel_rfl) (by kernel_rfl) (by kernel_rfl) (New.refl _) (trivial) (fun _ _ _ h => h) ⟨fun X w0 w1 hn ⟨q36, t36, k36⟩ => ⟨q36, t36, k36.new hn⟩, fun X w0 w1 hn ⟨a37, c37, t37, o37⟩ => ⟨a37, c37, t37, o37.new hn⟩, RG.stable_eq _, RG.stable_eq _, RG.stable_eq _, RG.stable_eq _, fun X w0 w1 hn ⟨a42, c42, t42, k42⟩ => ⟨a42, c42, t42, k42.new hn⟩, fun X w0 w1 hn ⟨a43, c43, t43, o43⟩ => ⟨a43, c43, t43, o43.new hn⟩, RG.stable_eq _, RG.stable_eq _, fun X w0 w1 hn ⟨a46, c46, t46, o46⟩ => ⟨a46, c46, t46, o46.new hn⟩, trivial⟩ ⟨fun X w0 w1 hw0 hn ⟨q36, t36, k36⟩ => ⟨q36, t36, hn.blk _ _ _ k36 (by decide)⟩, RC.stable_eqG _ _ _, RC.stable_eqG _ _ _, RC.stable_eqG _ _ _, RC.stable_eqG _ _ _, RC.stable_eqG _ _ _, RC.stable_eqG _ _ _, trivial⟩ ?_ ?_
    · refine ⟨?_, ?_, ?_, ?_, ?_, ?_, ?_, ?_, ?_, ?_, ?_, trivial⟩
      · intro a w9 hw hj ho hk
        refine .inl ⟨by rfl, ?_⟩
        simp only [Bool.false_eq_true, if_false, if_true, eq_self_iff_true]
        go_simp; first | exact ⟨(New.refl _).alloc _, _, rfl, _, rfl, Blk.alloc_at rfl⟩ | exact ⟨(New.refl _).alloc _, _, by simp, Blk.alloc_at rfl⟩
      · intro a w9 hw hj ho hk
        refine .inl ⟨by rfl, ?_⟩
        simp only [Bool.false_eq_true, if_false, if_true, eq_self_iff_true]
        obtain ⟨q36, t36, k36⟩ : ∃ q, (a.tmps[36]?.getD undef) = .slice (some ⟨q, 0, none⟩) 1 1 ∧ Blk w9 q #[.string (kwN 8)] 9 := hk 0 36 (by kernel_rfl) rfl
        go_simp
        refine (sTokens_any _ [kwN 8] _ (rdS_blk [kwN 8] k36) (ok_kw 8) (by simp)).mono ?_; rintro e w2 ⟨r, rfl, hb, o⟩
        have hzw := hw.size; obtain ⟨q, c, rfl⟩ := o.slice; exact ⟨hb, _, rfl, _, _, rfl, o.base (by first | (simp only [World.size_alloc] at hzw; omega) | omega)⟩
      · intro a w9 hw hj ho hk
        refine .inl ⟨by rfl, ?_⟩
        simp only [Bool.false_eq_true, if_false, if_true, eq_self_iff_true]
        have t2 := ho 1 rfl
        dsimp at t2
        try with_reducible replace hw := New.undrawN hw
        try with_reducible replace hw := New.undraw hw
        obtain ⟨c, f'⟩ := hw.rules
        go_simp
        exact New.refl _
      · intro a w9 hw hj ho hk
        refine .inl ⟨by rfl, ?_⟩
        simp only [Bool.false_eq_true, if_false, if_true, eq_self_iff_true]
        have t38 : a.tmps[38]?.getD undef = .slice (some ⟨b, off, none⟩) 1 ac := hk 2 38 (by kernel_rfl) rfl
        go_simp
        exact New.refl _
      · intro a w9 hw hj ho hk
        refine .inl ⟨by rfl, ?_⟩
        simp only [Bool.false_eq_true, if_false, if_true, eq_self_iff_true]
        have t39 : a.tmps[39]?.getD undef = .pointer (some ⟨b, off, none⟩) := hk 3 39 (by kernel_rfl) rfl
        try with_reducible replace hw := New.undrawN hw
        try with_reducible replace hw := New.undraw hw
        obtain ⟨c, f'⟩ := hw.rules
        go_simp
        exact New.refl _
      · intro a w9 hw hj ho hk
        refine .inl ⟨by rfl, ?_⟩
        simp only [Bool.false_eq_true, if_false, if_true, eq_self_iff_true]
        have t2 := ho 5 rfl
        dsimp at t2
        try with_reducible replace hw := New.undrawN hw
        try with_reducible replace hw := New.undraw hw
        obtain ⟨c, f'⟩ := hw.rules
        go_simp
        exact New.refl _
      · intro a w9 hw hj ho hk
        refine .inl ⟨by rfl, ?_⟩
        simp only [Bool.false_eq_true, if_false, if_true, eq_self_iff_true]
        have t40 : a.tmps[40]?.getD undef = .agg #[.slice sa A.toks.length sc, .int .i64 A.kind] := hk 4 40 (by kernel_rfl) rfl
        have t41 : a.tmps[41]?.getD undef = .bool true := hk 5 41 (by kernel_rfl) rfl
        go_simp
        refine (HCL.out _ (New.trans (show New w _ by exact (by repeat (first | with_reducible exact New.refl _ | with_reducible assumption | with_reducible refine New.drew ?_ | with_reducible refine New.drewN ?_ _ | with_reducible refine New.alloc ?_ _ | with_reducible refine New.setCell ?_ (by first | (simp; done) | (simp; omega) | omega) _ | with_reducible refine New.trans ?_ (by with_reducible assumption)))) hw)).mono ?_; rintro e w2 ⟨q, c, rfl, hb, o⟩
        first | exact ⟨hb, _, rfl, _, _, rfl, o⟩ | exact ⟨hb, _, _, by simp, o⟩
      · intro a w9 hw hj ho hk
        refine .inl ⟨by rfl, ?_⟩
        simp only [Bool.false_eq_true, if_false, if_true, eq_self_iff_true]
        obtain ⟨a37, c37, t37, o37⟩ : ∃ q c, (a.tmps[37]?.getD undef) = .slice q 1 c ∧ OwnX (w.heap.size + 1 + 1) w9 (.slice q 1 c) [kwN 8] := hk 1 37 (by kernel_rfl) rfl
        obtain ⟨a42, c42, t42, k42⟩ : ∃ q c, (a.tmps[42]?.getD undef) = .slice q (clV true A.toks).length c ∧ RdX w9 (.slice q (clV true A.toks).length c) (clV true A.toks) := hk 6 42 (by kernel_rfl) rfl
        have hzw := hw.size; exact wp_append_XG _ _ rfl (w.heap.size + 1 + 1) _ ([kwN 8]) (by first | (simp [Act.eval, Act.get]; exact t37) | simp [Act.eval, t37]) (o37) _ (clV true A.toks) (by first | (simp [Act.eval, Act.get]; exact t42) | simp [Act.eval, t42]) (k42) (by first | (simp only [List.length_cons, List.length_nil, List.length_append] at *; omega) | omega) (by first | (simp only [World.size_alloc] at hzw; omega) | omega) (fun v2 w2 h2 g2 => by rw [HTT.out] at h2; obtain ⟨q, c, h9⟩ := h2.slice; subst h9; exact ⟨g2 _ (by first | (simp only [World.size_alloc]; omega) | omega), _, rfl, _, _, rfl, h2⟩)
      · intro a w9 hw hj ho hk
        refine .inl ⟨by rfl, ?_⟩
        simp only [Bool.false_eq_true, if_false, if_true, eq_self_iff_true]
        have t2 := ho 2 rfl
        dsimp at t2
        try with_reducible replace hw := New.undrawN hw
        try with_reducible replace hw := New.undraw hw
        obtain ⟨c, f'⟩ := hw.rules
        go_simp
        exact New.refl _
      · intro a w9 hw hj ho hk
        refine .inl ⟨by rfl, ?_⟩
        simp only [Bool.false_eq_true, if_false, if_true, eq_self_iff_true]
        have t44 : a.tmps[44]?.getD undef = .pointer (some ⟨w.heap.size, 0, none⟩) := hk 8 44 (by kernel_rfl) rfl
        try with_reducible replace hw := New.undrawN hw
        try with_reducible replace hw := New.undraw hw
        obtain ⟨c, f'⟩ := hw.rules
        go_simp
        exact New.refl _
      · intro a w9 hw hj ho hk
        refine .inl ⟨by rfl, ?_⟩
        simp only [Bool.false_eq_true, if_false, if_true, eq_self_iff_true]
        obtain ⟨a43, c43, t43, o43⟩ : ∃ q c, (a.tmps[43]?.getD undef) = .slice q (TT).length c ∧ OwnX (w.heap.size + 1 + 1) w9 (.slice q (TT).length c) (TT) := hk 7 43 (by kernel_rfl) rfl
        have t45 : a.tmps[45]?.getD undef = .int .i64 4 := hk 9 45 (by kernel_rfl) rfl
        go_simp
        first | exact ⟨New.refl _, _, rfl, _, _, rfl, o43⟩ | exact ⟨New.refl _, _, _, by simp, o43⟩
    intro w3 b3
    rintro _ ⟨q36, rfl, k36⟩
    intro _ _
    rintro _ rfl
    rintro _ rfl
    rintro _ rfl
    rintro _ rfl
    intro _ _
    intro _ _
    rintro _ rfl
    rintro _ rfl
    intro x46 h46; obtain ⟨a46, c46, rfl, o46⟩ := h46 (by simp)
    try with_reducible replace b3 := New.undrawN b3
    try with_reducible replace b3 := New.undraw b3
    obtain ⟨c3, f3⟩ := b3.rules
    have z3 := b3.size
    try simp only [World.size_alloc, World.size_drew, World.heap_drewN, World.size_setCell] at z3
    have z3_0 : w.heap.size < w3.heap.size := by omega
    have z3_1 : w.heap.size + 1 < w3.heap.size := by omega
    simp only [RC.EndAll, List.nil_append, List.cons_append, List.length_cons, List.length_nil, Nat.zero_add, Nat.reduceAdd, List.take_succ_cons, List.take_zero, List.drop_succ_cons, List.drop_zero, putAll, RG.putAll, Act.put, List.setIfInBounds_toArray, List.set_cons_succ, List.set_cons_zero]
    have KB3 : Blk w3 (w.heap.size + 1) #[.slice none 0 0, .int .i64 0] 135 := Blk.new (Blk.alloc_at (by simp)) b3
    go_wp2_with fail
    exact ret_wr rfl (show New w w3 by exact (by repeat (first | with_reducible exact New.refl _ | with_reducible assumption | with_reducible refine New.drew ?_ | with_reducible refine New.drewN ?_ _ | with_reducible refine New.alloc ?_ _ | with_reducible refine New.setCell ?_ (by first | (simp; done) | (simp; omega) | omega) _ | with_reducible refine New.trans ?_ (by with_reducible assumption)))) (by omega) KB3 (o46) (by simp [results, Tryz.results91, go_sem, c3, f3, z3_0, z3_1])
  · skip
    go_enter Tryz.func91, Tryz.ntmps91
    go_wp2_with fail
    refine RC.wp_facts (132) (_) (fun _ => True) [fun X W' => ∃ q, X = .slice (some ⟨q, 0, none⟩) 1 1 ∧ Blk W' q #[.string (kwN 8)] 9, fun X W' => ∃ q c, X = .slice q 1 c ∧ OwnX (w.heap.size + 1 + 1) W' (.slice q 1 c) [kwN 8], fun X _ => X = .slice (some ⟨b, off, none⟩) 1 ac, fun X _ => X = .pointer (some ⟨b, off, none⟩), fun X _ => X = .agg #[.slice sa A.toks.length sc, .int .i64 A.kind], fun X _ => X = .bool false, fun X W' => ∃ q c, X = .slice q (clV false A.toks).length c ∧ RdX W' (.slice q (clV false A.toks).length c) (clV false A.toks), fun X W' => ∃ q c, X = .slice q (TT).length c ∧ OwnX (w.heap.size + 1 + 1) W' (.slice q (TT).length c) (TT), fun X _ => X = .pointer (some ⟨w.heap.size, 0, none⟩), fun X _ => X = .int .i64 4, fun X W' => ∃ q c, X = .agg #[.slice q TT.length c, .int .i64 4] ∧ OwnX (w.heap.size + 1 + 1) W' (.slice q TT.length c) TT] [none, some 7, none, none, none, none, some 7, some 10, none, none, some 61] [false, false, false, false, false, false, false, true, false, false, false] (by kernel_rfl) (by kernel_rfl) (by kernel_rfl) (New.refl _) (trivial) (fun _ _ _ h => h) ⟨fun X w0 w1 hn ⟨q36, t36, k36⟩ => ⟨q36, t36, k36.new hn⟩, fun X w0 w1 hn ⟨a37, c37, t37, o37⟩ => ⟨a37, c37, t37, o37.new hn⟩, RG.stable_eq _, RG.stable_eq _, RG.stable_eq _, RG.stable_eq _, fun X w0 w1 hn ⟨a42, c42, t42, k42⟩ => ⟨a42, c42, t42, k42.new hn⟩, fun X w0 w1 hn ⟨a43, c43, t43, o43⟩ => ⟨a43, c43, t43, o43.new hn⟩, RG.stable_eq _, RG.stable_eq _, fun X w0 w1 hn ⟨a46, c46, t46, o46⟩ => ⟨a46, c46, t46, o46.new hn⟩, trivial⟩ ⟨fun X w0 w1 hw0 hn ⟨q36, t36, k36⟩ => ⟨q36, t36, hn.blk _ _ _ k36 (by decide)⟩, RC.stable_eqG _ _ _, RC.stable_eqG _ _ _, RC.stable_eqG _ _ _, RC.stable_eqG _ _ _, RC.stable_eqG _ _ _, RC.stable_eqG _ _ _, trivial⟩ ?_ ?_
    · refine ⟨?_, ?_, ?_, ?_, ?_, ?_, ?_, ?_, ?_, ?_, ?_, trivial⟩
      · intro a w9 hw hj ho hk
        refine .inl ⟨by rfl, ?_⟩
        simp only [Bool.false_eq_true, if_false, if_true, eq_self_iff_true]
        go_simp; first | exact ⟨(New.refl _).alloc _, _, rfl, _, rfl, Blk.alloc_at rfl⟩ | exact ⟨(New.refl _).alloc _, _, by simp, Blk.alloc_at rfl⟩
      · intro a w9 hw hj ho hk
        refine .inl ⟨by rfl, ?_⟩
        simp only [Bool.false_eq_true, if_false, if_true, eq_self_iff_true]
        obtain ⟨q36, t36, k36⟩ : ∃ q, (a.tmps[36]?.getD undef) = .slice (some ⟨q, 0, none⟩) 1 1 ∧ Blk w9 q #[.string (kwN 8)] 9 := hk 0 36 (by kernel_rfl) rfl
        go_simp
        refine (sTokens_any _ [kwN 8] _ (rdS_blk [kwN 8] k36) (ok_kw 8) (by simp)).mono ?_; rintro e w2 ⟨r, rfl, hb, o⟩
        have hzw := hw.size; obtain ⟨q, c, rfl⟩ := o.slice; exact ⟨hb, _, rfl, _, _, rfl, o.base (by first | (simp only [World.size_alloc] at hzw; omega) | omega)⟩
      · intro a w9 hw hj ho hk
        refine .inl ⟨by rfl, ?_⟩
        simp only [Bool.false_eq_true, if_false, if_true, eq_self_iff_true]
        have t2 := ho 1 rfl
        dsimp at t2
        try with_reducible replace hw := New.undrawN hw
        try with_reducible replace hw := New.undraw hw
        obtain ⟨c, f'⟩ := hw.rules
        go_simp
        exact New.refl _
      · intro a w9 hw hj ho hk
        refine .inl ⟨by rfl, ?_⟩
        simp only [Bool.false_eq_true, if_false, if_true, eq_self_iff_true]
        have t38 : a.tmps[38]?.getD undef = .slice (some ⟨b, off, none⟩) 1 ac := hk 2 38 (by kernel_rfl) rfl
        go_simp
        exact New.refl _
      · intro a w9 hw hj ho hk
        refine .inl ⟨by rfl, ?_⟩
        simp only [Bool.false_eq_true, if_false, if_true, eq_self_iff_true]
        have t39 : a.tmps[39]?.getD undef = .pointer (some ⟨b, off, none⟩) := hk 3 39 (by kernel_rfl) rfl
        try with_reducible replace hw := New.undrawN hw
        try with_reducible replace hw := New.undraw hw
        obtain ⟨c, f'⟩ := hw.rules
        go_simp
        exact New.refl _
      · intro a w9 hw hj ho hk
        refine .inl ⟨by rfl, ?_⟩
        simp only [Bool.false_eq_true, if_false, if_true, eq_self_iff_true]
        have t2 := ho 5 rfl
        dsimp at t2
        try with_reducible replace hw := New.undrawN hw
        try with_reducible replace hw := New.undraw hw
        obtain ⟨c, f'⟩ := hw.rules
        go_simp
        exact New.refl _
      · intro a w9 hw hj ho hk
        refine .inl ⟨by rfl, ?_⟩
        simp only [Bool.false_eq_true, if_false, if_true, eq_self_iff_true]
        have t40 : a.tmps[40]?.getD undef = .agg #[.slice sa A.toks.length sc, .int .i64 A.kind] := hk 4 40 (by kernel_rfl) rfl
        have t41 : a.tmps[41]?.getD undef = .bool false := hk 5 41 (by kernel_rfl) rfl
        go_simp
        refine (HCL.out _ (New.trans (show New w _ by exact (by repeat (first | with_reducible exact New.refl _ | with_reducible assumption | with_reducible refine New.drew ?_ | with_reducible refine New.drewN ?_ _ | with_reducible refine New.alloc ?_ _ | with_reducible refine New.setCell ?_ (by first | (simp; done) | (simp; omega) | omega) _ | with_reducible refine New.trans ?_ (by with_reducible assumption)))) hw)).mono ?_; rintro e w2 ⟨q, c, rfl, hb, o⟩
        first | exact ⟨hb, _, rfl, _, _, rfl, o⟩ | exact ⟨hb, _, _, by simp, o⟩
      · intro a w9 hw hj ho hk
        refine .inl ⟨by rfl, ?_⟩
        simp only [Bool.false_eq_true, if_false, if_true, eq_self_iff_true]
        obtain ⟨a37, c37, t37, o37⟩ : ∃ q c, (a.tmps[37]?.getD undef) = .slice q 1 c ∧ OwnX (w.heap.size + 1 + 1) w9 (.slice q 1 c) [kwN 8] := hk 1 37 (by kernel_rfl) rfl
        obtain ⟨a42, c42, t42, k42⟩ : ∃ q c, (a.tmps[42]?.getD undef) = .slice q (clV false A.toks).length c ∧ RdX w9 (.slice q (clV false A.toks).length c) (clV false A.toks) := hk 6 42 (by kernel_rfl) rfl
        have hzw := hw.size; exact wp_append_XG _ _ rfl (w.heap.size + 1 + 1) _ ([kwN 8]) (by first | (simp [Act.eval, Act.get]; exact t37) | simp [Act.eval, t37]) (o37) _ (clV false A.toks) (by first | (simp [Act.eval, Act.get]; exact t42) | simp [Act.eval, t42]) (k42) (by first | (simp only [List.length_cons, List.length_nil, List.length_append] at *; omega) | omega) (by first | (simp only [World.size_alloc] at hzw; omega) | omega) (fun v2 w2 h2 g2 => by rw [HTT.out] at h2; obtain ⟨q, c, h9⟩ := h2.slice; subst h9; exact ⟨g2 _ (by first | (simp only [World.size_alloc]; omega) | omega), _, rfl, _, _, rfl, h2⟩)
      · intro a w9 hw hj ho hk
        refine .inl ⟨by rfl, ?_⟩
        simp only [Bool.false_eq_true, if_false, if_true, eq_self_iff_true]
        have t2 := ho 2 rfl
        dsimp at t2
        try with_reducible replace hw := New.undrawN hw
        try with_reducible replace hw := New.undraw hw
        obtain ⟨c, f'⟩ := hw.rules
        go_simp
        exact New.refl _
      · intro a w9 hw hj ho hk
        refine .inl ⟨by rfl, ?_⟩
        simp only [Bool.false_eq_true, if_false, if_true, eq_self_iff_true]
        have t44 : a.tmps[44]?.getD undef = .pointer (some ⟨w.heap.size, 0, none⟩) := hk 8 44 (by kernel_rfl) rfl
        try with_reducible replace hw := New.undrawN hw
        try with_reducible replace hw := New.undraw hw
        obtain ⟨c, f'⟩ := hw.rules
        go_simp
        exact New.refl _
      · intro a w9 hw hj ho hk
        refine .inl ⟨by rfl, ?_⟩
        simp only [Bool.false_eq_true, if_false, if_true, eq_self_iff_true]
        obtain ⟨a43, c43, t43, o43⟩ : ∃ q c, (a.tmps[43]?.getD undef) = .slice q (TT).length c ∧ OwnX (w.heap.size + 1 + 1) w9 (.slice q (TT).length c) (TT) := hk 7 43 (by kernel_rfl) rfl
        have t45 : a.tmps[45]?.getD undef = .int .i64 4 := hk 9 45 (by kernel_rfl) rfl
        go_simp
        first | exact ⟨New.refl _, _, rfl, _, _, rfl, o43⟩ | exact ⟨New.refl _, _, _, by simp, o43⟩
    intro w3 b3
    rintro _ ⟨q36, rfl, k36⟩
    intro _ _
    rintro _ rfl
    rintro _ rfl
    rintro _ rfl
    rintro _ rfl
    intro _ _
    intro _ _
    rintro _ rfl
    rintro _ rfl
    intro x46 h46; obtain ⟨a46, c46, rfl, o46⟩ := h46 (by simp)
    try with_reducible replace b3 := New.undrawN b3
    try with_reducible replace b3 := New.undraw b3
    obtain ⟨c3, f3⟩ := b3.rules
    have z3 := b3.size
    try simp only [World.size_alloc, World.size_drew, World.heap_drewN, World.size_setCell] at z3
    have z3_0 : w.heap.size < w3.heap.size := by omega
    have z3_1 : w.heap.size + 1 < w3.heap.size := by omega
    simp only [RC.EndAll, List.nil_append, List.cons_append, List.length_cons, List.length_nil, Nat.zero_add, Nat.reduceAdd, List.take_succ_cons, List.take_zero, List.drop_succ_cons, List.drop_zero, putAll, RG.putAll, Act.put, List.setIfInBounds_toArray, List.set_cons_succ, List.set_cons_zero]
    have KB3 : Blk w3 (w.heap.size + 1) #[.slice none 0 0, .int .i64 0] 135 := Blk.new (Blk.alloc_at (by simp)) b3
    go_wp2_with fail
    exact ret_wr rfl (show New w w3 by exact (by repeat (first | with_reducible exact New.refl _ | with_reducible assumption | with_reducible refine New.drew ?_ | with_reducible refine New.drewN ?_ _ | with_reducible refine New.alloc ?_ _ | with_reducible refine New.setCell ?_ (by first | (simp; done) | (simp; omega) | omega) _ | with_reducible refine New.trans ?_ (by with_reducible assumption)))) (by omega) KB3 (o46) (by simp [results, Tryz.results91, go_sem, c3, f3, z3_0, z3_1])
set_option maxHeartbeats 8000000 in
theorem sApplyAnd_any (A B : VT) (nm : ByteArray) (n : Int) (av : Value) (w : World) (ha : RdW w av [A, B]) (hs : A.toks.length ≤ 5000) (hs' : B.toks.length ≤ 5000) :
    Calls Tryz.prog 91 #[.agg #[.int .i64 5, .string nm, .int .i64 n], av] w (RetWr w (clV (looseA A) A.toks ++ (kwN 6 :: clV (looseN B) B.toks)) 5) := by
  obtain ⟨aa, ac, rfl, hm, hcp, _, HA⟩ := ha.open
  obtain ⟨b, off, sa, sc, rfl, hbl, x0, x1, hTA⟩ := HA.out 0 (by simp)
  obtain ⟨b', off', sb, sd, he, _, y0, y1, hTB⟩ := HA.out 1 (by simp)
  cases he
  simp only [List.length_cons, List.length_nil, Nat.zero_add, List.getElem_cons_zero, List.getElem_cons_succ, Nat.zero_mul, Nat.one_mul, Nat.add_zero, Nat.reduceAdd] at x0 x1 hTA hcp y0 y1 hTB ⊢
  have RA := Lib.hid hTA
  have RB := Lib.hid hTB
  clear ha HA hTA hTB hm
  have hb1 : b < w.heap.size + 1 := by omega
  have hb2 : b < w.heap.size + 1 + 1 := by omega
  have hlA : (A.kind == 6) = looseA A := by rw [Bool.eq_iff_iff]; simp [looseA]
  have hlB : (B.kind == 6) = looseA B := by rw [Bool.eq_iff_iff]; simp [looseA]
  have hcl := clV_len (looseA A) A.toks
  have hcl2 := clV_len (looseA B) B.toks
  have hcl3 := clV_len (looseN B) B.toks
  obtain ⟨TT, hTT⟩ : ∃ TT, TT = clV (looseA A) A.toks ++ (kwN 6 :: clV (looseN B) B.toks) := ⟨_, rfl⟩
  have HTT := Lib.hid (show ([] : List ByteArray) ++ clV (looseA A) A.toks ++ [kwN 6] ++ clV (looseN B) B.toks = TT by rw [hTT]; simp)
  rw [← hTT]
  clear hTT
  have hc : ((B.kind == 6) = true ∧ looseN B = true) ∨ ((B.kind == 6) = false ∧ (B.kind == 5) = looseN B) := by
    by_cases h6 : B.kind = 6
    · exact .inl ⟨by simp [h6], by simp [looseN, h6]⟩
    · exact .inr ⟨by simp [h6], by rw [Bool.eq_iff_iff]; simp [looseN, h6]⟩
  clear hlB hcl2
  generalize looseA A = la at hlA hcl HTT
  generalize looseN B = lb at hc hcl3 HTT
  have HCA := Lib.hid (fun (w0 : World) (h : New w w0) => sClosed_any (.slice sa A.toks.length sc) A.toks A.kind la w0 (RA.out.new h) (by omega))
  have HCB := Lib.hid (fun (w0 : World) (h : New w w0) => sClosed_any (.slice sb B.toks.length sd) B.toks B.kind lb w0 (RB.out.new h) (by omega))
  go_enter Tryz.func91, Tryz.ntmps91
  go_wp2_with fail
  refine RG.wp_facts [fun X _ => X = .slice (some ⟨b, off, none⟩) 2 ac, fun X _ => X = .pointer (some ⟨b, off, none⟩), fun X _ => X = .agg #[.slice sa A.toks.length sc, .int .i64 A.kind], fun X _ => X = .slice (some ⟨b, off, none⟩) 2 ac, fun X _ => X = .pointer (some ⟨b, off, none⟩), fun X _ => X = .pointer (some ⟨b, off + 1, none⟩), fun X _ => X = .int .i64 A.kind, fun X _ => X = .bool la, fun X W' => ∃ q c, X = .slice q (clV la A.toks).length c ∧ RdX W' (.slice q (clV la A.toks).length c) (clV la A.toks)] (by kernel_rfl) (by kernel_rfl) ⟨RG.stable_eq _, RG.stable_eq _, RG.stable_eq _, RG.stable_eq _, RG.stable_eq _, RG.stable_eq _, RG.stable_eq _, RG.stable_eq _, fun X w0 w1 hn ⟨a57, c57, t57, k57⟩ => ⟨a57, c57, t57, k57.new hn⟩, trivial⟩ ?_ ?_
  · refine ⟨?_, ?_, ?_, ?_, ?_, ?_, ?_, ?_, ?_, trivial⟩
    · intro a w9 hw ho hk
      refine .inl ⟨by rfl, ?_⟩
      have t2 := ho 1 rfl
      dsimp at t2
      try with_reducible replace hw := New.undrawN hw
      try with_reducible replace hw := New.undraw hw
      obtain ⟨c, f'⟩ := hw.rules
      go_simp
      exact New.refl _
    · intro a w9 hw ho hk
      refine .inl ⟨by rfl, ?_⟩
      have t49 : a.tmps[49]?.getD undef = .slice (some ⟨b, off, none⟩) 2 ac := hk 0 49 (by kernel_rfl) rfl
      go_simp
      exact New.refl _
    · intro a w9 hw ho hk
      refine .inl ⟨by rfl, ?_⟩
      have t50 : a.tmps[50]?.getD undef = .pointer (some ⟨b, off, none⟩) := hk 1 50 (by kernel_rfl) rfl
      try with_reducible replace hw := New.undrawN hw
      try with_reducible replace hw := New.undraw hw
      obtain ⟨c, f'⟩ := hw.rules
      go_simp
      exact New.refl _
    · intro a w9 hw ho hk
      refine .inl ⟨by rfl, ?_⟩
      have t2 := ho 1 rfl
      dsimp at t2
      try with_reducible replace hw := New.undrawN hw
      try with_reducible replace hw := New.undraw hw
      obtain ⟨c, f'⟩ := hw.rules
      go_simp
      exact New.refl _
    · intro a w9 hw ho hk
      refine .inl ⟨by rfl, ?_⟩
      have t52 : a.tmps[52]?.getD undef = .slice (some ⟨b, off, none⟩) 2 ac := hk 3 52 (by kernel_rfl) rfl
      go_simp
      exact New.refl _
    · intro a w9 hw ho hk
      refine .inl ⟨by rfl, ?_⟩
      have t53 : a.tmps[53]?.getD undef = .pointer (some ⟨b, off, none⟩) := hk 4 53 (by kernel_rfl) rfl
      go_simp
      exact New.refl _
    · intro a w9 hw ho hk
      refine .inl ⟨by rfl, ?_⟩
      have t54 : a.tmps[54]?.getD undef = .pointer (some ⟨b, off + 1, none⟩) := hk 5 54 (by kernel_rfl) rfl
      try with_reducible replace hw := New.undrawN hw
      try with_reducible replace hw := New.undraw hw
      obtain ⟨c, f'⟩ := hw.rules
      go_simp
      exact New.refl _
    · intro a w9 hw ho hk
      refine .inl ⟨by rfl, ?_⟩
      have t55 : a.tmps[55]?.getD undef = .int .i64 A.kind := hk 6 55 (by kernel_rfl) rfl
      go_simp
      exact New.refl _
    · intro a w9 hw ho hk
      refine .inl ⟨by rfl, ?_⟩
      have t51 : a.tmps[51]?.getD undef = .agg #[.slice sa A.toks.length sc, .int .i64 A.kind] := hk 2 51 (by kernel_rfl) rfl
      have t56 : a.tmps[56]?.getD undef = .bool la := hk 7 56 (by kernel_rfl) rfl
      go_simp
      refine (HCA.out _ (New.trans (show New w _ by exact (by repeat (first | with_reducible exact New.refl _ | with_reducible assumption | with_reducible refine New.drew ?_ | with_reducible refine New.drewN ?_ _ | with_reducible refine New.alloc ?_ _ | with_reducible refine New.setCell ?_ (by first | (simp; done) | (simp; omega) | omega) _ | with_reducible refine New.trans ?_ (by with_reducible assumption)))) hw)).mono ?_; rintro e w2 ⟨q, c, rfl, hb, o⟩
      first | exact ⟨hb, _, rfl, _, _, rfl, o⟩ | exact ⟨hb, _, _, by simp, o⟩
  intro w3 b3 x49 h49 x50 h50 x51 h51 x52 h52 x53 h53 x54 h54 x55 h55 x56 h56 x57 ⟨a57, c57, t57, k57⟩
  subst h49 h50 h51 h52 h53 h54 h55 h56 t57
  try with_reducible replace b3 := New.undrawN b3
  try with_reducible replace b3 := New.undraw b3
  obtain ⟨c3, f3⟩ := b3.rules
  have z3 := b3.size
  try simp only [World.size_alloc, World.size_drew, World.heap_drewN, World.size_setCell] at z3
  have z3_0 : w.heap.size < w3.heap.size := by omega
  have z3_1 : w.heap.size + 1 < w3.heap.size := by omega
  have z3_2 : b < w3.heap.size := by omega
  simp only [RG.EndAll, List.nil_append, List.cons_append, List.length_cons, List.length_nil, Nat.zero_add, Nat.reduceAdd, List.take_succ_cons, List.take_zero, List.drop_succ_cons, List.drop_zero, RG.putAll, Act.put, List.setIfInBounds_toArray, List.set_cons_succ, List.set_cons_zero]
  go_wp2_with fail
  have KT3 : Blk w3 w.heap.size #[.int .i64 5, .string nm, .int .i64 n] 66 := Blk.new (Blk.alloc (Blk.alloc_at rfl) _) b3
  have KR3 : Blk w3 (w.heap.size + 1) #[.slice none 0 0, .int .i64 0] 135 := Blk.new (Blk.alloc_at (by simp)) b3
  have N3 : New w w3 := by exact (by repeat (first | with_reducible exact New.refl _ | with_reducible assumption | with_reducible refine New.drew ?_ | with_reducible refine New.drewN ?_ _ | with_reducible refine New.alloc ?_ _ | with_reducible refine New.setCell ?_ (by first | (simp; done) | (simp; omega) | omega) _ | with_reducible refine New.trans ?_ (by with_reducible assumption)))
  have x30 := (N3.cell hbl).trans x0
  have x31 := (N3.cell hbl).trans x1
  have y30 := (N3.cell hbl).trans y0
  have y31 := (N3.cell hbl).trans y1
  clear c3 f3 b3
  rcases hc with ⟨hk6, rfl⟩ | ⟨hk6, hk5⟩
  · skip
    refine RG.wp_facts [fun X _ => X = .slice (some ⟨b, off, none⟩) 2 ac, fun X _ => X = .pointer (some ⟨b, off + 2, none⟩), fun X _ => X = .agg #[.slice sb B.toks.length sd, .int .i64 B.kind], fun X _ => X = .slice (some ⟨b, off, none⟩) 2 ac, fun X _ => X = .pointer (some ⟨b, off + 2, none⟩), fun X _ => X = .pointer (some ⟨b, off + 2 + 1, none⟩), fun X _ => X = .int .i64 B.kind, fun X _ => X = .bool true, fun X _ => X = .bool true, fun X _ => X = undef, fun X _ => X = undef, fun X _ => X = undef, fun X _ => X = undef, fun X _ => X = undef, fun X _ => X = .bool true, fun X W' => ∃ q c, X = .slice q (clV true B.toks).length c ∧ RdX W' (.slice q (clV true B.toks).length c) (clV true B.toks)] (by kernel_rfl) (by kernel_rfl) ⟨RG.stable_eq _, RG.stable_eq _, RG.stable_eq _, RG.stable_eq _, RG.stable_eq _, RG.stable_eq _, RG.stable_eq _, RG.stable_eq _, RG.stable_eq _, RG.stable_eq _, RG.stable_eq _, RG.stable_eq _, RG.stable_eq _, RG.stable_eq _, RG.stable_eq _, fun X w0 w1 hn ⟨a73, c73, t73, k73⟩ => ⟨a73, c73, t73, k73.new hn⟩, trivial⟩ ?_ ?_
    · refine ⟨?_, ?_, ?_, ?_, ?_, ?_, ?_, ?_, ?_, ?_, ?_, ?_, ?_, ?_, ?_, ?_, trivial⟩
      · intro a w9 hw ho hk
        refine .inl ⟨by rfl, ?_⟩
        have t2 := ho 1 rfl
        dsimp at t2
        try with_reducible replace hw := New.undrawN hw
        try with_reducible replace hw := New.undraw hw
        obtain ⟨c, f'⟩ := hw.rules
        go_simp
        exact New.refl _
      · intro a w9 hw ho hk
        refine .inl ⟨by rfl, ?_⟩
        have t58 : a.tmps[58]?.getD undef = .slice (some ⟨b, off, none⟩) 2 ac := hk 0 58 (by kernel_rfl) rfl
        go_simp
        exact New.refl _
      · intro a w9 hw ho hk
        refine .inl ⟨by rfl, ?_⟩
        have t59 : a.tmps[59]?.getD undef = .pointer (some ⟨b, off + 2, none⟩) := hk 1 59 (by kernel_rfl) rfl
        try with_reducible replace hw := New.undrawN hw
        try with_reducible replace hw := New.undraw hw
        obtain ⟨c, f'⟩ := hw.rules
        go_simp
        exact New.refl _
      · intro a w9 hw ho hk
        refine .inl ⟨by rfl, ?_⟩
        have t2 := ho 1 rfl
        dsimp at t2
        try with_reducible replace hw := New.undrawN hw
        try with_reducible replace hw := New.undraw hw
        obtain ⟨c, f'⟩ := hw.rules
        go_simp
        exact New.refl _
      · intro a w9 hw ho hk
        refine .inl ⟨by rfl, ?_⟩
        have t61 : a.tmps[61]?.getD undef = .slice (some ⟨b, off, none⟩) 2 ac := hk 3 61 (by kernel_rfl) rfl
        go_simp
        exact New.refl _
      · intro a w9 hw ho hk
        refine .inl ⟨by rfl, ?_⟩
        have t62 : a.tmps[62]?.getD undef = .pointer (some ⟨b, off + 2, none⟩) := hk 4 62 (by kernel_rfl) rfl
        go_simp
        exact New.refl _
      · intro a w9 hw ho hk
        refine .inl ⟨by rfl, ?_⟩
        have t63 : a.tmps[63]?.getD undef = .pointer (some ⟨b, off + 2 + 1, none⟩) := hk 5 63 (by kernel_rfl) rfl
        try with_reducible replace hw := New.undrawN hw
        try with_reducible replace hw := New.undraw hw
        obtain ⟨c, f'⟩ := hw.rules
        go_simp
        exact New.refl _
      · intro a w9 hw ho hk
        refine .inl ⟨by rfl, ?_⟩
        have t64 : a.tmps[64]?.getD undef = .int .i64 B.kind := hk 6 64 (by kernel_rfl) rfl
        go_simp
        exact New.refl _
      · intro a w9 hw ho hk
        refine .inl ⟨by rfl, ?_⟩
        have t65 : a.tmps[65]?.getD undef = .bool true := hk 7 65 (by kernel_rfl) rfl
        go_simp
        exact New.refl _
      · intro a w9 hw ho hk
        have t66 : a.tmps[66]?.getD undef = .bool true := hk 8 66 (by kernel_rfl) rfl
        exact .inr ⟨by simp [Region.wanted, yielded, RG.look t66], rfl⟩
      · intro a w9 hw ho hk
        have t66 : a.tmps[66]?.getD undef = .bool true := hk 8 66 (by kernel_rfl) rfl
        exact .inr ⟨by simp [Region.wanted, yielded, RG.look t66], rfl⟩
      · intro a w9 hw ho hk
        have t66 : a.tmps[66]?.getD undef = .bool true := hk 8 66 (by kernel_rfl) rfl
        exact .inr ⟨by simp [Region.wanted, yielded, RG.look t66], rfl⟩
      · intro a w9 hw ho hk
        have t66 : a.tmps[66]?.getD undef = .bool true := hk 8 66 (by kernel_rfl) rfl
        exact .inr ⟨by simp [Region.wanted, yielded, RG.look t66], rfl⟩
      · intro a w9 hw ho hk
        have t66 : a.tmps[66]?.getD undef = .bool true := hk 8 66 (by kernel_rfl) rfl
        exact .inr ⟨by simp [Region.wanted, yielded, RG.look t66], rfl⟩
      · intro a w9 hw ho hk
        refine .inl ⟨by rfl, ?_⟩
        have t66 : a.tmps[66]?.getD undef = .bool true := hk 8 66 (by kernel_rfl) rfl
        go_simp
        exact New.refl _
      · intro a w9 hw ho hk
        refine .inl ⟨by rfl, ?_⟩
        have t60 : a.tmps[60]?.getD undef = .agg #[.slice sb B.toks.length sd, .int .i64 B.kind] := hk 2 60 (by kernel_rfl) rfl
        have t72 : a.tmps[72]?.getD undef = .bool true := hk 14 72 (by kernel_rfl) rfl
        go_simp
        refine (HCB.out _ (N3.trans hw)).mono ?_; rintro e w2 ⟨q, c, rfl, hb, o⟩
        first | exact ⟨hb, _, rfl, _, _, rfl, o⟩ | exact ⟨hb, _, _, by simp, o⟩
    intro w4 N34 x58 h58 x59 h59 x60 h60 x61 h61 x62 h62 x63 h63 x64 h64 x65 h65 x66 h66 x67 h67 x68 h68 x69 h69 x70 h70 x71 h71 x72 h72 x73 ⟨a73, c73, t73, k73⟩
    subst h58 h59 h60 h61 h62 h63 h64 h65 h66 h67 h68 h69 h70 h71 h72 t73
    obtain ⟨c4, f4⟩ := N34.rules
    have z4 := N34.size
    simp only [RG.EndAll, List.nil_append, List.cons_append, List.length_cons, List.length_nil, Nat.zero_add, Nat.reduceAdd, List.take_succ_cons, List.take_zero, List.drop_succ_cons, List.drop_zero, RG.putAll, Act.put, List.setIfInBounds_toArray, List.set_cons_succ, List.set_cons_zero]
    have KT4 := KT3.new N34
    have KR4 := KR3.new N34
    have lT4 := KT4.lt
    have lR4 := KR4.lt
    obtain ⟨cT, fT⟩ := KT4.rules
    clear c4 f4
    go_wp2_with fail
    refine RC.wp_facts (132) (_) (fun _ => True) [fun X W' => ∃ q, X = .slice (some ⟨q, 0, none⟩) 0 0 ∧ OwnX (w4.heap.size) W' (.slice (some ⟨q, 0, none⟩) 0 0) [], fun X _ => X = .slice a57 (clV la A.toks).length c57, fun X W' => ∃ q c, X = .slice q (([] : List ByteArray) ++ clV la A.toks).length c ∧ OwnX (w4.heap.size) W' (.slice q (([] : List ByteArray) ++ clV la A.toks).length c) (([] : List ByteArray) ++ clV la A.toks), fun X W' => ∃ q, X = .slice (some ⟨q, 0, none⟩) 1 1 ∧ Blk W' q #[.string (kwN 6)] 9, fun X W' => ∃ q c, X = .slice q 1 c ∧ OwnX (w4.heap.size) W' (.slice q 1 c) [kwN 6], fun X W' => ∃ q c, X = .slice q (([] : List ByteArray) ++ clV la A.toks ++ [kwN 6]).length c ∧ OwnX (w4.heap.size) W' (.slice q (([] : List ByteArray) ++ clV la A.toks ++ [kwN 6]).length c) (([] : List ByteArray) ++ clV la A.toks ++ [kwN 6]), fun X _ => X = .slice a73 (clV true B.toks).length c73, fun X W' => ∃ q c, X = .slice q (TT).length c ∧ OwnX (w4.heap.size) W' (.slice q (TT).length c) (TT), fun X _ => X = .pointer (some ⟨w.heap.size, 0, none⟩), fun X _ => X = .int .i64 5, fun X W' => ∃ q c, X = .agg #[.slice q TT.length c, .int .i64 5] ∧ OwnX (w4.heap.size) W' (.slice q TT.length c) TT] [some 2, none, some 5, none, some 5, some 7, none, some 10, none, none, some 61] [false, false, true, false, false, true, false, true, false, false, false] (by kernel_rfl) (by kernel_rfl) (by kernel_rfl) (New.refl _) (trivial) (fun _ _ _ h => h) ⟨fun X w0 w1 hn ⟨q74, t74, o74⟩ => ⟨q74, t74, o74.new hn⟩, RG.stable_eq _, fun X w0 w1 hn ⟨a76, c76, t76, o76⟩ => ⟨a76, c76, t76, o76.new hn⟩, fun X w0 w1 hn ⟨q77, t77, k77⟩ => ⟨q77, t77, k77.new hn⟩, fun X w0 w1 hn ⟨a78, c78, t78, o78⟩ => ⟨a78, c78, t78, o78.new hn⟩, fun X w0 w1 hn ⟨a79, c79, t79, o79⟩ => ⟨a79, c79, t79, o79.new hn⟩, RG.stable_eq _, fun X w0 w1 hn ⟨a81, c81, t81, o81⟩ => ⟨a81, c81, t81, o81.new hn⟩, RG.stable_eq _, RG.stable_eq _, fun X w0 w1 hn ⟨a84, c84, t84, o84⟩ => ⟨a84, c84, t84, o84.new hn⟩, trivial⟩ ⟨RC.stable_eqG _ _ _, fun X w0 w1 hw0 hn ⟨q77, t77, k77⟩ => ⟨q77, t77, hn.blk _ _ _ k77 (by decide)⟩, RC.stable_eqG _ _ _, RC.stable_eqG _ _ _, RC.stable_eqG _ _ _, trivial⟩ ?_ ?_
    · refine ⟨?_, ?_, ?_, ?_, ?_, ?_, ?_, ?_, ?_, ?_, ?_, trivial⟩
      · intro a w9 hw hj ho hk
        refine .inl ⟨by rfl, ?_⟩
        simp only [Bool.false_eq_true, if_false, if_true, eq_self_iff_true]
        have hzw := hw.size; go_simp; first | exact ⟨(New.refl _).alloc _, _, rfl, _, rfl, OwnX.empty (by omega) rfl⟩ | exact ⟨(New.refl _).alloc _, _, by simp, OwnX.empty (by omega) rfl⟩
      · intro a w9 hw hj ho hk
        refine .inl ⟨by rfl, ?_⟩
        simp only [Bool.false_eq_true, if_false, if_true, eq_self_iff_true]
        have t2 := ho 6 rfl
        dsimp at t2
        try with_reducible replace hw := New.undrawN hw
        try with_reducible replace hw := New.undraw hw
        obtain ⟨c, f'⟩ := hw.rules
        go_simp
        exact New.refl _
      · intro a w9 hw hj ho hk
        refine .inl ⟨by rfl, ?_⟩
        simp only [Bool.false_eq_true, if_false, if_true, eq_self_iff_true]
        obtain ⟨q74, t74, o74⟩ : ∃ q, (a.tmps[74]?.getD undef) = .slice (some ⟨q, 0, none⟩) 0 0 ∧ OwnX (w4.heap.size) w9 (.slice (some ⟨q, 0, none⟩) 0 0) [] := hk 0 74 (by kernel_rfl) rfl
        have t75 : a.tmps[75]?.getD undef = .slice a57 (clV la A.toks).length c57 := hk 1 75 (by kernel_rfl) rfl
        have hzw := hw.size; exact wp_append_XG _ _ rfl (w4.heap.size) _ (([] : List ByteArray)) (by first | (simp [Act.eval, Act.get]; exact t74) | simp [Act.eval, t74]) (o74) _ (clV la A.toks) (by first | (simp [Act.eval, Act.get]; exact t75) | simp [Act.eval, t75]) (k57.new (N34.trans hw)) (by first | (simp only [List.length_cons, List.length_nil, List.length_append] at *; omega) | omega) (by first | (simp only [World.size_alloc] at hzw; omega) | omega) (fun v2 w2 h2 g2 => by obtain ⟨q, c, h9⟩ := h2.slice; subst h9; exact ⟨g2 _ (by first | (simp only [World.size_alloc]; omega) | omega), _, rfl, _, _, rfl, h2⟩)
      · intro a w9 hw hj ho hk
        refine .inl ⟨by rfl, ?_⟩
        simp only [Bool.false_eq_true, if_false, if_true, eq_self_iff_true]
        go_simp; first | exact ⟨(New.refl _).alloc _, _, rfl, _, rfl, Blk.alloc_at rfl⟩ | exact ⟨(New.refl _).alloc _, _, by simp, Blk.alloc_at rfl⟩
      · intro a w9 hw hj ho hk
        refine .inl ⟨by rfl, ?_⟩
        simp only [Bool.false_eq_true, if_false, if_true, eq_self_iff_true]
        obtain ⟨q77, t77, k77⟩ : ∃ q, (a.tmps[77]?.getD undef) = .slice (some ⟨q, 0, none⟩) 1 1 ∧ Blk w9 q #[.string (kwN 6)] 9 := hk 3 77 (by kernel_rfl) rfl
        go_simp
        refine (sTokens_any _ [kwN 6] _ (rdS_blk [kwN 6] k77) (ok_kw 6) (by simp)).mono ?_; rintro e w2 ⟨r, rfl, hb, o⟩
        have hzw := hw.size; obtain ⟨q, c, rfl⟩ := o.slice; exact ⟨hb, _, rfl, _, _, rfl, o.base (by first | (simp only [World.size_alloc] at hzw; omega) | omega)⟩
      · intro a w9 hw hj ho hk
        refine .inl ⟨by rfl, ?_⟩
        simp only [Bool.false_eq_true, if_false, if_true, eq_self_iff_true]
        obtain ⟨a76, c76, t76, o76⟩ : ∃ q c, (a.tmps[76]?.getD undef) = .slice q (([] : List ByteArray) ++ clV la A.toks).length c ∧ OwnX (w4.heap.size) w9 (.slice q (([] : List ByteArray) ++ clV la A.toks).length c) (([] : List ByteArray) ++ clV la A.toks) := hk 2 76 (by kernel_rfl) rfl
        obtain ⟨a78, c78, t78, o78⟩ : ∃ q c, (a.tmps[78]?.getD undef) = .slice q 1 c ∧ OwnX (w4.heap.size) w9 (.slice q 1 c) [kwN 6] := hk 4 78 (by kernel_rfl) rfl
        have hzw := hw.size; exact wp_append_XG _ _ rfl (w4.heap.size) _ (([] : List ByteArray) ++ clV la A.toks) (by first | (simp [Act.eval, Act.get]; exact t76) | simp [Act.eval, t76]) (o76) _ ([kwN 6]) (by first | (simp [Act.eval, Act.get]; exact t78) | simp [Act.eval, t78]) (o78.rd) (by first | (simp only [List.length_cons, List.length_nil, List.length_append] at *; omega) | omega) (by first | (simp only [World.size_alloc] at hzw; omega) | omega) (fun v2 w2 h2 g2 => by obtain ⟨q, c, h9⟩ := h2.slice; subst h9; exact ⟨g2 _ (by first | (simp only [World.size_alloc]; omega) | omega), _, rfl, _, _, rfl, h2⟩)
      · intro a w9 hw hj ho hk
        refine .inl ⟨by rfl, ?_⟩
        simp only [Bool.false_eq_true, if_false, if_true, eq_self_iff_true]
        have t2 := ho 7 rfl
        dsimp at t2
        try with_reducible replace hw := New.undrawN hw
        try with_reducible replace hw := New.undraw hw
        obtain ⟨c, f'⟩ := hw.rules
        go_simp
        exact New.refl _
      · intro a w9 hw hj ho hk
        refine .inl ⟨by rfl, ?_⟩
        simp only [Bool.false_eq_true, if_false, if_true, eq_self_iff_true]
        obtain ⟨a79, c79, t79, o79⟩ : ∃ q c, (a.tmps[79]?.getD undef) = .slice q (([] : List ByteArray) ++ clV la A.toks ++ [kwN 6]).length c ∧ OwnX (w4.heap.size) w9 (.slice q (([] : List ByteArray) ++ clV la A.toks ++ [kwN 6]).length c) (([] : List ByteArray) ++ clV la A.toks ++ [kwN 6]) := hk 5 79 (by kernel_rfl) rfl
        have t80 : a.tmps[80]?.getD undef = .slice a73 (clV true B.toks).length c73 := hk 6 80 (by kernel_rfl) rfl
        have hzw := hw.size; exact wp_append_XG _ _ rfl (w4.heap.size) _ (([] : List ByteArray) ++ clV la A.toks ++ [kwN 6]) (by first | (simp [Act.eval, Act.get]; exact t79) | simp [Act.eval, t79]) (o79) _ (clV true B.toks) (by first | (simp [Act.eval, Act.get]; exact t80) | simp [Act.eval, t80]) (k73.new hw) (by first | (simp only [List.length_cons, List.length_nil, List.length_append] at *; omega) | omega) (by first | (simp only [World.size_alloc] at hzw; omega) | omega) (fun v2 w2 h2 g2 => by rw [HTT.out] at h2; obtain ⟨q, c, h9⟩ := h2.slice; subst h9; exact ⟨g2 _ (by first | (simp only [World.size_alloc]; omega) | omega), _, rfl, _, _, rfl, h2⟩)
      · intro a w9 hw hj ho hk
        refine .inl ⟨by rfl, ?_⟩
        simp only [Bool.false_eq_true, if_false, if_true, eq_self_iff_true]
        have t2 := ho 2 rfl
        dsimp at t2
        try with_reducible replace hw := New.undrawN hw
        try with_reducible replace hw := New.undraw hw
        obtain ⟨c, f'⟩ := hw.rules
        go_simp
        exact New.refl _
      · intro a w9 hw hj ho hk
        refine .inl ⟨by rfl, ?_⟩
        simp only [Bool.false_eq_true, if_false, if_true, eq_self_iff_true]
        have t82 : a.tmps[82]?.getD undef = .pointer (some ⟨w.heap.size, 0, none⟩) := hk 8 82 (by kernel_rfl) rfl
        try with_reducible replace hw := New.undrawN hw
        try with_reducible replace hw := New.undraw hw
        obtain ⟨c, f'⟩ := hw.rules
        go_simp
        exact New.refl _
      · intro a w9 hw hj ho hk
        refine .inl ⟨by rfl, ?_⟩
        simp only [Bool.false_eq_true, if_false, if_true, eq_self_iff_true]
        obtain ⟨a81, c81, t81, o81⟩ : ∃ q c, (a.tmps[81]?.getD undef) = .slice q (TT).length c ∧ OwnX (w4.heap.size) w9 (.slice q (TT).length c) (TT) := hk 7 81 (by kernel_rfl) rfl
        have t83 : a.tmps[83]?.getD undef = .int .i64 5 := hk 9 83 (by kernel_rfl) rfl
        go_simp
        first | exact ⟨New.refl _, _, rfl, _, _, rfl, o81⟩ | exact ⟨New.refl _, _, _, by simp, o81⟩
    intro w5 b5
    intro _ _
    rintro _ rfl
    intro _ _
    rintro _ ⟨q77, rfl, k77⟩
    intro _ _
    intro _ _
    rintro _ rfl
    intro _ _
    rintro _ rfl
    rintro _ rfl
    intro x84 h84; obtain ⟨a84, c84, rfl, o84⟩ := h84 (by simp)
    try with_reducible replace b5 := New.undrawN b5
    try with_reducible replace b5 := New.undraw b5
    obtain ⟨c5, f5⟩ := b5.rules
    have z5 := b5.size
    try simp only [World.size_alloc, World.size_drew, World.heap_drewN, World.size_setCell] at z5
    have z5_0 : w.heap.size < w5.heap.size := by omega
    have z5_1 : w.heap.size + 1 < w5.heap.size := by omega
    simp only [RC.EndAll, List.nil_append, List.cons_append, List.length_cons, List.length_nil, Nat.zero_add, Nat.reduceAdd, List.take_succ_cons, List.take_zero, List.drop_succ_cons, List.drop_zero, putAll, RG.putAll, Act.put, List.setIfInBounds_toArray, List.set_cons_succ, List.set_cons_zero]
    have KB5 := KR4.new b5
    obtain ⟨cF, fF⟩ := KB5.rules
    clear c5 f5
    go_wp2_with fail
    exact ret_wr rfl ((N3.trans N34).trans b5) (by omega) KB5 (o84.base (by omega)) (by simp [results, Tryz.results91, go_sem, cF, fF, z5_1])
  · skip
    refine RG.wp_facts [fun X _ => X = .slice (some ⟨b, off, none⟩) 2 ac, fun X _ => X = .pointer (some ⟨b, off + 2, none⟩), fun X _ => X = .agg #[.slice sb B.toks.length sd, .int .i64 B.kind], fun X _ => X = .slice (some ⟨b, off, none⟩) 2 ac, fun X _ => X = .pointer (some ⟨b, off + 2, none⟩), fun X _ => X = .pointer (some ⟨b, off + 2 + 1, none⟩), fun X _ => X = .int .i64 B.kind, fun X _ => X = .bool false, fun X _ => X = .bool false, fun X _ => X = .slice (some ⟨b, off, none⟩) 2 ac, fun X _ => X = .pointer (some ⟨b, off + 2, none⟩), fun X _ => X = .pointer (some ⟨b, off + 2 + 1, none⟩), fun X _ => X = .int .i64 B.kind, fun X _ => X = .bool lb, fun X _ => X = .bool lb, fun X W' => ∃ q c, X = .slice q (clV lb B.toks).length c ∧ RdX W' (.slice q (clV lb B.toks).length c) (clV lb B.toks)] (by kernel_rfl) (by kernel_rfl) ⟨RG.stable_eq _, RG.stable_eq _, RG.stable_eq _, RG.stable_eq _, RG.stable_eq _, RG.stable_eq _, RG.stable_eq _, RG.stable_eq _, RG.stable_eq _, RG.stable_eq _, RG.stable_eq _, RG.stable_eq _, RG.stable_eq _, RG.stable_eq _, RG.stable_eq _, fun X w0 w1 hn ⟨a73, c73, t73, k73⟩ => ⟨a73, c73, t73, k73.new hn⟩, trivial⟩ ?_ ?_
    · refine ⟨?_, ?_, ?_, ?_, ?_, ?_, ?_, ?_, ?_, ?_, ?_, ?_, ?_, ?_, ?_, ?_, trivial⟩
      · intro a w9 hw ho hk
        refine .inl ⟨by rfl, ?_⟩
        have t2 := ho 1 rfl
        dsimp at t2
        try with_reducible replace hw := New.undrawN hw
        try with_reducible replace hw := New.undraw hw
        obtain ⟨c, f'⟩ := hw.rules
        go_simp
        exact New.refl _
      · intro a w9 hw ho hk
        refine .inl ⟨by rfl, ?_⟩
        have t58 : a.tmps[58]?.getD undef = .slice (some ⟨b, off, none⟩) 2 ac := hk 0 58 (by kernel_rfl) rfl
        go_simp
        exact New.refl _
      · intro a w9 hw ho hk
        refine .inl ⟨by rfl, ?_⟩
        have t59 : a.tmps[59]?.getD undef = .pointer (some ⟨b, off + 2, none⟩) := hk 1 59 (by kernel_rfl) rfl
        try with_reducible replace hw := New.undrawN hw
        try with_reducible replace hw := New.undraw hw
        obtain ⟨c, f'⟩ := hw.rules
        go_simp
        exact New.refl _
      · intro a w9 hw ho hk
        refine .inl ⟨by rfl, ?_⟩
        have t2 := ho 1 rfl
        dsimp at t2
        try with_reducible replace hw := New.undrawN hw
        try with_reducible replace hw := New.undraw hw
        obtain ⟨c, f'⟩ := hw.rules
        go_simp
        exact New.refl _
      · intro a w9 hw ho hk
        refine .inl ⟨by rfl, ?_⟩
        have t61 : a.tmps[61]?.getD undef = .slice (some ⟨b, off, none⟩) 2 ac := hk 3 61 (by kernel_rfl) rfl
        go_simp
        exact New.refl _
      · intro a w9 hw ho hk
        refine .inl ⟨by rfl, ?_⟩
        have t62 : a.tmps[62]?.getD undef = .pointer (some ⟨b, off + 2, none⟩) := hk 4 62 (by kernel_rfl) rfl
        go_simp
        exact New.refl _
      · intro a w9 hw ho hk
        refine .inl ⟨by rfl, ?_⟩
        have t63 : a.tmps[63]?.getD undef = .pointer (some ⟨b, off + 2 + 1, none⟩) := hk 5 63 (by kernel_rfl) rfl
        try with_reducible replace hw := New.undrawN hw
        try with_reducible replace hw := New.undraw hw
        obtain ⟨c, f'⟩ := hw.rules
        go_simp
        exact New.refl _
      · intro a w9 hw ho hk
        refine .inl ⟨by rfl, ?_⟩
        have t64 : a.tmps[64]?.getD undef = .int .i64 B.kind := hk 6 64 (by kernel_rfl) rfl
        go_simp
        exact New.refl _
      · intro a w9 hw ho hk
        refine .inl ⟨by rfl, ?_⟩
        have t65 : a.tmps[65]?.getD undef = .bool false := hk 7 65 (by kernel_rfl) rfl
        go_simp
        exact New.refl _
      · intro a w9 hw ho hk
        have t66 : a.tmps[66]?.getD undef = .bool false := hk 8 66 (by kernel_rfl) rfl
        refine .inl ⟨by simp [Region.wanted, yielded, RG.look t66], ?_⟩
        have t2 := ho 1 rfl
        dsimp at t2
        try with_reducible replace hw := New.undrawN hw
        try with_reducible replace hw := New.undraw hw
        obtain ⟨c, f'⟩ := hw.rules
        go_simp
        exact New.refl _
      · intro a w9 hw ho hk
        have t66 : a.tmps[66]?.getD undef = .bool false := hk 8 66 (by kernel_rfl) rfl
        refine .inl ⟨by simp [Region.wanted, yielded, RG.look t66], ?_⟩
        have t67 : a.tmps[67]?.getD undef = .slice (some ⟨b, off, none⟩) 2 ac := hk 9 67 (by kernel_rfl) rfl
        go_simp
        exact New.refl _
      · intro a w9 hw ho hk
        have t66 : a.tmps[66]?.getD undef = .bool false := hk 8 66 (by kernel_rfl) rfl
        refine .inl ⟨by simp [Region.wanted, yielded, RG.look t66], ?_⟩
        have t68 : a.tmps[68]?.getD undef = .pointer (some ⟨b, off + 2, none⟩) := hk 10 68 (by kernel_rfl) rfl
        go_simp
        exact New.refl _
      · intro a w9 hw ho hk
        have t66 : a.tmps[66]?.getD undef = .bool false := hk 8 66 (by kernel_rfl) rfl
        refine .inl ⟨by simp [Region.wanted, yielded, RG.look t66], ?_⟩
        have t69 : a.tmps[69]?.getD undef = .pointer (some ⟨b, off + 2 + 1, none⟩) := hk 11 69 (by kernel_rfl) rfl
        try with_reducible replace hw := New.undrawN hw
        try with_reducible replace hw := New.undraw hw
        obtain ⟨c, f'⟩ := hw.rules
        go_simp
        exact New.refl _
      · intro a w9 hw ho hk
        have t66 : a.tmps[66]?.getD undef = .bool false := hk 8 66 (by kernel_rfl) rfl
        refine .inl ⟨by simp [Region.wanted, yielded, RG.look t66], ?_⟩
        have t70 : a.tmps[70]?.getD undef = .int .i64 B.kind := hk 12 70 (by kernel_rfl) rfl
        go_simp
        exact New.refl _
      · intro a w9 hw ho hk
        refine .inl ⟨by rfl, ?_⟩
        have t66 : a.tmps[66]?.getD undef = .bool false := hk 8 66 (by kernel_rfl) rfl
        have t71 : a.tmps[71]?.getD undef = .bool lb := hk 13 71 (by kernel_rfl) rfl
        go_simp
        exact New.refl _
      · intro a w9 hw ho hk
        refine .inl ⟨by rfl, ?_⟩
        have t60 : a.tmps[60]?.getD undef = .agg #[.slice sb B.toks.length sd, .int .i64 B.kind] := hk 2 60 (by kernel_rfl) rfl
        have t72 : a.tmps[72]?.getD undef = .bool lb := hk 14 72 (by kernel_rfl) rfl
        go_simp
        refine (HCB.out _ (N3.trans hw)).mono ?_; rintro e w2 ⟨q, c, rfl, hb, o⟩
        first | exact ⟨hb, _, rfl, _, _, rfl, o⟩ | exact ⟨hb, _, _, by simp, o⟩
    intro w4 N34 x58 h58 x59 h59 x60 h60 x61 h61 x62 h62 x63 h63 x64 h64 x65 h65 x66 h66 x67 h67 x68 h68 x69 h69 x70 h70 x71 h71 x72 h72 x73 ⟨a73, c73, t73, k73⟩
    subst h58 h59 h60 h61 h62 h63 h64 h65 h66 h67 h68 h69 h70 h71 h72 t73
    obtain ⟨c4, f4⟩ := N34.rules
    have z4 := N34.size
    simp only [RG.EndAll, List.nil_append, List.cons_append, List.length_cons, List.length_nil, Nat.zero_add, Nat.reduceAdd, List.take_succ_cons, List.take_zero, List.drop_succ_cons, List.drop_zero, RG.putAll, Act.put, List.setIfInBounds_toArray, List.set_cons_succ, List.set_cons_zero]
    have KT4 := KT3.new N34
    have KR4 := KR3.new N34
    have lT4 := KT4.lt
    have lR4 := KR4.lt
    obtain ⟨cT, fT⟩ := KT4.rules
    clear c4 f4
    go_wp2_with fail
    refine RC.wp_facts (132) (_) (fun _ => True) [fun X W' => ∃ q, X = .slice (some ⟨q, 0, none⟩) 0 0 ∧ OwnX (w4.heap.size) W' (.slice (some ⟨q, 0, none⟩) 0 0) [], fun X _ => X = .slice a57 (clV la A.toks).length c57, fun X W' => ∃ q c, X = .slice q (([] : List ByteArray) ++ clV la A.toks).length c ∧ OwnX (w4.heap.size) W' (.slice q (([] : List ByteArray) ++ clV la A.toks).length c) (([] : List ByteArray) ++ clV la A.toks), fun X W' => ∃ q, X = .slice (some ⟨q, 0, none⟩) 1 1 ∧ Blk W' q #[.string (kwN 6)] 9, fun X W' => ∃ q c, X = .slice q 1 c ∧ OwnX (w4.heap.size) W' (.slice q 1 c) [kwN 6], fun X W' => ∃ q c, X = .slice q (([] : List ByteArray) ++ clV la A.toks ++ [kwN 6]).length c ∧ OwnX (w4.heap.size) W' (.slice q (([] : List ByteArray) ++ clV la A.toks ++ [kwN 6]).length c) (([] : List ByteArray) ++ clV la A.toks ++ [kwN 6]), fun X _ => X = .slice a73 (clV lb B.toks).length c73, fun X W' => ∃ q c, X = .slice q (TT).length c ∧ OwnX (w4.heap.size) W' (.slice q (TT).length c) (TT), fun X _ => X = .pointer (some ⟨w.heap.size, 0, none⟩), fun X _ => X = .int .i64 5, fun X W' => ∃ q c, X = .agg #[.slice q TT.length c, .int .i64 5] ∧ OwnX (w4.heap.size) W' (.slice q TT.length c) TT] [some 2, none, some 5, none, some 5, some 7, none, some 10, none, none, some 61] [false, false, true, false, false, true, false, true, false, false, false] (by kernel_rfl) (by kernel_rfl) (by kernel_rfl) (New.refl _) (trivial) (fun _ _ _ h => h) ⟨fun X w0 w1 hn ⟨q74, t74, o74⟩ => ⟨q74, t74, o74.new hn⟩, RG.stable_eq _, fun X w0 w1 hn ⟨a76, c76, t76, o76⟩ => ⟨a76, c76, t76, o76.new hn⟩, fun X w0 w1 hn ⟨q77, t77, k77⟩ => ⟨q77, t77, k77.new hn⟩, fun X w0 w1 hn ⟨a78, c78, t78, o78⟩ => ⟨a78, c78, t78, o78.new hn⟩, fun X w0 w1 hn ⟨a79, c79, t79, o79⟩ => ⟨a79, c79, t79, o79.new hn⟩, RG.stable_eq _, fun X w0 w1 hn ⟨a81, c81, t81, o81⟩ => ⟨a81, c81, t81, o81.new hn⟩, RG.stable_eq _, RG.stable_eq _, fun X w0 w1 hn ⟨a84, c84, t84, o84⟩ => ⟨a84, c84, t84, o84.new hn⟩, trivial⟩ ⟨RC.stable_eqG _ _ _, fun X w0 w1 hw0 hn ⟨q77, t77, k77⟩ => ⟨q77, t77, hn.blk _ _ _ k77 (by decide)⟩, RC.stable_eqG _ _ _, RC.stable_eqG _ _ _, RC.stable_eqG _ _ _, trivial⟩ ?_ ?_
    · refine ⟨?_, ?_, ?_, ?_, ?_, ?_, ?_, ?_, ?_, ?_, ?_, trivial⟩
      · intro a w9 hw hj ho hk
        refine .inl ⟨by rfl, ?_⟩
        simp only [Bool.false_eq_true, if_false, if_true, eq_self_iff_true]
        have hzw := hw.size; go_simp; first | exact ⟨(New.refl _).alloc _, _, rfl, _, rfl, OwnX.empty (by omega) rfl⟩ | exact ⟨(New.refl _).alloc _, _, by simp, OwnX.empty (by omega) rfl⟩
      · intro a w9 hw hj ho hk
        refine .inl ⟨by rfl, ?_⟩
        simp only [Bool.false_eq_true, if_false, if_true, eq_self_iff_true]
        have t2 := ho 6 rfl
        dsimp at t2
        try with_reducible replace hw := New.undrawN hw
        try with_reducible replace hw := New.undraw hw
        obtain ⟨c, f'⟩ := hw.rules
        go_simp
        exact New.refl _
      · intro a w9 hw hj ho hk
        refine .inl ⟨by rfl, ?_⟩
        simp only [Bool.false_eq_true, if_false, if_true, eq_self_iff_true]
        obtain ⟨q74, t74, o74⟩ : ∃ q, (a.tmps[74]?.getD undef) = .slice (some ⟨q, 0, none⟩) 0 0 ∧ OwnX (w4.heap.size) w9 (.slice (some ⟨q, 0, none⟩) 0 0) [] := hk 0 74 (by kernel_rfl) rfl
        have t75 : a.tmps[75]?.getD undef = .slice a57 (clV la A.toks).length c57 := hk 1 75 (by kernel_rfl) rfl
        have hzw := hw.size; exact wp_append_XG _ _ rfl (w4.heap.size) _ (([] : List ByteArray)) (by first | (simp [Act.eval, Act.get]; exact t74) | simp [Act.eval, t74]) (o74) _ (clV la A.toks) (by first | (simp [Act.eval, Act.get]; exact t75) | simp [Act.eval, t75]) (k57.new (N34.trans hw)) (by first | (simp only [List.length_cons, List.length_nil, List.length_append] at *; omega) | omega) (by first | (simp only [World.size_alloc] at hzw; omega) | omega) (fun v2 w2 h2 g2 => by obtain ⟨q, c, h9⟩ := h2.slice; subst h9; exact ⟨g2 _ (by first | (simp only [World.size_alloc]; omega) | omega), _, rfl, _, _, rfl, h2⟩)
      · intro a w9 hw hj ho hk
        refine .inl ⟨by rfl, ?_⟩
        simp only [Bool.false_eq_true, if_false, if_true, eq_self_iff_true]
        go_simp; first | exact ⟨(New.refl _).alloc _, _, rfl, _, rfl, Blk.alloc_at rfl⟩ | exact ⟨(New.refl _).alloc _, _, by simp, Blk.alloc_at rfl⟩
      · intro a w9 hw hj ho hk
        refine .inl ⟨by rfl, ?_⟩
        simp only [Bool.false_eq_true, if_false, if_true, eq_self_iff_true]
        obtain ⟨q77, t77, k77⟩ : ∃ q, (a.tmps[77]?.getD undef) = .slice (some ⟨q, 0, none⟩) 1 1 ∧ Blk w9 q #[.string (kwN 6)] 9 := hk 3 77 (by kernel_rfl) rfl
        go_simp
        refine (sTokens_any _ [kwN 6] _ (rdS_blk [kwN 6] k77) (ok_kw 6) (by simp)).mono ?_; rintro e w2 ⟨r, rfl, hb, o⟩
        have hzw := hw.size; obtain ⟨q, c, rfl⟩ := o.slice; exact ⟨hb, _, rfl, _, _, rfl, o.base (by first | (simp only [World.size_alloc] at hzw; omega) | omega)⟩
      · intro a w9 hw hj ho hk
        refine .inl ⟨by rfl, ?_⟩
        simp only [Bool.false_eq_true, if_false, if_true, eq_self_iff_true]
        obtain ⟨a76, c76, t76, o76⟩ : ∃ q c, (a.tmps[76]?.getD undef) = .slice q (([] : List ByteArray) ++ clV la A.toks).length c ∧ OwnX (w4.heap.size) w9 (.slice q (([] : List ByteArray) ++ clV la A.toks).length c) (([] : List ByteArray) ++ clV la A.toks) := hk 2 76 (by kernel_rfl) rfl
        obtain ⟨a78, c78, t78, o78⟩ : ∃ q c, (a.tmps[78]?.getD undef) = .slice q 1 c ∧ OwnX (w4.heap.size) w9 (.slice q 1 c) [kwN 6] := hk 4 78 (by kernel_rfl) rfl
        have hzw := hw.size; exact wp_append_XG _ _ rfl (w4.heap.size) _ (([] : List ByteArray) ++ clV la A.toks) (by first | (simp [Act.eval, Act.get]; exact t76) | simp [Act.eval, t76]) (o76) _ ([kwN 6]) (by first | (simp [Act.eval, Act.get]; exact t78) | simp [Act.eval, t78]) (o78.rd) (by first | (simp only [List.length_cons, List.length_nil, List.length_append] at *; omega) | omega) (by first | (simp only [World.size_alloc] at hzw; omega) | omega) (fun v2 w2 h2 g2 => by obtain ⟨q, c, h9⟩ := h2.slice; subst h9; exact ⟨g2 _ (by first | (simp only [World.size_alloc]; omega) | omega), _, rfl, _, _, rfl, h2⟩)
      · intro a w9 hw hj ho hk
        refine .inl ⟨by rfl, ?_⟩
        simp only [Bool.false_eq_true, if_false, if_true, eq_self_iff_true]
        have t2 := ho 7 rfl
        dsimp at t2
        try with_reducible replace hw := New.undrawN hw
        try with_reducible replace hw := New.undraw hw
        obtain ⟨c, f'⟩ := hw.rules
        go_simp
        exact New.refl _
      · intro a w9 hw hj ho hk
        refine .inl ⟨by rfl, ?_⟩
        simp only [Bool.false_eq_true, if_false, if_true, eq_self_iff_true]
        obtain ⟨a79, c79, t79, o79⟩ : ∃ q c, (a.tmps[79]?.getD undef) = .slice q (([] : List ByteArray) ++ clV la A.toks ++ [kwN 6]).length c ∧ OwnX (w4.heap.size) w9 (.slice q (([] : List ByteArray) ++ clV la A.toks ++ [kwN 6]).length c) (([] : List ByteArray) ++ clV la A.toks ++ [kwN 6]) := hk 5 79 (by kernel_rfl) rfl
        have t80 : a.tmps[80]?.getD undef = .slice a73 (clV lb B.toks).length c73 := hk 6 80 (by kernel_rfl) rfl
        have hzw := hw.size; exact wp_append_XG _ _ rfl (w4.heap.size) _ (([] : List ByteArray) ++ clV la A.toks ++ [kwN 6]) (by first | (simp [Act.eval, Act.get]; exact t79) | simp [Act.eval, t79]) (o79) _ (clV lb B.toks) (by first | (simp [Act.eval, Act.get]; exact t80) | simp [Act.eval, t80]) (k73.new hw) (by first | (simp only [List.length_cons, List.length_nil, List.length_append] at *; omega) | omega) (by first | (simp only [World.size_alloc] at hzw; omega) | omega) (fun v2 w2 h2 g2 => by rw [HTT.out] at h2; obtain ⟨q, c, h9⟩ := h2.slice; subst h9; exact ⟨g2 _ (by first | (simp only [World.size_alloc]; omega) | omega), _, rfl, _, _, rfl, h2⟩)
      · intro a w9 hw hj ho hk
        refine .inl ⟨by rfl, ?_⟩
        simp only [Bool.false_eq_true, if_false, if_true, eq_self_iff_true]
        have t2 := ho 2 rfl
        dsimp at t2
        try with_reducible replace hw := New.undrawN hw
        try with_reducible replace hw := New.undraw hw
        obtain ⟨c, f'⟩ := hw.rules
        go_simp
        exact New.refl _
      · intro a w9 hw hj ho hk
        refine .inl ⟨by rfl, ?_⟩
        simp only [Bool.false_eq_true, if_false, if_true, eq_self_iff_true]
        have t82 : a.tmps[82]?.getD undef = .pointer (some ⟨w.heap.size, 0, none⟩) := hk 8 82 (by kernel_rfl) rfl
        try with_reducible replace hw := New.undrawN hw
        try with_reducible replace hw := New.undraw hw
        obtain ⟨c, f'⟩ := hw.rules
        go_simp
        exact New.refl _
      · intro a w9 hw hj ho hk
        refine .inl ⟨by rfl, ?_⟩
        simp only [Bool.false_eq_true, if_false, if_true, eq_self_iff_true]
        obtain ⟨a81, c81, t81, o81⟩ : ∃ q c, (a.tmps[81]?.getD undef) = .slice q (TT).length c ∧ OwnX (w4.heap.size) w9 (.slice q (TT).length c) (TT) := hk 7 81 (by kernel_rfl) rfl
        have t83 : a.tmps[83]?.getD undef = .int .i64 5 := hk 9 83 (by kernel_rfl) rfl
        go_simp
        first | exact ⟨New.refl _, _, rfl, _, _, rfl, o81⟩ | exact ⟨New.refl _, _, _, by simp, o81⟩
    intro w5 b5
    intro _ _
    rintro _ rfl
    intro _ _
    rintro _ ⟨q77, rfl, k77⟩
    intro _ _
    intro _ _
    rintro _ rfl
    intro _ _
    rintro _ rfl
    rintro _ rfl
    intro x84 h84; obtain ⟨a84, c84, rfl, o84⟩ := h84 (by simp)
    try with_reducible replace b5 := New.undrawN b5
    try with_reducible replace b5 := New.undraw b5
    obtain ⟨c5, f5⟩ := b5.rules
    have z5 := b5.size
    try simp only [World.size_alloc, World.size_drew, World.heap_drewN, World.size_setCell] at z5
    have z5_0 : w.heap.size < w5.heap.size := by omega
    have z5_1 : w.heap.size + 1 < w5.heap.size := by omega
    simp only [RC.EndAll, List.nil_append, List.cons_append, List.length_cons, List.length_nil, Nat.zero_add, Nat.reduceAdd, List.take_succ_cons, List.take_zero, List.drop_succ_cons, List.drop_zero, putAll, RG.putAll, Act.put, List.setIfInBounds_toArray, List.set_cons_succ, List.set_cons_zero]
    have KB5 := KR4.new b5
    obtain ⟨cF, fF⟩ := KB5.rules
    clear c5 f5
    go_wp2_with fail
    exact ret_wr rfl ((N3.trans N34).trans b5) (by omega) KB5 (o84.base (by omega)) (by simp [results, Tryz.results91, go_sem, cF, fF, z5_1])
set_option maxHeartbeats 8000000 in
theorem sApplyOr_any (A B : VT) (nm : ByteArray) (n : Int) (av : Value) (w : World) (ha : RdW w av [A, B]) (hs : A.toks.length ≤ 5000) (hs' : B.toks.length ≤ 5000) :
    Calls Tryz.prog 91 #[.agg #[.int .i64 6, .string nm, .int .i64 n], av] w (RetWr w (A.toks ++ (kwN 7 :: clV (looseA B) B.toks)) 6) := by
  obtain ⟨aa, ac, rfl, hm, hcp, _, HA⟩ := ha.open
  obtain ⟨b, off, sa, sc, rfl, hbl, x0, x1, hTA⟩ := HA.out 0 (by simp)
  obtain ⟨b', off', sb, sd, he, _, y0, y1, hTB⟩ := HA.out 1 (by simp)
  cases he
  simp only [List.length_cons, List.length_nil, Nat.zero_add, List.getElem_cons_zero, List.getElem_cons_succ, Nat.zero_mul, Nat.one_mul, Nat.add_zero, Nat.reduceAdd] at x0 x1 hTA hcp y0 y1 hTB ⊢
  have RA := Lib.hid hTA
  have RB := Lib.hid hTB
  clear ha HA hTA hTB hm
  have hb1 : b < w.heap.size + 1 := by omega
  have hb2 : b < w.heap.size + 1 + 1 := by omega
  have hlA : (A.kind == 6) = looseA A := by rw [Bool.eq_iff_iff]; simp [looseA]
  have hlB : (B.kind == 6) = looseA B := by rw [Bool.eq_iff_iff]; simp [looseA]
  have hcl := clV_len (looseA A) A.toks
  have hcl2 := clV_len (looseA B) B.toks
  have hcl3 := clV_len (looseN B) B.toks
  obtain ⟨TT, hTT⟩ : ∃ TT, TT = A.toks ++ (kwN 7 :: clV (looseA B) B.toks) := ⟨_, rfl⟩
  have HTT := Lib.hid (show ([] : List ByteArray) ++ A.toks ++ [kwN 7] ++ clV (looseA B) B.toks = TT by rw [hTT]; simp)
  rw [← hTT]
  clear hTT
  clear hlA hcl hcl3
  generalize looseA B = lb at hlB hcl2 HTT
  have HCB := Lib.hid (fun (w0 : World) (h : New w w0) => sClosed_any (.slice sb B.toks.length sd) B.toks B.kind lb w0 (RB.out.new h) (by omega))
  go_enter Tryz.func91, Tryz.ntmps91
  go_wp2_with fail
  refine RG.wp_facts [fun X _ => X = .slice (some ⟨b, off, none⟩) 2 ac, fun X _ => X = .pointer (some ⟨b, off + 2, none⟩), fun X _ => X = .agg #[.slice sb B.toks.length sd, .int .i64 B.kind], fun X _ => X = .slice (some ⟨b, off, none⟩) 2 ac, fun X _ => X = .pointer (some ⟨b, off + 2, none⟩), fun X _ => X = .pointer (some ⟨b, off + 2 + 1, none⟩), fun X _ => X = .int .i64 B.kind, fun X _ => X = .bool lb, fun X W' => ∃ q c, X = .slice q (clV lb B.toks).length c ∧ RdX W' (.slice q (clV lb B.toks).length c) (clV lb B.toks)] (by kernel_rfl) (by kernel_rfl) ⟨RG.stable_eq _, RG.stable_eq _, RG.stable_eq _, RG.stable_eq _, RG.stable_eq _, RG.stable_eq _, RG.stable_eq _, RG.stable_eq _, fun X w0 w1 hn ⟨a95, c95, t95, k95⟩ => ⟨a95, c95, t95, k95.new hn⟩, trivial⟩ ?_ ?_
  · refine ⟨?_, ?_, ?_, ?_, ?_, ?_, ?_, ?_, ?_, trivial⟩
    · intro a w9 hw ho hk
      refine .inl ⟨by rfl, ?_⟩
      have t2 := ho 1 rfl
      dsimp at t2
      try with_reducible replace hw := New.undrawN hw
      try with_reducible replace hw := New.undraw hw
      obtain ⟨c, f'⟩ := hw.rules
      go_simp
      exact New.refl _
    · intro a w9 hw ho hk
      refine .inl ⟨by rfl, ?_⟩
      have t87 : a.tmps[87]?.getD undef = .slice (some ⟨b, off, none⟩) 2 ac := hk 0 87 (by kernel_rfl) rfl
      go_simp
      exact New.refl _
    · intro a w9 hw ho hk
      refine .inl ⟨by rfl, ?_⟩
      have t88 : a.tmps[88]?.getD undef = .pointer (some ⟨b, off + 2, none⟩) := hk 1 88 (by kernel_rfl) rfl
      try with_reducible replace hw := New.undrawN hw
      try with_reducible replace hw := New.undraw hw
      obtain ⟨c, f'⟩ := hw.rules
      go_simp
      exact New.refl _
    · intro a w9 hw ho hk
      refine .inl ⟨by rfl, ?_⟩
      have t2 := ho 1 rfl
      dsimp at t2
      try with_reducible replace hw := New.undrawN hw
      try with_reducible replace hw := New.undraw hw
      obtain ⟨c, f'⟩ := hw.rules
      go_simp
      exact New.refl _
    · intro a w9 hw ho hk
      refine .inl ⟨by rfl, ?_⟩
      have t90 : a.tmps[90]?.getD undef = .slice (some ⟨b, off, none⟩) 2 ac := hk 3 90 (by kernel_rfl) rfl
      go_simp
      exact New.refl _
    · intro a w9 hw ho hk
      refine .inl ⟨by rfl, ?_⟩
      have t91 : a.tmps[91]?.getD undef = .pointer (some ⟨b, off + 2, none⟩) := hk 4 91 (by kernel_rfl) rfl
      go_simp
      exact New.refl _
    · intro a w9 hw ho hk
      refine .inl ⟨by rfl, ?_⟩
      have t92 : a.tmps[92]?.getD undef = .pointer (some ⟨b, off + 2 + 1, none⟩) := hk 5 92 (by kernel_rfl) rfl
      try with_reducible replace hw := New.undrawN hw
      try with_reducible replace hw := New.undraw hw
      obtain ⟨c, f'⟩ := hw.rules
      go_simp
      exact New.refl _
    · intro a w9 hw ho hk
      refine .inl ⟨by rfl, ?_⟩
      have t93 : a.tmps[93]?.getD undef = .int .i64 B.kind := hk 6 93 (by kernel_rfl) rfl
      go_simp
      exact New.refl _
    · intro a w9 hw ho hk
      refine .inl ⟨by rfl, ?_⟩
      have t89 : a.tmps[89]?.getD undef = .agg #[.slice sb B.toks.length sd, .int .i64 B.kind] := hk 2 89 (by kernel_rfl) rfl
      have t94 : a.tmps[94]?.getD undef = .bool lb := hk 7 94 (by kernel_rfl) rfl
      go_simp
      refine (HCB.out _ (New.trans (show New w _ by exact (by repeat (first | with_reducible exact New.refl _ | with_reducible assumption | with_reducible refine New.drew ?_ | with_reducible refine New.drewN ?_ _ | with_reducible refine New.alloc ?_ _ | with_reducible refine New.setCell ?_ (by first | (simp; done) | (simp; omega) | omega) _ | with_reducible refine New.trans ?_ (by with_reducible assumption)))) hw)).mono ?_; rintro e w2 ⟨q, c, rfl, hb, o⟩
      first | exact ⟨hb, _, rfl, _, _, rfl, o⟩ | exact ⟨hb, _, _, by simp, o⟩
  intro w3 b3 x87 h87 x88 h88 x89 h89 x90 h90 x91 h91 x92 h92 x93 h93 x94 h94 x95 ⟨a95, c95, t95, k95⟩
  subst h87 h88 h89 h90 h91 h92 h93 h94 t95
  try with_reducible replace b3 := New.undrawN b3
  try with_reducible replace b3 := New.undraw b3
  obtain ⟨c3, f3⟩ := b3.rules
  have z3 := b3.size
  try simp only [World.size_alloc, World.size_drew, World.heap_drewN, World.size_setCell] at z3
  have z3_0 : w.heap.size < w3.heap.size := by omega
  have z3_1 : w.heap.size + 1 < w3.heap.size := by omega
  have z3_2 : b < w3.heap.size := by omega
  simp only [RG.EndAll, List.nil_append, List.cons_append, List.length_cons, List.length_nil, Nat.zero_add, Nat.reduceAdd, List.take_succ_cons, List.take_zero, List.drop_succ_cons, List.drop_zero, RG.putAll, Act.put, List.setIfInBounds_toArray, List.set_cons_succ, List.set_cons_zero]
  have KT3 : Blk w3 w.heap.size #[.int .i64 6, .string nm, .int .i64 n] 66 := Blk.new (Blk.alloc (Blk.alloc_at rfl) _) b3
  have KR3 : Blk w3 (w.heap.size + 1) #[.slice none 0 0, .int .i64 0] 135 := Blk.new (Blk.alloc_at (by simp)) b3
  have N3 : New w w3 := by exact (by repeat (first | with_reducible exact New.refl _ | with_reducible assumption | with_reducible refine New.drew ?_ | with_reducible refine New.drewN ?_ _ | with_reducible refine New.alloc ?_ _ | with_reducible refine New.setCell ?_ (by first | (simp; done) | (simp; omega) | omega) _ | with_reducible refine New.trans ?_ (by with_reducible assumption)))
  have x30 := (N3.cell hbl).trans x0
  have lT3 := KT3.lt
  obtain ⟨cT, fT⟩ := KT3.rules
  clear c3 f3 b3
  go_wp2_with fail
  refine RC.wp_facts (132) (_) (fun _ => True) [fun X W' => ∃ q, X = .slice (some ⟨q, 0, none⟩) 0 0 ∧ OwnX (w3.heap.size) W' (.slice (some ⟨q, 0, none⟩) 0 0) [], fun X _ => X = .slice (some ⟨b, off, none⟩) 2 ac, fun X _ => X = .pointer (some ⟨b, off, none⟩), fun X _ => X = .pointer (some ⟨b, off, none⟩), fun X _ => X = .slice sa A.toks.length sc, fun X W' => ∃ q c, X = .slice q (([] : List ByteArray) ++ A.toks).length c ∧ OwnX (w3.heap.size) W' (.slice q (([] : List ByteArray) ++ A.toks).length c) (([] : List ByteArray) ++ A.toks), fun X W' => ∃ q, X = .slice (some ⟨q, 0, none⟩) 1 1 ∧ Blk W' q #[.string (kwN 7)] 9, fun X W' => ∃ q c, X = .slice q 1 c ∧ OwnX (w3.heap.size) W' (.slice q 1 c) [kwN 7], fun X W' => ∃ q c, X = .slice q (([] : List ByteArray) ++ A.toks ++ [kwN 7]).length c ∧ OwnX (w3.heap.size) W' (.slice q (([] : List ByteArray) ++ A.toks ++ [kwN 7]).length c) (([] : List ByteArray) ++ A.toks ++ [kwN 7]), fun X _ => X = .slice a95 (clV lb B.toks).length c95, fun X W' => ∃ q c, X = .slice q (TT).length c ∧ OwnX (w3.heap.size) W' (.slice q (TT).length c) (TT), fun X _ => X = .pointer (some ⟨w.heap.size, 0, none⟩), fun X _ => X = .int .i64 6, fun X W' => ∃ q c, X = .agg #[.slice q TT.length c, .int .i64 6] ∧ OwnX (w3.heap.size) W' (.slice q TT.length c) TT] [some 5, none, none, none, none, some 8, none, some 8, some 10, none, some 13, none, none, some 64] [false, false, false, false, false, true, false, false, true, false, true, false, false, false] (by kernel_rfl) (by kernel_rfl) (by kernel_rfl) (New.refl _) (trivial) (fun _ _ _ h => h) ⟨fun X w0 w1 hn ⟨q96, t96, o96⟩ => ⟨q96, t96, o96.new hn⟩, RG.stable_eq _, RG.stable_eq _, RG.stable_eq _, RG.stable_eq _, fun X w0 w1 hn ⟨a101, c101, t101, o101⟩ => ⟨a101, c101, t101, o101.new hn⟩, fun X w0 w1 hn ⟨q102, t102, k102⟩ => ⟨q102, t102, k102.new hn⟩, fun X w0 w1 hn ⟨a103, c103, t103, o103⟩ => ⟨a103, c103, t103, o103.new hn⟩, fun X w0 w1 hn ⟨a104, c104, t104, o104⟩ => ⟨a104, c104, t104, o104.new hn⟩, RG.stable_eq _, fun X w0 w1 hn ⟨a106, c106, t106, o106⟩ => ⟨a106, c106, t106, o106.new hn⟩, RG.stable_eq _, RG.stable_eq _, fun X w0 w1 hn ⟨a109, c109, t109, o109⟩ => ⟨a109, c109, t109, o109.new hn⟩, trivial⟩ ⟨RC.stable_eqG _ _ _, RC.stable_eqG _ _ _, RC.stable_eqG _ _ _, RC.stable_eqG _ _ _, fun X w0 w1 hw0 hn ⟨q102, t102, k102⟩ => ⟨q102, t102, hn.blk _ _ _ k102 (by decide)⟩, RC.stable_eqG _ _ _, RC.stable_eqG _ _ _, RC.stable_eqG _ _ _, trivial⟩ ?_ ?_
  · refine ⟨?_, ?_, ?_, ?_, ?_, ?_, ?_, ?_, ?_, ?_, ?_, ?_, ?_, ?_, trivial⟩
    · intro a w9 hw hj ho hk
      refine .inl ⟨by rfl, ?_⟩
      simp only [Bool.false_eq_true, if_false, if_true, eq_self_iff_true]
      have hzw := hw.size; go_simp; first | exact ⟨(New.refl _).alloc _, _, rfl, _, rfl, OwnX.empty (by omega) rfl⟩ | exact ⟨(New.refl _).alloc _, _, by simp, OwnX.empty (by omega) rfl⟩
    · intro a w9 hw hj ho hk
      refine .inl ⟨by rfl, ?_⟩
      simp only [Bool.false_eq_true, if_false, if_true, eq_self_iff_true]
      have t2 := ho 1 rfl
      dsimp at t2
      try with_reducible replace hw := New.undrawN hw
      try with_reducible replace hw := New.undraw hw
      obtain ⟨c, f'⟩ := hw.rules
      go_simp
      exact New.refl _
    · intro a w9 hw hj ho hk
      refine .inl ⟨by rfl, ?_⟩
      simp only [Bool.false_eq_true, if_false, if_true, eq_self_iff_true]
      have t97 : a.tmps[97]?.getD undef = .slice (some ⟨b, off, none⟩) 2 ac := hk 1 97 (by kernel_rfl) rfl
      go_simp
      exact New.refl _
    · intro a w9 hw hj ho hk
      refine .inl ⟨by rfl, ?_⟩
      simp only [Bool.false_eq_true, if_false, if_true, eq_self_iff_true]
      have t98 : a.tmps[98]?.getD undef = .pointer (some ⟨b, off, none⟩) := hk 2 98 (by kernel_rfl) rfl
      go_simp
      exact New.refl _
    · intro a w9 hw hj ho hk
      refine .inl ⟨by rfl, ?_⟩
      simp only [Bool.false_eq_true, if_false, if_true, eq_self_iff_true]
      have t99 : a.tmps[99]?.getD undef = .pointer (some ⟨b, off, none⟩) := hk 3 99 (by kernel_rfl) rfl
      try with_reducible replace hw := New.undrawN hw
      try with_reducible replace hw := New.undraw hw
      obtain ⟨c, f'⟩ := hw.rules
      go_simp
      exact New.refl _
    · intro a w9 hw hj ho hk
      refine .inl ⟨by rfl, ?_⟩
      simp only [Bool.false_eq_true, if_false, if_true, eq_self_iff_true]
      obtain ⟨q96, t96, o96⟩ : ∃ q, (a.tmps[96]?.getD undef) = .slice (some ⟨q, 0, none⟩) 0 0 ∧ OwnX (w3.heap.size) w9 (.slice (some ⟨q, 0, none⟩) 0 0) [] := hk 0 96 (by kernel_rfl) rfl
      have t100 : a.tmps[100]?.getD undef = .slice sa A.toks.length sc := hk 4 100 (by kernel_rfl) rfl
      have hzw := hw.size; exact wp_append_XG _ _ rfl (w3.heap.size) _ (([] : List ByteArray)) (by first | (simp [Act.eval, Act.get]; exact t96) | simp [Act.eval, t96]) (o96) _ (A.toks) (by first | (simp [Act.eval, Act.get]; exact t100) | simp [Act.eval, t100]) (RA.out.new (N3.trans hw)) (by first | (simp only [List.length_cons, List.length_nil, List.length_append] at *; omega) | omega) (by first | (simp only [World.size_alloc] at hzw; omega) | omega) (fun v2 w2 h2 g2 => by obtain ⟨q, c, h9⟩ := h2.slice; subst h9; exact ⟨g2 _ (by first | (simp only [World.size_alloc]; omega) | omega), _, rfl, _, _, rfl, h2⟩)
    · intro a w9 hw hj ho hk
      refine .inl ⟨by rfl, ?_⟩
      simp only [Bool.false_eq_true, if_false, if_true, eq_self_iff_true]
      go_simp; first | exact ⟨(New.refl _).alloc _, _, rfl, _, rfl, Blk.alloc_at rfl⟩ | exact ⟨(New.refl _).alloc _, _, by simp, Blk.alloc_at rfl⟩
    · intro a w9 hw hj ho hk
      refine .inl ⟨by rfl, ?_⟩
      simp only [Bool.false_eq_true, if_false, if_true, eq_self_iff_true]
      obtain ⟨q102, t102, k102⟩ : ∃ q, (a.tmps[102]?.getD undef) = .slice (some ⟨q, 0, none⟩) 1 1 ∧ Blk w9 q #[.string (kwN 7)] 9 := hk 6 102 (by kernel_rfl) rfl
      go_simp
      refine (sTokens_any _ [kwN 7] _ (rdS_blk [kwN 7] k102) (ok_kw 7) (by simp)).mono ?_; rintro e w2 ⟨r, rfl, hb, o⟩
      have hzw := hw.size; obtain ⟨q, c, rfl⟩ := o.slice; exact ⟨hb, _, rfl, _, _, rfl, o.base (by first | (simp only [World.size_alloc] at hzw; omega) | omega)⟩
    · intro a w9 hw hj ho hk
      refine .inl ⟨by rfl, ?_⟩
      simp only [Bool.false_eq_true, if_false, if_true, eq_self_iff_true]
      obtain ⟨a101, c101, t101, o101⟩ : ∃ q c, (a.tmps[101]?.getD undef) = .slice q (([] : List ByteArray) ++ A.toks).length c ∧ OwnX (w3.heap.size) w9 (.slice q (([] : List ByteArray) ++ A.toks).length c) (([] : List ByteArray) ++ A.toks) := hk 5 101 (by kernel_rfl) rfl
      obtain ⟨a103, c103, t103, o103⟩ : ∃ q c, (a.tmps[103]?.getD undef) = .slice q 1 c ∧ OwnX (w3.heap.size) w9 (.slice q 1 c) [kwN 7] := hk 7 103 (by kernel_rfl) rfl
      have hzw := hw.size; exact wp_append_XG _ _ rfl (w3.heap.size) _ (([] : List ByteArray) ++ A.toks) (by first | (simp [Act.eval, Act.get]; exact t101) | simp [Act.eval, t101]) (o101) _ ([kwN 7]) (by first | (simp [Act.eval, Act.get]; exact t103) | simp [Act.eval, t103]) (o103.rd) (by first | (simp only [List.length_cons, List.length_nil, List.length_append] at *; omega) | omega) (by first | (simp only [World.size_alloc] at hzw; omega) | omega) (fun v2 w2 h2 g2 => by obtain ⟨q, c, h9⟩ := h2.slice; subst h9; exact ⟨g2 _ (by first | (simp only [World.size_alloc]; omega) | omega), _, rfl, _, _, rfl, h2⟩)
    · intro a w9 hw hj ho hk
      refine .inl ⟨by rfl, ?_⟩
      simp only [Bool.false_eq_true, if_false, if_true, eq_self_iff_true]
      have t2 := ho 8 rfl
      dsimp at t2
      try with_reducible replace hw := New.undrawN hw
      try with_reducible replace hw := New.undraw hw
      obtain ⟨c, f'⟩ := hw.rules
      go_simp
      exact New.refl _
    · intro a w9 hw hj ho hk
      refine .inl ⟨by rfl, ?_⟩
      simp only [Bool.false_eq_true, if_false, if_true, eq_self_iff_true]
      obtain ⟨a104, c104, t104, o104⟩ : ∃ q c, (a.tmps[104]?.getD undef) = .slice q (([] : List ByteArray) ++ A.toks ++ [kwN 7]).length c ∧ OwnX (w3.heap.size) w9 (.slice q (([] : List ByteArray) ++ A.toks ++ [kwN 7]).length c) (([] : List ByteArray) ++ A.toks ++ [kwN 7]) := hk 8 104 (by kernel_rfl) rfl
      have t105 : a.tmps[105]?.getD undef = .slice a95 (clV lb B.toks).length c95 := hk 9 105 (by kernel_rfl) rfl
      have hzw := hw.size; exact wp_append_XG _ _ rfl (w3.heap.size) _ (([] : List ByteArray) ++ A.toks ++ [kwN 7]) (by first | (simp [Act.eval, Act.get]; exact t104) | simp [Act.eval, t104]) (o104) _ (clV lb B.toks) (by first | (simp [Act.eval, Act.get]; exact t105) | simp [Act.eval, t105]) (k95.new hw) (by first | (simp only [List.length_cons, List.length_nil, List.length_append] at *; omega) | omega) (by first | (simp only [World.size_alloc] at hzw; omega) | omega) (fun v2 w2 h2 g2 => by rw [HTT.out] at h2; obtain ⟨q, c, h9⟩ := h2.slice; subst h9; exact ⟨g2 _ (by first | (simp only [World.size_alloc]; omega) | omega), _, rfl, _, _, rfl, h2⟩)
    · intro a w9 hw hj ho hk
      refine .inl ⟨by rfl, ?_⟩
      simp only [Bool.false_eq_true, if_false, if_true, eq_self_iff_true]
      have t2 := ho 2 rfl
      dsimp at t2
      try with_reducible replace hw := New.undrawN hw
      try with_reducible replace hw := New.undraw hw
      obtain ⟨c, f'⟩ := hw.rules
      go_simp
      exact New.refl _
    · intro a w9 hw hj ho hk
      refine .inl ⟨by rfl, ?_⟩
      simp only [Bool.false_eq_true, if_false, if_true, eq_self_iff_true]
      have t107 : a.tmps[107]?.getD undef = .pointer (some ⟨w.heap.size, 0, none⟩) := hk 11 107 (by kernel_rfl) rfl
      try with_reducible replace hw := New.undrawN hw
      try with_reducible replace hw := New.undraw hw
      obtain ⟨c, f'⟩ := hw.rules
      go_simp
      exact New.refl _
    · intro a w9 hw hj ho hk
      refine .inl ⟨by rfl, ?_⟩
      simp only [Bool.false_eq_true, if_false, if_true, eq_self_iff_true]
      obtain ⟨a106, c106, t106, o106⟩ : ∃ q c, (a.tmps[106]?.getD undef) = .slice q (TT).length c ∧ OwnX (w3.heap.size) w9 (.slice q (TT).length c) (TT) := hk 10 106 (by kernel_rfl) rfl
      have t108 : a.tmps[108]?.getD undef = .int .i64 6 := hk 12 108 (by kernel_rfl) rfl
      go_simp
      first | exact ⟨New.refl _, _, rfl, _, _, rfl, o106⟩ | exact ⟨New.refl _, _, _, by simp, o106⟩
  intro w5 b5
  intro _ _
  rintro _ rfl
  rintro _ rfl
  rintro _ rfl
  rintro _ rfl
  intro _ _
  rintro _ ⟨q102, rfl, k102⟩
  intro _ _
  intro _ _
  rintro _ rfl
  intro _ _
  rintro _ rfl
  rintro _ rfl
  intro x109 h109; obtain ⟨a109, c109, rfl, o109⟩ := h109 (by simp)
  try with_reducible replace b5 := New.undrawN b5
  try with_reducible replace b5 := New.undraw b5
  obtain ⟨c5, f5⟩ := b5.rules
  have z5 := b5.size
  try simp only [World.size_alloc, World.size_drew, World.heap_drewN, World.size_setCell] at z5
  have z5_0 : w.heap.size < w5.heap.size := by omega
  have z5_1 : w.heap.size + 1 < w5.heap.size := by omega
  simp only [RC.EndAll, List.nil_append, List.cons_append, List.length_cons, List.length_nil, Nat.zero_add, Nat.reduceAdd, List.take_succ_cons, List.take_zero, List.drop_succ_cons, List.drop_zero, putAll, RG.putAll, Act.put, List.setIfInBounds_toArray, List.set_cons_succ, List.set_cons_zero]
  have KB5 := KR3.new b5
  obtain ⟨cF, fF⟩ := KB5.rules
  clear c5 f5
  go_wp2_with fail
  exact ret_wr rfl (N3.trans b5) (by omega) KB5 (o109.base (by omega)) (by simp [results, Tryz.results91, go_sem, cF, fF, z5_1])
end Go.Proofs.YteielmihlfakgaaGreatDoor
