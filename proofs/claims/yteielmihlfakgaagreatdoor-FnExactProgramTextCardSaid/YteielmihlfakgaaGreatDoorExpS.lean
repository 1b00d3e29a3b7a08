/- Contracts: tokens of expressions: the reference. -/
import Derived.Test.YteielmihlfakgaaGreatDoorProg
import Derived.Test.YteielmihlfakgaaGreatDoorExpK
import Derived.Test.YteielmihlfakgaaGreatDoorRegionC
import Derived.Test.YteielmihlfakgaaGreatDoorDecS
import Derived.Test.YteielmihlfakgaaGreatDoorUG
namespace Go.Proofs.YteielmihlfakgaaGreatDoor
open Go Go.Proofs Go.RowKit
set_option linter.unusedVariables false
set_option linter.unusedSimpArgs false
set_option maxRecDepth 100000
set_option maxHeartbeats 1000000 in
theorem sTokens_any (v : Value) (T : List ByteArray) (w : World) (hv : RdS w v T) (hT : okT T) (hl : T.length ≤ 10000) :
    Calls Tryz.prog 52 #[v] w (RetX w T) := by
  obtain ⟨a, cap, rfl, hm, HC⟩ := RdS.open hv
  have HZ := Lib.hid hT
  clear hv hT
  go_enter Tryz.func52, Tryz.ntmps52
  go_wp2_with fail
  go_loopw [3, 4] (fun o i wr => ∃ k : Nat, k ≤ T.length ∧ i = .int .i64 k ∧ New w wr ∧ OwnX w.heap.size wr o (T.take k)) (fun _ i _ => T.length - (intOf i).toNat)
  case atStart => exact ⟨0, Nat.zero_le _, rfl, (by repeat (first | with_reducible exact New.refl _ | with_reducible assumption | with_reducible refine New.drew ?_ | with_reducible refine New.drewN ?_ _ | with_reducible refine New.alloc ?_ _ | with_reducible refine New.setCell ?_ (by first | (simp; done) | (simp; omega) | omega) _ | with_reducible refine New.trans ?_ (by with_reducible assumption))), OwnX.empty (Nat.le_refl _) rfl⟩
  case round =>
    obtain ⟨k, hk, rfl, hN, hown⟩ := hrel
    by_cases hlt : k < T.length
    · obtain ⟨b, off, rfl, hbl, hx⟩ := HC.out wr hN k hlt
      have HT := Lib.hid (List.take_succ_eq_append_getElem hlt)
      have hz := hN.size
      have hbw : b < wr.heap.size := by omega
      have hlen : (T.take k).length ≤ 10000 := by rw [List.length_take]; omega
      have hts := HZ.out T[k] (List.getElem_mem hlt)
      generalize T[k] = t at hx HT hts
      have H1 := Lib.hid (fun (w0 : World) => sNumber_any t w0 (by omega))
      have H2 := Lib.hid (fun (w0 : World) => sSign_any t w0)
      rcases Bool.eq_false_or_eq_true (isNumB t.data.toList) with hn | hn
      · rw [hn] at H1
        clear hn
        go_wp2_with fail
        refine (H1.out _).mono ?_; rintro e w2 ⟨rfl, b2⟩
        try with_reducible replace b2 := New.undrawN b2
        try with_reducible replace b2 := New.undraw b2
        obtain ⟨c2, f2⟩ := b2.rules
        have z2 := b2.size
        try simp only [World.size_alloc, World.size_drew, World.heap_drewN, World.size_setCell] at z2
        have z2_0 : b < w2.heap.size := by omega
        go_wp2_with (first | (at_builtin; refine wpList_append_X rfl _ _ rfl w.heap.size _ _ rfl (hown.new (by exact (by repeat (first | with_reducible exact New.refl _ | with_reducible assumption | with_reducible refine New.drew ?_ | with_reducible refine New.drewN ?_ _ | with_reducible refine New.alloc ?_ _ | with_reducible refine New.setCell ?_ (by first | (simp; done) | (simp; omega) | omega) _ | with_reducible refine New.trans ?_ (by with_reducible assumption))))) _ [t] rfl rdX_one (by simp only [List.length_cons, List.length_nil]; omega) (by first  |  (simp; done)  |  (simp; omega)  |  omega) ?_; intro va wa howna hga))
        go_roundw
        case rel => exact ⟨k + 1, by omega, by go_num, hga _ (by exact (by repeat (first | with_reducible exact New.refl _ | with_reducible assumption | with_reducible refine New.drew ?_ | with_reducible refine New.drewN ?_ _ | with_reducible refine New.alloc ?_ _ | with_reducible refine New.setCell ?_ (by first | (simp; done) | (simp; omega) | omega) _ | with_reducible refine New.trans ?_ (by with_reducible assumption)))) (Nat.le_refl _), by rw [HT.out]; exact howna⟩
        case measure => simp [intOf]; omega
      · rw [hn] at H1
        clear hn
        rcases Bool.eq_false_or_eq_true (isSgn t.data.toList) with hn | hn
        all_goals
          rw [hn] at H2
          clear hn
          go_wp2_with fail
          refine (H1.out _).mono ?_; rintro e w2 ⟨rfl, b2⟩
          try with_reducible replace b2 := New.undrawN b2
          try with_reducible replace b2 := New.undraw b2
          obtain ⟨c2, f2⟩ := b2.rules
          have z2 := b2.size
          try simp only [World.size_alloc, World.size_drew, World.heap_drewN, World.size_setCell] at z2
          have z2_0 : b < w2.heap.size := by omega
          go_wp2_with (first | (go_at_call 89; refine (H2.out _).mono ?_; rintro e _ ⟨rfl, rfl⟩) | (at_builtin; refine wpList_append_X rfl _ _ rfl w.heap.size _ _ rfl (hown.new (by exact (by repeat (first | with_reducible exact New.refl _ | with_reducible assumption | with_reducible refine New.drew ?_ | with_reducible refine New.drewN ?_ _ | with_reducible refine New.alloc ?_ _ | with_reducible refine New.setCell ?_ (by first | (simp; done) | (simp; omega) | omega) _ | with_reducible refine New.trans ?_ (by with_reducible assumption))))) _ [t] rfl rdX_one (by simp only [List.length_cons, List.length_nil]; omega) (by first  |  (simp; done)  |  (simp; omega)  |  omega) ?_; intro va wa howna hga))
          go_roundw
          case rel => exact ⟨k + 1, by omega, by go_num, hga _ (by exact (by repeat (first | with_reducible exact New.refl _ | with_reducible assumption | with_reducible refine New.drew ?_ | with_reducible refine New.drewN ?_ _ | with_reducible refine New.alloc ?_ _ | with_reducible refine New.setCell ?_ (by first | (simp; done) | (simp; omega) | omega) _ | with_reducible refine New.trans ?_ (by with_reducible assumption)))) (Nat.le_refl _), by rw [HT.out]; exact howna⟩
          case measure => simp [intOf]; omega
    · obtain rfl : k = T.length := by omega
      rw [List.take_length] at hown
      go_wp2_with fail
      go_ret
      exact ⟨_, rfl, hN, hown⟩
theorem ok_Op : okT [cOp] := okT_cons (by decide) okT_nil
theorem ok_Cl : okT [cCl] := okT_cons (by decide) okT_nil
theorem ok_Co : okT [cCo] := okT_cons (by decide) okT_nil
theorem kwN_at {w : World} {X : Value} (h : RdS w X keys) {i : Nat} (hi : i < 17) : ∃ b off cap, X = .slice (some ⟨b, off, none⟩) 17 cap ∧ b < w.heap.size ∧ w.cell? ⟨b, off + i, none⟩ = some (.string (kwN i)) := by
  obtain ⟨ad, cap, rfl, _, _, hc⟩ := h
  have hk : keys[i]? = some (kwN i) := by
    have : i < keys.length := by rw [keys_len]; exact hi
    rw [kwN, List.getD_eq_getElem?_getD, List.getElem?_eq_getElem this]; rfl
  obtain ⟨b, off, rfl, hb, hx⟩ := hc i (.string (kwN i)) (by rw [List.getElem?_map, hk]; rfl)
  exact ⟨b, off, cap, rfl, hb, hx⟩
theorem ok_kw (i : Nat) : okT [kwN i] := okT_cons (kwN_size i) okT_nil
set_option maxHeartbeats 1000000 in
theorem sClosed_any (tv : Value) (T : List ByteArray) (k : Int) (b : Bool) (w : World) (ht : RdX w tv T) (hl : T.length ≤ 10000) :
    Calls Tryz.prog 130 #[.agg #[tv, .int .i64 k], .bool b] w (RetTk w (clV b T)) := by
  obtain ⟨ta, tc, rfl⟩ := ht.slice
  have HT := Lib.hid ht
  clear ht
  cases b with
  | false =>
    rw [clV_f]
    go_enter Tryz.func130, Tryz.ntmps130
    go_wp2_with fail
    go_ret
    exact ⟨_, _, rfl, (by repeat (first | with_reducible exact New.refl _ | with_reducible assumption | with_reducible refine New.drew ?_ | with_reducible refine New.drewN ?_ _ | with_reducible refine New.alloc ?_ _ | with_reducible refine New.setCell ?_ (by first | (simp; done) | (simp; omega) | omega) _ | with_reducible refine New.trans ?_ (by with_reducible assumption))), HT.out.new (by repeat (first | with_reducible exact New.refl _ | with_reducible assumption | with_reducible refine New.drew ?_ | with_reducible refine New.drewN ?_ _ | with_reducible refine New.alloc ?_ _ | with_reducible refine New.setCell ?_ (by first | (simp; done) | (simp; omega) | omega) _ | with_reducible refine New.trans ?_ (by with_reducible assumption)))⟩
  | true =>
    rw [clV_t]
    obtain ⟨TT, hTT⟩ : ∃ TT, TT = cOp :: (T ++ [cCl]) := ⟨_, rfl⟩
    have HTT := Lib.hid (show [cOp] ++ T ++ [cCl] = TT by rw [hTT]; simp)
    rw [← hTT]
    clear hTT
    go_enter Tryz.func130, Tryz.ntmps130
    go_wp2_with fail
    refine RC.wp_facts (132) (_) (fun _ => True) [fun X W' => ∃ q, X = .slice (some ⟨q, 0, none⟩) 1 1 ∧ Blk W' q #[.string cOp] 9, fun X W' => ∃ q c, X = .slice q 1 c ∧ OwnX (w.heap.size + 1) W' (.slice q 1 c) [cOp], fun X _ => X = .pointer (some ⟨w.heap.size, 0, none⟩), fun X _ => X = .slice ta T.length tc, fun X W' => ∃ q c, X = .slice q ([cOp] ++ T).length c ∧ OwnX (w.heap.size + 1) W' (.slice q ([cOp] ++ T).length c) ([cOp] ++ T), fun X W' => ∃ q, X = .slice (some ⟨q, 0, none⟩) 1 1 ∧ Blk W' q #[.string cCl] 9, fun X W' => ∃ q c, X = .slice q 1 c ∧ OwnX (w.heap.size + 1) W' (.slice q 1 c) [cCl], fun X W' => ∃ q c, X = .slice q (TT).length c ∧ OwnX (w.heap.size + 1) W' (.slice q (TT).length c) (TT)] [none, some 4, none, none, some 7, none, some 7, some 58] [false, false, false, false, true, false, false, true] (by kernel_rfl) (by kernel_rfl) (by kernel_rfl) (New.refl _) (trivial) (fun _ _ _ h => h) ⟨fun X w0 w1 hn ⟨q9, t9, k9⟩ => ⟨q9, t9, k9.new hn⟩, fun X w0 w1 hn ⟨a10, c10, t10, o10⟩ => ⟨a10, c10, t10, o10.new hn⟩, RG.stable_eq _, RG.stable_eq _, fun X w0 w1 hn ⟨a13, c13, t13, o13⟩ => ⟨a13, c13, t13, o13.new hn⟩, fun X w0 w1 hn ⟨q14, t14, k14⟩ => ⟨q14, t14, k14.new hn⟩, fun X w0 w1 hn ⟨a15, c15, t15, o15⟩ => ⟨a15, c15, t15, o15.new hn⟩, fun X w0 w1 hn ⟨a16, c16, t16, o16⟩ => ⟨a16, c16, t16, o16.new hn⟩, trivial⟩ ⟨fun X w0 w1 hw0 hn ⟨q9, t9, k9⟩ => ⟨q9, t9, hn.blk _ _ _ k9 (by decide)⟩, RC.stable_eqG _ _ _, RC.stable_eqG _ _ _, fun X w0 w1 hw0 hn ⟨q14, t14, k14⟩ => ⟨q14, t14, hn.blk _ _ _ k14 (by decide)⟩, trivial⟩ ?_ ?_
    · refine ⟨?_, ?_, ?_, ?_, ?_, ?_, ?_, ?_, trivial⟩
      · intro a w9 hw hj ho hk
        refine .inl ⟨by rfl, ?_⟩
        simp only [Bool.false_eq_true, if_false, if_true, eq_self_iff_true]
        go_simp; first | exact ⟨(New.refl _).alloc _, _, rfl, _, rfl, Blk.alloc_at rfl⟩ | exact ⟨(New.refl _).alloc _, _, by simp, Blk.alloc_at rfl⟩
      · intro a w9 hw hj ho hk
        refine .inl ⟨by rfl, ?_⟩
        simp only [Bool.false_eq_true, if_false, if_true, eq_self_iff_true]
        obtain ⟨q9, t9, k9⟩ : ∃ q, (a.tmps[9]?.getD undef) = .slice (some ⟨q, 0, none⟩) 1 1 ∧ Blk w9 q #[.string cOp] 9 := hk 0 9 (by kernel_rfl) rfl
        go_simp
        refine (sTokens_any _ [cOp] _ (rdS_blk [cOp] k9) ok_Op (by simp)).mono ?_; rintro e w2 ⟨r, rfl, hb, o⟩
        have hzw := hw.size; obtain ⟨q, c, rfl⟩ := o.slice; exact ⟨hb, _, rfl, _, _, rfl, o.base (by first | (simp only [World.size_alloc] at hzw; omega) | omega)⟩
      · intro a w9 hw hj ho hk
        refine .inl ⟨by rfl, ?_⟩
        simp only [Bool.false_eq_true, if_false, if_true, eq_self_iff_true]
        have t2 := ho 2 rfl
        dsimp at t2
        try with_reducible replace hw := New.undrawN hw
        try with_reducible replace hw := New.undraw hw
        obtain ⟨c, f'⟩ := hw.rules
        go_simp
        exact New.refl _
      · intro a w9 hw hj ho hk
        refine .inl ⟨by rfl, ?_⟩
        simp only [Bool.false_eq_true, if_false, if_true, eq_self_iff_true]
        have t11 : a.tmps[11]?.getD undef = .pointer (some ⟨w.heap.size, 0, none⟩) := hk 2 11 (by kernel_rfl) rfl
        try with_reducible replace hw := New.undrawN hw
        try with_reducible replace hw := New.undraw hw
        obtain ⟨c, f'⟩ := hw.rules
        go_simp
        exact New.refl _
      · intro a w9 hw hj ho hk
        refine .inl ⟨by rfl, ?_⟩
        simp only [Bool.false_eq_true, if_false, if_true, eq_self_iff_true]
        obtain ⟨a10, c10, t10, o10⟩ : ∃ q c, (a.tmps[10]?.getD undef) = .slice q 1 c ∧ OwnX (w.heap.size + 1) w9 (.slice q 1 c) [cOp] := hk 1 10 (by kernel_rfl) rfl
        have t12 : a.tmps[12]?.getD undef = .slice ta T.length tc := hk 3 12 (by kernel_rfl) rfl
        have hzw := hw.size; exact wp_append_XG _ _ rfl (w.heap.size + 1) _ ([cOp]) (by first | (simp [Act.eval, Act.get]; exact t10) | simp [Act.eval, t10]) (o10) _ (T) (by first | (simp [Act.eval, Act.get]; exact t12) | simp [Act.eval, t12]) (HT.out.new (New.trans (show New w _ by exact (by repeat (first | with_reducible exact New.refl _ | with_reducible assumption | with_reducible refine New.drew ?_ | with_reducible refine New.drewN ?_ _ | with_reducible refine New.alloc ?_ _ | with_reducible refine New.setCell ?_ (by first | (simp; done) | (simp; omega) | omega) _ | with_reducible refine New.trans ?_ (by with_reducible assumption)))) hw)) (by first | (simp only [List.length_cons, List.length_nil, List.length_append] at *; omega) | omega) (by first | (simp only [World.size_alloc] at hzw; omega) | omega) (fun v2 w2 h2 g2 => by obtain ⟨q, c, h9⟩ := h2.slice; subst h9; exact ⟨g2 _ (by first | (simp only [World.size_alloc]; omega) | omega), _, rfl, _, _, rfl, h2⟩)
      · intro a w9 hw hj ho hk
        refine .inl ⟨by rfl, ?_⟩
        simp only [Bool.false_eq_true, if_false, if_true, eq_self_iff_true]
        go_simp; first | exact ⟨(New.refl _).alloc _, _, rfl, _, rfl, Blk.alloc_at rfl⟩ | exact ⟨(New.refl _).alloc _, _, by simp, Blk.alloc_at rfl⟩
      · intro a w9 hw hj ho hk
        refine .inl ⟨by rfl, ?_⟩
        simp only [Bool.false_eq_true, if_false, if_true, eq_self_iff_true]
        obtain ⟨q14, t14, k14⟩ : ∃ q, (a.tmps[14]?.getD undef) = .slice (some ⟨q, 0, none⟩) 1 1 ∧ Blk w9 q #[.string cCl] 9 := hk 5 14 (by kernel_rfl) rfl
        go_simp
        refine (sTokens_any _ [cCl] _ (rdS_blk [cCl] k14) ok_Cl (by simp)).mono ?_; rintro e w2 ⟨r, rfl, hb, o⟩
        have hzw := hw.size; obtain ⟨q, c, rfl⟩ := o.slice; exact ⟨hb, _, rfl, _, _, rfl, o.base (by first | (simp only [World.size_alloc] at hzw; omega) | omega)⟩
      · intro a w9 hw hj ho hk
        refine .inl ⟨by rfl, ?_⟩
        simp only [Bool.false_eq_true, if_false, if_true, eq_self_iff_true]
        obtain ⟨a13, c13, t13, o13⟩ : ∃ q c, (a.tmps[13]?.getD undef) = .slice q ([cOp] ++ T).length c ∧ OwnX (w.heap.size + 1) w9 (.slice q ([cOp] ++ T).length c) ([cOp] ++ T) := hk 4 13 (by kernel_rfl) rfl
        obtain ⟨a15, c15, t15, o15⟩ : ∃ q c, (a.tmps[15]?.getD undef) = .slice q 1 c ∧ OwnX (w.heap.size + 1) w9 (.slice q 1 c) [cCl] := hk 6 15 (by kernel_rfl) rfl
        have hzw := hw.size; exact wp_append_XG _ _ rfl (w.heap.size + 1) _ ([cOp] ++ T) (by first | (simp [Act.eval, Act.get]; exact t13) | simp [Act.eval, t13]) (o13) _ ([cCl]) (by first | (simp [Act.eval, Act.get]; exact t15) | simp [Act.eval, t15]) (o15.rd) (by first | (simp only [List.length_cons, List.length_nil, List.length_append] at *; omega) | omega) (by first | (simp only [World.size_alloc] at hzw; omega) | omega) (fun v2 w2 h2 g2 => by rw [HTT.out] at h2; obtain ⟨q, c, h9⟩ := h2.slice; subst h9; exact ⟨g2 _ (by first | (simp only [World.size_alloc]; omega) | omega), _, rfl, _, _, rfl, h2⟩)
    intro w3 b3
    rintro _ ⟨q9, rfl, k9⟩
    intro _ _
    rintro _ rfl
    rintro _ rfl
    intro _ _
    rintro _ ⟨q14, rfl, k14⟩
    intro _ _
    intro x16 h16; obtain ⟨a16, c16, rfl, o16⟩ := h16 (by simp)
    try with_reducible replace b3 := New.undrawN b3
    try with_reducible replace b3 := New.undraw b3
    obtain ⟨c3, f3⟩ := b3.rules
    have z3 := b3.size
    try simp only [World.size_alloc, World.size_drew, World.heap_drewN, World.size_setCell] at z3
    have z3_0 : w.heap.size < w3.heap.size := by omega
    simp only [RC.EndAll, List.nil_append, List.cons_append, List.length_cons, List.length_nil, Nat.zero_add, Nat.reduceAdd, List.take_succ_cons, List.take_zero, List.drop_succ_cons, List.drop_zero, putAll, RG.putAll, Act.put, List.setIfInBounds_toArray, List.set_cons_succ, List.set_cons_zero]
    go_wp2_with fail
    go_ret
    exact ⟨_, _, rfl, (show New w w3 by exact (by repeat (first | with_reducible exact New.refl _ | with_reducible assumption | with_reducible refine New.drew ?_ | with_reducible refine New.drewN ?_ _ | with_reducible refine New.alloc ?_ _ | with_reducible refine New.setCell ?_ (by first | (simp; done) | (simp; omega) | omega) _ | with_reducible refine New.trans ?_ (by with_reducible assumption)))), o16.rd⟩
set_option maxHeartbeats 1000000 in
theorem sApplyName_any (nm : ByteArray) (n : Int) (av : Value) (w : World) (hs : nm.size ≤ 1000) :
    Calls Tryz.prog 91 #[.agg #[.int .i64 1, .string nm, .int .i64 n], av] w (RetWr w [nm] 1) := by
  have HO := Lib.hid (show okT [nm] from okT_cons hs okT_nil)
  go_enter Tryz.func91, Tryz.ntmps91
  go_wp2_with fail
  refine RG.wp_facts [fun X _ => X = .pointer (some ⟨w.heap.size, 1, none⟩), fun X _ => X = .string nm, fun X W' => RdS W' X [nm], fun X W' => ∃ q c, X = .slice q [nm].length c ∧ OwnX (w.heap.size + 1 + 1) W' (.slice q [nm].length c) [nm], fun X _ => X = .pointer (some ⟨w.heap.size, 0, none⟩), fun X _ => X = .int .i64 1, fun X W' => ∃ q c, X = .agg #[.slice q [nm].length c, .int .i64 1] ∧ OwnX (w.heap.size + 1 + 1) W' (.slice q [nm].length c) [nm]] (by kernel_rfl) (by kernel_rfl) ⟨RG.stable_eq _, RG.stable_eq _, fun X w0 w1 hn k17 => Rd.new k17 hn, fun X w0 w1 hn ⟨a18, c18, t18, o18⟩ => ⟨a18, c18, t18, o18.new hn⟩, RG.stable_eq _, RG.stable_eq _, fun X w0 w1 hn ⟨a21, c21, t21, o21⟩ => ⟨a21, c21, t21, o21.new hn⟩, trivial⟩ ?_ ?_
  · refine ⟨?_, ?_, ?_, ?_, ?_, ?_, ?_, trivial⟩
    · intro a w9 hw ho hk
      refine .inl ⟨by rfl, ?_⟩
      have t2 := ho 2 rfl
      dsimp at t2
      try with_reducible replace hw := New.undrawN hw
      try with_reducible replace hw := New.undraw hw
      obtain ⟨c, f'⟩ := hw.rules
      go_simp
      exact New.refl _
    · intro a w9 hw ho hk
      refine .inl ⟨by rfl, ?_⟩
      have t15 : a.tmps[15]?.getD undef = .pointer (some ⟨w.heap.size, 1, none⟩) := hk 0 15 (by kernel_rfl) rfl
      try with_reducible replace hw := New.undrawN hw
      try with_reducible replace hw := New.undraw hw
      obtain ⟨c, f'⟩ := hw.rules
      go_simp
      exact New.refl _
    · intro a w9 hw ho hk
      refine .inl ⟨by rfl, ?_⟩
      have t16 : a.tmps[16]?.getD undef = .string nm := hk 1 16 (by kernel_rfl) rfl
      go_simp; first | exact ⟨(New.refl _).alloc _, _, rfl, rdS_lay [nm] _⟩ | exact ⟨(New.refl _).alloc _, rdS_lay [nm] _⟩
    · intro a w9 hw ho hk
      refine .inl ⟨by rfl, ?_⟩
      obtain k17 : RdS w9 (a.tmps[17]?.getD undef) [nm] := hk 2 17 (by kernel_rfl) rfl
      go_simp
      refine (sTokens_any _ [nm] _ k17 HO.out (by simp)).mono ?_; rintro e w2 ⟨r, rfl, hb, o⟩
      have hzw := hw.size; obtain ⟨q, c, rfl⟩ := o.slice; first | exact ⟨hb, _, rfl, _, _, rfl, o.base (by simp only [World.size_alloc] at hzw; omega)⟩ | exact ⟨hb, _, _, by simp, o.base (by simp only [World.size_alloc] at hzw; omega)⟩
    · intro a w9 hw ho hk
      refine .inl ⟨by rfl, ?_⟩
      have t2 := ho 2 rfl
      dsimp at t2
      try with_reducible replace hw := New.undrawN hw
      try with_reducible replace hw := New.undraw hw
      obtain ⟨c, f'⟩ := hw.rules
      go_simp
      exact New.refl _
    · intro a w9 hw ho hk
      refine .inl ⟨by rfl, ?_⟩
      have t19 : a.tmps[19]?.getD undef = .pointer (some ⟨w.heap.size, 0, none⟩) := hk 4 19 (by kernel_rfl) rfl
      try with_reducible replace hw := New.undrawN hw
      try with_reducible replace hw := New.undraw hw
      obtain ⟨c, f'⟩ := hw.rules
      go_simp
      exact New.refl _
    · intro a w9 hw ho hk
      refine .inl ⟨by rfl, ?_⟩
      obtain ⟨a18, c18, t18, o18⟩ : ∃ q c, (a.tmps[18]?.getD undef) = .slice q [nm].length c ∧ OwnX (w.heap.size + 1 + 1) w9 (.slice q [nm].length c) [nm] := hk 3 18 (by kernel_rfl) rfl
      have t20 : a.tmps[20]?.getD undef = .int .i64 1 := hk 5 20 (by kernel_rfl) rfl
      go_simp
      first | exact ⟨New.refl _, _, rfl, _, _, rfl, o18⟩ | exact ⟨New.refl _, _, _, by simp, o18⟩
  intro w3 b3 x15 h15 x16 h16 x17 k17 x18 ⟨a18, c18, t18, o18⟩ x19 h19 x20 h20 x21 ⟨a21, c21, t21, o21⟩
  subst h15 h16 t18 h19 h20 t21
  try with_reducible replace b3 := New.undrawN b3
  try with_reducible replace b3 := New.undraw b3
  obtain ⟨c3, f3⟩ := b3.rules
  have z3 := b3.size
  try simp only [World.size_alloc, World.size_drew, World.heap_drewN, World.size_setCell] at z3
  have z3_0 : w.heap.size < w3.heap.size := by omega
  have z3_1 : w.heap.size + 1 < w3.heap.size := by omega
  simp only [RG.EndAll, List.nil_append, List.cons_append, List.length_cons, List.length_nil, Nat.zero_add, Nat.reduceAdd, List.take_succ_cons, List.take_zero, List.drop_succ_cons, List.drop_zero, RG.putAll, Act.put, List.setIfInBounds_toArray, List.set_cons_succ, List.set_cons_zero]
  have KB3 : Blk w3 (w.heap.size + 1) #[.slice none 0 0, .int .i64 0] 135 := Blk.new (Blk.alloc_at (by simp)) b3
  go_wp2_with fail
  exact ret_wr rfl (show New w w3 by exact (by repeat (first | with_reducible exact New.refl _ | with_reducible assumption | with_reducible refine New.drew ?_ | with_reducible refine New.drewN ?_ _ | with_reducible refine New.alloc ?_ _ | with_reducible refine New.setCell ?_ (by first | (simp; done) | (simp; omega) | omega) _ | with_reducible refine New.trans ?_ (by with_reducible assumption)))) (by omega) KB3 (o21) (by simp [results, Tryz.results91, go_sem, c3, f3, z3_0, z3_1])
set_option maxHeartbeats 1000000 in
theorem sApplyTrue_any (nm : ByteArray) (n : Int) (av : Value) (w : World) :
    Calls Tryz.prog 91 #[.agg #[.int .i64 2, .string nm, .int .i64 n], av] w (RetWr w [kwN 9] 2) := by
  have HO := Lib.hid (ok_kw 9)
  have HKY := Lib.hid (fun (w0 : World) (X : Value) (h : RdS w0 X keys) => kwN_at h (i := 9) (by decide))
  obtain ⟨KWD, hKWD⟩ : ∃ KWD, KWD = kwN 9 := ⟨_, rfl⟩
  rw [← hKWD] at HO HKY ⊢
  clear hKWD
  have gw0 : IntKind.i64.wrap 0 = 0 := i64_in' _ (by omega) (by omega)
  have gw1 : IntKind.i64.wrap 9 = 9 := i64_in' _ (by omega) (by omega)
  go_enter Tryz.func91, Tryz.ntmps91
  go_wp2_with fail
  refine RG.wp_facts [fun X W' => RdS W' X keys, fun X _ => X = .pointer (some ⟨w.heap.size, 0, none⟩), fun X _ => X = .int .i64 2, fun X _ => X = .int .i64 0, fun X _ => X = .int .i64 9, fun X W' => PtrTo W' X (.string KWD), fun X _ => X = .string KWD, fun X W' => RdS W' X [KWD], fun X W' => ∃ q c, X = .slice q [KWD].length c ∧ OwnX (w.heap.size + 1 + 1) W' (.slice q [KWD].length c) [KWD], fun X _ => X = .pointer (some ⟨w.heap.size, 0, none⟩), fun X _ => X = .int .i64 2, fun X W' => ∃ q c, X = .agg #[.slice q [KWD].length c, .int .i64 2] ∧ OwnX (w.heap.size + 1 + 1) W' (.slice q [KWD].length c) [KWD]] (by kernel_rfl) (by kernel_rfl) ⟨fun X w0 w1 hn k113 => Rd.new k113 hn, RG.stable_eq _, RG.stable_eq _, RG.stable_eq _, RG.stable_eq _, fun X w0 w1 hn k118 => k118.new hn, RG.stable_eq _, fun X w0 w1 hn k120 => Rd.new k120 hn, fun X w0 w1 hn ⟨a121, c121, t121, o121⟩ => ⟨a121, c121, t121, o121.new hn⟩, RG.stable_eq _, RG.stable_eq _, fun X w0 w1 hn ⟨a124, c124, t124, o124⟩ => ⟨a124, c124, t124, o124.new hn⟩, trivial⟩ ?_ ?_
  · refine ⟨?_, ?_, ?_, ?_, ?_, ?_, ?_, ?_, ?_, ?_, ?_, ?_, trivial⟩
    · intro a w9 hw ho hk
      refine .inl ⟨by rfl, ?_⟩
      go_simp; refine (sKeywords_any _).mono ?_; rintro e w3 ⟨u, rfl, hb, hu⟩; first | exact ⟨hb, _, rfl, hu⟩ | exact ⟨hb, hu⟩
    · intro a w9 hw ho hk
      refine .inl ⟨by rfl, ?_⟩
      have t2 := ho 2 rfl
      dsimp at t2
      try with_reducible replace hw := New.undrawN hw
      try with_reducible replace hw := New.undraw hw
      obtain ⟨c, f'⟩ := hw.rules
      go_simp
      exact New.refl _
    · intro a w9 hw ho hk
      refine .inl ⟨by rfl, ?_⟩
      have t114 : a.tmps[114]?.getD undef = .pointer (some ⟨w.heap.size, 0, none⟩) := hk 1 114 (by kernel_rfl) rfl
      try with_reducible replace hw := New.undrawN hw
      try with_reducible replace hw := New.undraw hw
      obtain ⟨c, f'⟩ := hw.rules
      go_simp
      exact New.refl _
    · intro a w9 hw ho hk
      refine .inl ⟨by rfl, ?_⟩
      have t115 : a.tmps[115]?.getD undef = .int .i64 2 := hk 2 115 (by kernel_rfl) rfl
      go_simp
      exact New.refl _
    · intro a w9 hw ho hk
      refine .inl ⟨by rfl, ?_⟩
      have t116 : a.tmps[116]?.getD undef = .int .i64 0 := hk 3 116 (by kernel_rfl) rfl
      go_simp
      exact New.refl _
    · intro a w9 hw ho hk
      refine .inl ⟨by rfl, ?_⟩
      obtain k113 : RdS w9 (a.tmps[113]?.getD undef) keys := hk 0 113 (by kernel_rfl) rfl
      have t117 : a.tmps[117]?.getD undef = .int .i64 9 := hk 4 117 (by kernel_rfl) rfl
      obtain ⟨b3, o3, cap3, t113, l3, x3⟩ := HKY.out _ _ k113; go_simp; first | exact ⟨New.refl _, _, rfl, b3, _, rfl, l3, x3⟩ | exact ⟨New.refl _, b3, _, rfl, l3, x3⟩
    · intro a w9 hw ho hk
      refine .inl ⟨by rfl, ?_⟩
      obtain k118 : PtrTo w9 (a.tmps[118]?.getD undef) (.string KWD) := hk 5 118 (by kernel_rfl) rfl
      obtain ⟨b35, o35, t35, l35, c35⟩ := k118; go_simp; exact New.refl _
    · intro a w9 hw ho hk
      refine .inl ⟨by rfl, ?_⟩
      have t119 : a.tmps[119]?.getD undef = .string KWD := hk 6 119 (by kernel_rfl) rfl
      go_simp; first | exact ⟨(New.refl _).alloc _, _, rfl, rdS_lay [KWD] _⟩ | exact ⟨(New.refl _).alloc _, rdS_lay [KWD] _⟩
    · intro a w9 hw ho hk
      refine .inl ⟨by rfl, ?_⟩
      obtain k120 : RdS w9 (a.tmps[120]?.getD undef) [KWD] := hk 7 120 (by kernel_rfl) rfl
      go_simp
      refine (sTokens_any _ [KWD] _ k120 HO.out (by simp)).mono ?_; rintro e w2 ⟨r, rfl, hb, o⟩
      have hzw := hw.size; obtain ⟨q, c, rfl⟩ := o.slice; first | exact ⟨hb, _, rfl, _, _, rfl, o.base (by simp only [World.size_alloc] at hzw; omega)⟩ | exact ⟨hb, _, _, by simp, o.base (by simp only [World.size_alloc] at hzw; omega)⟩
    · intro a w9 hw ho hk
      refine .inl ⟨by rfl, ?_⟩
      have t2 := ho 2 rfl
      dsimp at t2
      try with_reducible replace hw := New.undrawN hw
      try with_reducible replace hw := New.undraw hw
      obtain ⟨c, f'⟩ := hw.rules
      go_simp
      exact New.refl _
    · intro a w9 hw ho hk
      refine .inl ⟨by rfl, ?_⟩
      have t122 : a.tmps[122]?.getD undef = .pointer (some ⟨w.heap.size, 0, none⟩) := hk 9 122 (by kernel_rfl) rfl
      try with_reducible replace hw := New.undrawN hw
      try with_reducible replace hw := New.undraw hw
      obtain ⟨c, f'⟩ := hw.rules
      go_simp
      exact New.refl _
    · intro a w9 hw ho hk
      refine .inl ⟨by rfl, ?_⟩
      obtain ⟨a121, c121, t121, o121⟩ : ∃ q c, (a.tmps[121]?.getD undef) = .slice q [KWD].length c ∧ OwnX (w.heap.size + 1 + 1) w9 (.slice q [KWD].length c) [KWD] := hk 8 121 (by kernel_rfl) rfl
      have t123 : a.tmps[123]?.getD undef = .int .i64 2 := hk 10 123 (by kernel_rfl) rfl
      go_simp
      first | exact ⟨New.refl _, _, rfl, _, _, rfl, o121⟩ | exact ⟨New.refl _, _, _, by simp, o121⟩
  intro w3 b3 x113 k113 x114 h114 x115 h115 x116 h116 x117 h117 x118 k118 x119 h119 x120 k120 x121 ⟨a121, c121, t121, o121⟩ x122 h122 x123 h123 x124 ⟨a124, c124, t124, o124⟩
  subst h114 h115 h116 h117 h119 t121 h122 h123 t124
  try with_reducible replace b3 := New.undrawN b3
  try with_reducible replace b3 := New.undraw b3
  obtain ⟨c3, f3⟩ := b3.rules
  have z3 := b3.size
  try simp only [World.size_alloc, World.size_drew, World.heap_drewN, World.size_setCell] at z3
  have z3_0 : w.heap.size < w3.heap.size := by omega
  have z3_1 : w.heap.size + 1 < w3.heap.size := by omega
  simp only [RG.EndAll, List.nil_append, List.cons_append, List.length_cons, List.length_nil, Nat.zero_add, Nat.reduceAdd, List.take_succ_cons, List.take_zero, List.drop_succ_cons, List.drop_zero, RG.putAll, Act.put, List.setIfInBounds_toArray, List.set_cons_succ, List.set_cons_zero]
  have KB3 : Blk w3 (w.heap.size + 1) #[.slice none 0 0, .int .i64 0] 135 := Blk.new (Blk.alloc_at (by simp)) b3
  go_wp2_with fail
  exact ret_wr rfl (show New w w3 by exact (by repeat (first | with_reducible exact New.refl _ | with_reducible assumption | with_reducible refine New.drew ?_ | with_reducible refine New.drewN ?_ _ | with_reducible refine New.alloc ?_ _ | with_reducible refine New.setCell ?_ (by first | (simp; done) | (simp; omega) | omega) _ | with_reducible refine New.trans ?_ (by with_reducible assumption)))) (by omega) KB3 (o124) (by simp [results, Tryz.results91, go_sem, c3, f3, z3_0, z3_1])
set_option maxHeartbeats 1000000 in
theorem sApplyFalse_any (nm : ByteArray) (n : Int) (av : Value) (w : World) :
    Calls Tryz.prog 91 #[.agg #[.int .i64 3, .string nm, .int .i64 n], av] w (RetWr w [kwN 10] 3) := by
  have HO := Lib.hid (ok_kw 10)
  have HKY := Lib.hid (fun (w0 : World) (X : Value) (h : RdS w0 X keys) => kwN_at h (i := 10) (by decide))
  obtain ⟨KWD, hKWD⟩ : ∃ KWD, KWD = kwN 10 := ⟨_, rfl⟩
  rw [← hKWD] at HO HKY ⊢
  clear hKWD
  have gw0 : IntKind.i64.wrap 1 = 1 := i64_in' _ (by omega) (by omega)
  have gw1 : IntKind.i64.wrap 10 = 10 := i64_in' _ (by omega) (by omega)
  go_enter Tryz.func91, Tryz.ntmps91
  go_wp2_with fail
  refine RG.wp_facts [fun X W' => RdS W' X keys, fun X _ => X = .pointer (some ⟨w.heap.size, 0, none⟩), fun X _ => X = .int .i64 3, fun X _ => X = .int .i64 1, fun X _ => X = .int .i64 10, fun X W' => PtrTo W' X (.string KWD), fun X _ => X = .string KWD, fun X W' => RdS W' X [KWD], fun X W' => ∃ q c, X = .slice q [KWD].length c ∧ OwnX (w.heap.size + 1 + 1) W' (.slice q [KWD].length c) [KWD], fun X _ => X = .pointer (some ⟨w.heap.size, 0, none⟩), fun X _ => X = .int .i64 3, fun X W' => ∃ q c, X = .agg #[.slice q [KWD].length c, .int .i64 3] ∧ OwnX (w.heap.size + 1 + 1) W' (.slice q [KWD].length c) [KWD]] (by kernel_rfl) (by kernel_rfl) ⟨fun X w0 w1 hn k113 => Rd.new k113 hn, RG.stable_eq _, RG.stable_eq _, RG.stable_eq _, RG.stable_eq _, fun X w0 w1 hn k118 => k118.new hn, RG.stable_eq _, fun X w0 w1 hn k120 => Rd.new k120 hn, fun X w0 w1 hn ⟨a121, c121, t121, o121⟩ => ⟨a121, c121, t121, o121.new hn⟩, RG.stable_eq _, RG.stable_eq _, fun X w0 w1 hn ⟨a124, c124, t124, o124⟩ => ⟨a124, c124, t124, o124.new hn⟩, trivial⟩ ?_ ?_
  · refine ⟨?_, ?_, ?_, ?_, ?_, ?_, ?_, ?_, ?_, ?_, ?_, ?_, trivial⟩
    · intro a w9 hw ho hk
      refine .inl ⟨by rfl, ?_⟩
      go_simp; refine (sKeywords_any _).mono ?_; rintro e w3 ⟨u, rfl, hb, hu⟩; first | exact ⟨hb, _, rfl, hu⟩ | exact ⟨hb, hu⟩
    · intro a w9 hw ho hk
      refine .inl ⟨by rfl, ?_⟩
      have t2 := ho 2 rfl
      dsimp at t2
      try with_reducible replace hw := New.undrawN hw
      try with_reducible replace hw := New.undraw hw
      obtain ⟨c, f'⟩ := hw.rules
      go_simp
      exact New.refl _
    · intro a w9 hw ho hk
      refine .inl ⟨by rfl, ?_⟩
      have t114 : a.tmps[114]?.getD undef = .pointer (some ⟨w.heap.size, 0, none⟩) := hk 1 114 (by kernel_rfl) rfl
      try with_reducible replace hw := New.undrawN hw
      try with_reducible replace hw := New.undraw hw
      obtain ⟨c, f'⟩ := hw.rules
      go_simp
      exact New.refl _
    · intro a w9 hw ho hk
      refine .inl ⟨by rfl, ?_⟩
      have t115 : a.tmps[115]?.getD undef = .int .i64 3 := hk 2 115 (by kernel_rfl) rfl
      go_simp
      exact New.refl _
    · intro a w9 hw ho hk
      refine .inl ⟨by rfl, ?_⟩
      have t116 : a.tmps[116]?.getD undef = .int .i64 1 := hk 3 116 (by kernel_rfl) rfl
      go_simp
      exact New.refl _
    · intro a w9 hw ho hk
      refine .inl ⟨by rfl, ?_⟩
      obtain k113 : RdS w9 (a.tmps[113]?.getD undef) keys := hk 0 113 (by kernel_rfl) rfl
      have t117 : a.tmps[117]?.getD undef = .int .i64 10 := hk 4 117 (by kernel_rfl) rfl
      obtain ⟨b3, o3, cap3, t113, l3, x3⟩ := HKY.out _ _ k113; go_simp; first | exact ⟨New.refl _, _, rfl, b3, _, rfl, l3, x3⟩ | exact ⟨New.refl _, b3, _, rfl, l3, x3⟩
    · intro a w9 hw ho hk
      refine .inl ⟨by rfl, ?_⟩
      obtain k118 : PtrTo w9 (a.tmps[118]?.getD undef) (.string KWD) := hk 5 118 (by kernel_rfl) rfl
      obtain ⟨b35, o35, t35, l35, c35⟩ := k118; go_simp; exact New.refl _
    · intro a w9 hw ho hk
      refine .inl ⟨by rfl, ?_⟩
      have t119 : a.tmps[119]?.getD undef = .string KWD := hk 6 119 (by kernel_rfl) rfl
      go_simp; first | exact ⟨(New.refl _).alloc _, _, rfl, rdS_lay [KWD] _⟩ | exact ⟨(New.refl _).alloc _, rdS_lay [KWD] _⟩
    · intro a w9 hw ho hk
      refine .inl ⟨by rfl, ?_⟩
      obtain k120 : RdS w9 (a.tmps[120]?.getD undef) [KWD] := hk 7 120 (by kernel_rfl) rfl
      go_simp
      refine (sTokens_any _ [KWD] _ k120 HO.out (by simp)).mono ?_; rintro e w2 ⟨r, rfl, hb, o⟩
      have hzw := hw.size; obtain ⟨q, c, rfl⟩ := o.slice; first | exact ⟨hb, _, rfl, _, _, rfl, o.base (by simp only [World.size_alloc] at hzw; omega)⟩ | exact ⟨hb, _, _, by simp, o.base (by simp only [World.size_alloc] at hzw; omega)⟩
    · intro a w9 hw ho hk
      refine .inl ⟨by rfl, ?_⟩
      have t2 := ho 2 rfl
      dsimp at t2
      try with_reducible replace hw := New.undrawN hw
      try with_reducible replace hw := New.undraw hw
      obtain ⟨c, f'⟩ := hw.rules
      go_simp
      exact New.refl _
    · intro a w9 hw ho hk
      refine .inl ⟨by rfl, ?_⟩
      have t122 : a.tmps[122]?.getD undef = .pointer (some ⟨w.heap.size, 0, none⟩) := hk 9 122 (by kernel_rfl) rfl
      try with_reducible replace hw := New.undrawN hw
      try with_reducible replace hw := New.undraw hw
      obtain ⟨c, f'⟩ := hw.rules
      go_simp
      exact New.refl _
    · intro a w9 hw ho hk
      refine .inl ⟨by rfl, ?_⟩
      obtain ⟨a121, c121, t121, o121⟩ : ∃ q c, (a.tmps[121]?.getD undef) = .slice q [KWD].length c ∧ OwnX (w.heap.size + 1 + 1) w9 (.slice q [KWD].length c) [KWD] := hk 8 121 (by kernel_rfl) rfl
      have t123 : a.tmps[123]?.getD undef = .int .i64 3 := hk 10 123 (by kernel_rfl) rfl
      go_simp
      first | exact ⟨New.refl _, _, rfl, _, _, rfl, o121⟩ | exact ⟨New.refl _, _, _, by simp, o121⟩
  intro w3 b3 x113 k113 x114 h114 x115 h115 x116 h116 x117 h117 x118 k118 x119 h119 x120 k120 x121 ⟨a121, c121, t121, o121⟩ x122 h122 x123 h123 x124 ⟨a124, c124, t124, o124⟩
  subst h114 h115 h116 h117 h119 t121 h122 h123 t124
  try with_reducible replace b3 := New.undrawN b3
  try with_reducible replace b3 := New.undraw b3
  obtain ⟨c3, f3⟩ := b3.rules
  have z3 := b3.size
  try simp only [World.size_alloc, World.size_drew, World.heap_drewN, World.size_setCell] at z3
  have z3_0 : w.heap.size < w3.heap.size := by omega
  have z3_1 : w.heap.size + 1 < w3.heap.size := by omega
  simp only [RG.EndAll, List.nil_append, List.cons_append, List.length_cons, List.length_nil, Nat.zero_add, Nat.reduceAdd, List.take_succ_cons, List.take_zero, List.drop_succ_cons, List.drop_zero, RG.putAll, Act.put, List.setIfInBounds_toArray, List.set_cons_succ, List.set_cons_zero]
  have KB3 : Blk w3 (w.heap.size + 1) #[.slice none 0 0, .int .i64 0] 135 := Blk.new (Blk.alloc_at (by simp)) b3
  go_wp2_with fail
  exact ret_wr rfl (show New w w3 by exact (by repeat (first | with_reducible exact New.refl _ | with_reducible assumption | with_reducible refine New.drew ?_ | with_reducible refine New.drewN ?_ _ | with_reducible refine New.alloc ?_ _ | with_reducible refine New.setCell ?_ (by first | (simp; done) | (simp; omega) | omega) _ | with_reducible refine New.trans ?_ (by with_reducible assumption)))) (by omega) KB3 (o124) (by simp [results, Tryz.results91, go_sem, c3, f3, z3_0, z3_1])
end Go.Proofs.YteielmihlfakgaaGreatDoor
