/- Contracts: tokens of a block's value and of expressions: the reference. -/
import Derived.Test.YteielmihlfakgaaGreatDoorProg
import Derived.Test.YteielmihlfakgaaGreatDoorExpT
namespace Go.Proofs.YteielmihlfakgaaGreatDoor
open Go Go.Proofs Go.RowKit
set_option linter.unusedVariables false
set_option linter.unusedSimpArgs false
set_option maxRecDepth 100000
theorem OwnX.sliceN {base : Nat} {w : World} {v : Value} {T : List ByteArray} (h : OwnX base w v T) : ∃ a n c, v = .slice a n c := by
  obtain ⟨a, c, e⟩ := h.slice; exact ⟨a, _, c, e⟩
theorem kwOf_okT {k : Int} (h : 7 ≤ k) (h' : k ≤ 12) : okT [kwOf k, cOp] := okT_cons (by have := (kwOf_size h h').2; omega) (okT_cons (by decide) okT_nil)
set_option maxHeartbeats 8000000 in
theorem sApplyBlk_any (k : Int) (nm : ByteArray) (n : Int) (L : List VT) (av : Value) (w : World) (hk7 : 7 ≤ k) (hk12 : k ≤ 12) (n0 : 0 ≤ n) (n1 : n ≤ 9999) (ha : RdW w av L) (hL : L.length = 1 ∨ L.length = 2) (hs : ∀ v ∈ L, v.toks.length ≤ 5000) :
    Calls Tryz.prog 91 #[.agg #[.int .i64 k, .string nm, .int .i64 n], av] w (RetWr w ([kwOf k, cOp] ++ argT L L.length ++ numT ⟨k, nm, n⟩ ++ [cCl]) k) := by
  obtain ⟨aa, ac, rfl, hm, hcp, _, HA⟩ := ha.open
  clear ha
  obtain ⟨u, rfl⟩ := Int.eq_ofNat_of_zero_le n0
  have HKY := Lib.hid (fun (w0 : World) (X : Value) (h : RdS w0 X keys) => kw_at_rd h hk7 hk12)
  have HOK := Lib.hid (kwOf_okT hk7 hk12)
  have HD := Lib.hid (fun (w0 : World) => sDec_any u w0 (by omega))
  have hdl := dec_len 3 u (by omega)
  rw [← strL_size] at hdl
  have HN := Lib.hid (fun (w0 : World) => sCounts_any k w0)
  have hnum : counts k = true ∧ numT ⟨k, nm, (u : Int)⟩ = [cCo, strL (Lib.decDigits u)] ∨ counts k = false ∧ numT ⟨k, nm, (u : Int)⟩ = [] := by
    rw [numT]; cases counts k <;> simp
  generalize strL (Lib.decDigits u) = DN at HD hnum hdl
  have HOD := Lib.hid (show okT [cCo, DN] from okT_cons (by decide) (okT_cons (by omega) okT_nil))
  clear hdl
  have HS := Lib.hid (fun (j : Nat) (h : j < L.length) => hs L[j] (List.getElem_mem h))
  have hal : (argT L L.length).length ≤ 10001 := by
    rcases hL with h | h
    · have := HS.out 0 (by omega)
      rw [h]; simp [argT, show 0 < L.length by omega]; omega
    · have h1 := HS.out 0 (by omega)
      have h2 := HS.out 1 (by omega)
      rw [h]; simp [argT, show 0 < L.length by omega, show 1 < L.length by omega]; omega
  have HG := Lib.hid (show ∀ h : 0 < L.length, argT L 1 = L[0].toks from fun h => by simp [argT, h])
  have HG2 := Lib.hid (show ∀ h : 1 < L.length, argT L 2 = L[0].toks ++ cCo :: L[1].toks from fun h => by simp [argT, h, show 0 < L.length by omega])
  clear hs
  generalize numT ⟨k, nm, (u : Int)⟩ = NT at hnum ⊢
  generalize counts k = CN at HN hnum
  generalize kwOf k = KWD at HKY HOK ⊢
  obtain ⟨i, rfl, hi5⟩ : ∃ i : Nat, k = (i : Int) + 7 ∧ i ≤ 5 := ⟨(k - 7).toNat, by omega, by omega⟩
  have g5 : IntKind.i64.wrap ((i : Int) + 7 - 7) = (i : Int) := by rw [Int.add_sub_cancel]; exact i64_in' _ (by omega) (by omega)
  have g5b := i64_in' (i : Int) (by omega) (by omega)
  have g6 := i64_in' ((i : Int) + 11) (by omega) (by omega)
  have g9 : 0 ≤ (i : Int) + 11 := by omega
  have g10 : (i : Int) + 11 < 17 := by omega
  have g7 : ((i : Int) + 7 + 4).toNat = i + 11 := by omega
  rw [g7] at HKY
  have g8 : ((i : Int) + 11).toNat = i + 11 := by omega
  have q1 : ((i : Int) + 7 == 1) = false := by simp; omega
  have q2 : ((i : Int) + 7 == 2) = false := by simp; omega
  have q3 : ((i : Int) + 7 == 3) = false := by simp; omega
  have q4 : ((i : Int) + 7 == 4) = false := by simp; omega
  have q5 : ((i : Int) + 7 == 5) = false := by simp; omega
  have q6 : ((i : Int) + 7 == 6) = false := by simp; omega
  clear hk7 hk12 n0 n1
  obtain ⟨TT, hTT⟩ : ∃ TT, TT = [KWD, cOp] ++ argT L L.length ++ NT ++ [cCl] := ⟨_, rfl⟩
  rw [← hTT]
  replace hTT := Lib.hid hTT.symm
  have KB2 : Blk ((w.alloc (.cells #[.int .i64 ((i : Int) + 7), .string nm, .int .i64 (u : Int)] 66)).alloc (.cells #[.slice none 0 0, .int .i64 0] 135)) w.heap.size #[.int .i64 ((i : Int) + 7), .string nm, .int .i64 (u : Int)] 66 := Blk.alloc (Blk.alloc_at rfl) _
  have KR2 : Blk ((w.alloc (.cells #[.int .i64 ((i : Int) + 7), .string nm, .int .i64 (u : Int)] 66)).alloc (.cells #[.slice none 0 0, .int .i64 0] 135)) (w.heap.size + 1) #[.slice none 0 0, .int .i64 0] 135 := Blk.alloc_at (by simp)
  have NW2 : New w ((w.alloc (.cells #[.int .i64 ((i : Int) + 7), .string nm, .int .i64 (u : Int)] 66)).alloc (.cells #[.slice none 0 0, .int .i64 0] 135)) := by exact (by repeat (first | with_reducible exact New.refl _ | with_reducible assumption | with_reducible refine New.drew ?_ | with_reducible refine New.drewN ?_ _ | with_reducible refine New.alloc ?_ _ | with_reducible refine New.setCell ?_ (by first | (simp; done) | (simp; omega) | omega) _ | with_reducible refine New.trans ?_ (by with_reducible assumption)))
  have zW2 : ((w.alloc (.cells #[.int .i64 ((i : Int) + 7), .string nm, .int .i64 (u : Int)] 66)).alloc (.cells #[.slice none 0 0, .int .i64 0] 135)).heap.size = w.heap.size + 1 + 1 := by simp
  go_enter Tryz.func91, Tryz.ntmps91
  go_wp2_with fail
  refine RC.wp_facts (132) (_) (fun _ => True) [fun X W' => RdS W' X keys, fun X _ => X = .pointer (some ⟨w.heap.size, 0, none⟩), fun X _ => X = .int .i64 ((i : Int) + 7), fun X _ => X = .int .i64 (i : Int), fun X _ => X = .int .i64 ((i : Int) + 11), fun X W' => PtrTo W' X (.string KWD), fun X _ => X = .string KWD, fun X W' => ∃ q, X = .slice (some ⟨q, 0, none⟩) 2 2 ∧ Blk W' q #[.string KWD, .string cOp] 9, fun X W' => ∃ q c, X = .slice q 2 c ∧ OwnX (w.heap.size + 1 + 1) W' (.slice q 2 c) [KWD, cOp]] [some 8, none, none, none, none, some 6, none, none, some 59] [false, false, false, false, false, false, false, false, false] (by kernel_rfl) (by kernel_rfl) (by kernel_rfl) (New.refl _) (trivial) (fun _ _ _ h => h) ⟨fun X w0 w1 hn k125 => Rd.new k125 hn, RG.stable_eq _, RG.stable_eq _, RG.stable_eq _, RG.stable_eq _, fun X w0 w1 hn k130 => k130.new hn, RG.stable_eq _, fun X w0 w1 hn ⟨q132, t132, k132⟩ => ⟨q132, t132, k132.new hn⟩, fun X w0 w1 hn ⟨a133, c133, t133, o133⟩ => ⟨a133, c133, t133, o133.new hn⟩, trivial⟩ ⟨RC.stable_eqG _ _ _, RC.stable_eqG _ _ _, RC.stable_eqG _ _ _, RC.stable_eqG _ _ _, RC.stable_eqG _ _ _, fun X w0 w1 hw0 hn ⟨q132, t132, k132⟩ => ⟨q132, t132, hn.blk _ _ _ k132 (by decide)⟩, trivial⟩ ?_ ?_
  · refine ⟨?_, ?_, ?_, ?_, ?_, ?_, ?_, ?_, ?_, trivial⟩
    · intro a w9 hw hj ho hk
      refine .inl ⟨by rfl, ?_⟩
      simp only [Bool.false_eq_true, if_false, if_true, eq_self_iff_true]
      go_simp; refine (sKeywords_any _).mono ?_; rintro e w3 ⟨u, rfl, hb, hu⟩; first | exact ⟨hb, _, rfl, hu⟩ | exact ⟨hb, hu⟩
    · intro a w9 hw hj ho hk
      refine .inl ⟨by rfl, ?_⟩
      simp only [Bool.false_eq_true, if_false, if_true, eq_self_iff_true]
      have t2 := ho 2 rfl
      dsimp at t2
      try with_reducible replace hw := New.undrawN hw
      try with_reducible replace hw := New.undraw hw
      obtain ⟨c, f'⟩ := hw.rules
      go_simp
      exact New.refl _
    · intro a w9 hw hj ho hk
      refine .inl ⟨by rfl, ?_⟩
      simp only [Bool.false_eq_true, if_false, if_true, eq_self_iff_true]
      have t126 : a.tmps[126]?.getD undef = .pointer (some ⟨w.heap.size, 0, none⟩) := hk 1 126 (by kernel_rfl) rfl
      try with_reducible replace hw := New.undrawN hw
      try with_reducible replace hw := New.undraw hw
      obtain ⟨c, f'⟩ := hw.rules
      go_simp
      exact New.refl _
    · intro a w9 hw hj ho hk
      refine .inl ⟨by rfl, ?_⟩
      simp only [Bool.false_eq_true, if_false, if_true, eq_self_iff_true]
      have t127 : a.tmps[127]?.getD undef = .int .i64 ((i : Int) + 7) := hk 2 127 (by kernel_rfl) rfl
      go_simp
      exact New.refl _
    · intro a w9 hw hj ho hk
      refine .inl ⟨by rfl, ?_⟩
      simp only [Bool.false_eq_true, if_false, if_true, eq_self_iff_true]
      have t128 : a.tmps[128]?.getD undef = .int .i64 (i : Int) := hk 3 128 (by kernel_rfl) rfl
      go_simp
      exact New.refl _
    · intro a w9 hw hj ho hk
      refine .inl ⟨by rfl, ?_⟩
      simp only [Bool.false_eq_true, if_false, if_true, eq_self_iff_true]
      obtain k125 : RdS w9 (a.tmps[125]?.getD undef) keys := hk 0 125 (by kernel_rfl) rfl
      have t129 : a.tmps[129]?.getD undef = .int .i64 ((i : Int) + 11) := hk 4 129 (by kernel_rfl) rfl
      obtain ⟨b3, o3, cap3, t125, l3, x3⟩ := HKY.out _ _ k125; go_simp; first | exact ⟨New.refl _, _, rfl, b3, _, rfl, l3, x3⟩ | exact ⟨New.refl _, b3, _, rfl, l3, x3⟩
    · intro a w9 hw hj ho hk
      refine .inl ⟨by rfl, ?_⟩
      simp only [Bool.false_eq_true, if_false, if_true, eq_self_iff_true]
      obtain k130 : PtrTo w9 (a.tmps[130]?.getD undef) (.string KWD) := hk 5 130 (by kernel_rfl) rfl
      obtain ⟨b35, o35, t35, l35, c35⟩ := k130; go_simp; exact New.refl _
    · intro a w9 hw hj ho hk
      refine .inl ⟨by rfl, ?_⟩
      simp only [Bool.false_eq_true, if_false, if_true, eq_self_iff_true]
      have t131 : a.tmps[131]?.getD undef = .string KWD := hk 6 131 (by kernel_rfl) rfl
      go_simp; first | exact ⟨(New.refl _).alloc _, _, rfl, _, rfl, Blk.alloc_at rfl⟩ | exact ⟨(New.refl _).alloc _, _, by simp, Blk.alloc_at rfl⟩
    · intro a w9 hw hj ho hk
      refine .inl ⟨by rfl, ?_⟩
      simp only [Bool.false_eq_true, if_false, if_true, eq_self_iff_true]
      obtain ⟨q132, t132, k132⟩ : ∃ q, (a.tmps[132]?.getD undef) = .slice (some ⟨q, 0, none⟩) 2 2 ∧ Blk w9 q #[.string KWD, .string cOp] 9 := hk 7 132 (by kernel_rfl) rfl
      go_simp
      refine (sTokens_any _ [KWD, cOp] _ (rdS_blk [KWD, cOp] k132) HOK.out (by simp)).mono ?_; rintro e w2 ⟨r, rfl, hb, o⟩
      have hzw := hw.size; obtain ⟨q, c, rfl⟩ := o.slice; exact ⟨hb, _, rfl, _, _, rfl, o.base (by first | (simp only [World.size_alloc] at hzw; omega) | omega)⟩
  intro w3 b3
  intro _ _
  rintro _ rfl
  rintro _ rfl
  rintro _ rfl
  rintro _ rfl
  intro _ _
  rintro _ rfl
  rintro _ ⟨q132, rfl, k132⟩
  intro x133 h133; obtain ⟨a133, c133, rfl, o133⟩ := h133 (by simp)
  try with_reducible replace b3 := New.undrawN b3
  try with_reducible replace b3 := New.undraw b3
  obtain ⟨c3, f3⟩ := b3.rules
  have z3 := b3.size
  try simp only [World.size_alloc, World.size_drew, World.heap_drewN, World.size_setCell] at z3
  have z3_0 : w.heap.size < w3.heap.size := by omega
  have z3_1 : w.heap.size + 1 < w3.heap.size := by omega
  simp only [RC.EndAll, List.nil_append, List.cons_append, List.length_cons, List.length_nil, Nat.zero_add, Nat.reduceAdd, List.take_succ_cons, List.take_zero, List.drop_succ_cons, List.drop_zero, putAll, RG.putAll, Act.put, List.setIfInBounds_toArray, List.set_cons_succ, List.set_cons_zero]
  have N1 : New ((w.alloc (.cells #[.int .i64 ((i : Int) + 7), .string nm, .int .i64 (u : Int)] 66)).alloc (.cells #[.slice none 0 0, .int .i64 0] 135)) w3 := b3
  clear b3 c3 f3 g5 g5b g6 g9 g10 g7 g8 z3
  generalize (w.alloc (.cells #[.int .i64 ((i : Int) + 7), .string nm, .int .i64 (u : Int)] 66)).alloc (.cells #[.slice none 0 0, .int .i64 0] 135) = W2 at *
  replace o133 := o133.base (b' := W2.heap.size) (by omega)
  replace zW2 := Lib.hid zW2
  go_wp2_with fail
  go_loopw [9, 10] (fun o i wr => ∃ j : Nat, j ≤ L.length ∧ i = .int .i64 j ∧ New W2 wr ∧ OwnX W2.heap.size wr o ([KWD, cOp] ++ argT L j)) (fun _ i _ => L.length - (intOf i).toNat)
  case atStart => exact ⟨0, Nat.zero_le _, rfl, N1, by simpa [argT] using o133⟩
  case round =>
    obtain ⟨j, hj, rfl, hN, hown⟩ := hrel
    clear o133 N1
    have hNz := hN.size
    have hNw := NW2.trans hN
    by_cases hlt : j < L.length
    · obtain ⟨cN, fN⟩ := hNw.rules
      obtain ⟨b, off, sa, sc, rfl, hbl, x0, x1, hT⟩ := HA.out j hlt
      have hbr : b < wr.heap.size := by have := hNw.size; omega
      have RT := Lib.hid hT
      have hst := HS.out j hlt
      clear hT
      rcases Nat.eq_zero_or_pos j with h0 | h0
      · subst h0
        simp only [Nat.zero_mul, Nat.add_zero] at x0 x1
        have HQ := Lib.hid (HG.out hlt)
        have hl0 : ([KWD, cOp] ++ argT L 0).length = 2 := rfl
        generalize L[0].kind = KA at *
        generalize L[0].toks = TA at *
        go_wp2_with (first | (at_builtin; refine wpList_append_XK rfl _ _ rfl W2.heap.size _ _ rfl (hown) _ (TA) rfl (RT.out.new hNw) (by first  |  (simp only [List.length_cons, List.length_nil, List.length_append] at *; omega)  |  omega) (by first  |  (simp; done)  |  (simp; omega)  |  omega) ?_; intro va1 wa1 ho1 hg1 hk1; have nA1 : New W2 wa1 := hg1 _ (by exact (by repeat (first | with_reducible exact New.refl _ | with_reducible assumption | with_reducible refine New.drew ?_ | with_reducible refine New.drewN ?_ _ | with_reducible refine New.alloc ?_ _ | with_reducible refine New.setCell ?_ (by first | (simp; done) | (simp; omega) | omega) _ | with_reducible refine New.trans ?_ (by with_reducible assumption)))) (Nat.le_refl _); obtain ⟨cA1, fA1⟩ := (NW2.trans nA1).rules; have zA1 := (NW2.trans nA1).size; have zB1 := nA1.size))
        go_roundw
        case rel => exact ⟨0 + 1, by omega, by go_num, nA1, by rw [HQ.out]; simpa [argT] using ho1⟩
        case measure => simp [intOf]; omega
      · obtain rfl : j = 1 := by omega
        have hst0 := HS.out 0 (by omega)
        have HQ1 := Lib.hid (HG.out (by omega))
        have HQ := Lib.hid (HG2.out hlt)
        simp only [Nat.one_mul] at x0 x1
        rw [HQ1.out] at hown
        generalize L[1].kind = KA at *
        generalize L[1].toks = TA at *
        generalize L[0].toks = TZ at *
        have gA : (0 : Int) < ((1 : Nat) : Int) := by omega
        go_wp2_with fail
        refine (sTokens_any _ [cCo] _ (rdS_layB [cCo] _) ok_Co (by simp)).mono ?_; rintro e w4 ⟨r4, rfl, b4, o4⟩
        obtain ⟨a4, k4, rfl⟩ := o4.slice
        obtain ⟨c4, f4⟩ := b4.rules
        have z4 := b4.size
        try simp only [World.size_alloc, World.size_drew, World.heap_drewN, World.size_setCell] at z4
        have z4_0 : b < w4.heap.size := by omega
        go_wp2_with (first | (at_builtin; refine wpList_append_XK rfl _ _ rfl W2.heap.size _ _ rfl (hown.new (((New.refl _).alloc _).trans b4)) _ ([cCo]) rfl (o4.rd) (by first  |  (simp only [List.length_cons, List.length_nil, List.length_append] at *; omega)  |  omega) (by first  |  (simp; done)  |  (simp; omega)  |  omega) ?_; intro va1 wa1 ho1 hg1 hk1; have nA1 : New W2 wa1 := hg1 _ (by exact (by repeat (first | with_reducible exact New.refl _ | with_reducible assumption | with_reducible refine New.drew ?_ | with_reducible refine New.drewN ?_ _ | with_reducible refine New.alloc ?_ _ | with_reducible refine New.setCell ?_ (by first | (simp; done) | (simp; omega) | omega) _ | with_reducible refine New.trans ?_ (by with_reducible assumption)))) (Nat.le_refl _); obtain ⟨cA1, fA1⟩ := (NW2.trans nA1).rules; have zA1 := (NW2.trans nA1).size; have zB1 := nA1.size) | (at_builtin; refine wpList_append_XK rfl _ _ rfl W2.heap.size _ _ rfl (ho1) _ (TA) rfl (RT.out.new (NW2.trans nA1)) (by first  |  (simp only [List.length_cons, List.length_nil, List.length_append] at *; omega)  |  omega) (by first  |  (simp; done)  |  (simp; omega)  |  omega) ?_; intro va2 wa2 ho2 hg2 hk2; have nA2 : New W2 wa2 := hg2 _ (by exact (by repeat (first | with_reducible exact New.refl _ | with_reducible assumption | with_reducible refine New.drew ?_ | with_reducible refine New.drewN ?_ _ | with_reducible refine New.alloc ?_ _ | with_reducible refine New.setCell ?_ (by first | (simp; done) | (simp; omega) | omega) _ | with_reducible refine New.trans ?_ (by with_reducible assumption)))) (Nat.le_refl _); skip))
        go_roundw
        case rel => exact ⟨1 + 1, by omega, by go_num, nA2, by rw [HQ.out]; simpa using ho2⟩
        case measure => simp [intOf]; omega
    · obtain rfl : j = L.length := by omega
      have KB := KB2.new hN
      have lB := KB.lt
      have lR := (KR2.new hN).lt
      obtain ⟨cB, fB⟩ := KB.rules
      obtain ⟨aw, nw, kw9, rfl⟩ := hown.sliceN
      generalize argT L L.length = TA at *
      rcases hnum with ⟨rfl, rfl⟩ | ⟨rfl, rfl⟩
      · go_wp2_with (first | (go_at_call 131; refine (HN.out _).mono ?_; rintro e _ ⟨rfl, rfl⟩))
        refine (HD.out _).mono ?_; rintro e w5 ⟨rfl, b5⟩
        try with_reducible replace b5 := New.undrawN b5
        try with_reducible replace b5 := New.undraw b5
        obtain ⟨c5, f5⟩ := b5.rules
        have z5 := b5.size
        try simp only [World.size_alloc, World.size_drew, World.heap_drewN, World.size_setCell] at z5
        have z5_0 : w.heap.size < w5.heap.size := by omega
        have z5_1 : w.heap.size + 1 < w5.heap.size := by omega
        go_wp2_with fail
        refine (sTokens_any _ [cCo, DN] _ (rdS_layB [cCo, DN] _) HOD.out (by simp)).mono ?_; rintro e w6 ⟨r6, rfl, b6, o6⟩
        obtain ⟨a6, k6, rfl⟩ := o6.slice
        obtain ⟨c6, f6⟩ := b6.rules
        have z6 := b6.size
        try simp only [World.size_alloc, World.size_drew, World.heap_drewN, World.size_setCell] at z6
        have z6_0 : w.heap.size < w6.heap.size := by omega
        have z6_1 : w.heap.size + 1 < w6.heap.size := by omega
        go_wp2_with (first | (at_builtin; refine wpList_append_XK rfl _ _ rfl W2.heap.size _ _ rfl (hown.new ((b5.trans ((New.refl _).alloc _)).trans b6)) _ ([cCo, DN]) rfl (o6.rd) (by first  |  (simp only [List.length_cons, List.length_nil, List.length_append] at *; omega)  |  omega) (by first  |  (simp; done)  |  (simp; omega)  |  omega) ?_; intro va1 wa1 ho1 hg1 hk1; have nA1 : New W2 wa1 := hg1 _ (by exact (by repeat (first | with_reducible exact New.refl _ | with_reducible assumption | with_reducible refine New.drew ?_ | with_reducible refine New.drewN ?_ _ | with_reducible refine New.alloc ?_ _ | with_reducible refine New.setCell ?_ (by first | (simp; done) | (simp; omega) | omega) _ | with_reducible refine New.trans ?_ (by with_reducible assumption)))) (Nat.le_refl _); obtain ⟨cA1, fA1⟩ := (NW2.trans nA1).rules; have zA1 := (NW2.trans nA1).size; have zB1 := nA1.size; obtain ⟨aa1, na1, ka1, rfl⟩ := ho1.sliceN))
        clear cA1 fA1 c5 f5 c6 f6 cB fB
        have hlX : (([KWD, cOp] ++ TA ++ [cCo, DN])).length ≤ 10010 := by simp only [List.length_append, List.length_cons, List.length_nil]; omega
        generalize (([KWD, cOp] ++ TA ++ [cCo, DN])) = LX at ho1 hTT hlX
        have lB2 := KB2.lt
        have lR2 := KR2.lt
        have lBC := (KB2.new nA1).lt
        obtain ⟨cB2, fB2⟩ := KB2.rules
        refine RC.wp_facts (132) (W2) (fun w' => OwnX W2.heap.size w' (.slice aa1 na1 ka1) LX) [fun X W' => ∃ q n c, X = .slice q n c ∧ OwnX (W2.heap.size) W' (.slice q n c) LX, fun X W' => ∃ q, X = .slice (some ⟨q, 0, none⟩) 1 1 ∧ Blk W' q #[.string cCl] 9, fun X W' => ∃ q c, X = .slice q 1 c ∧ OwnX (W2.heap.size) W' (.slice q 1 c) [cCl], fun X W' => ∃ q c, X = .slice q (TT).length c ∧ OwnX (W2.heap.size) W' (.slice q (TT).length c) (TT), fun X _ => X = .pointer (some ⟨w.heap.size, 0, none⟩), fun X _ => X = .int .i64 ((i : Int) + 7), fun X W' => ∃ q c, X = .agg #[.slice q TT.length c, .int .i64 ((i : Int) + 7)] ∧ OwnX (W2.heap.size) W' (.slice q TT.length c) TT] [some 3, none, some 3, some 6, none, none, some 57] [false, false, false, true, false, false, false] (by kernel_rfl) (by kernel_rfl) (by kernel_rfl) (nA1) (ho1) (fun _ _ n h => h.new n) ⟨fun X w0 w1 hn ⟨a163, n163, c163, t163, o163⟩ => ⟨a163, n163, c163, t163, o163.new hn⟩, fun X w0 w1 hn ⟨q164, t164, k164⟩ => ⟨q164, t164, k164.new hn⟩, fun X w0 w1 hn ⟨a165, c165, t165, o165⟩ => ⟨a165, c165, t165, o165.new hn⟩, fun X w0 w1 hn ⟨a166, c166, t166, o166⟩ => ⟨a166, c166, t166, o166.new hn⟩, RG.stable_eq _, RG.stable_eq _, fun X w0 w1 hn ⟨a169, c169, t169, o169⟩ => ⟨a169, c169, t169, o169.new hn⟩, trivial⟩ ⟨fun X w0 w1 hw0 hn ⟨q164, t164, k164⟩ => ⟨q164, t164, hn.blk _ _ _ k164 (by decide)⟩, RC.stable_eqG _ _ _, RC.stable_eqG _ _ _, trivial⟩ ?_ ?_
        · refine ⟨?_, ?_, ?_, ?_, ?_, ?_, ?_, trivial⟩
          · intro a w9 hw hj ho hk
            refine .inl ⟨by rfl, ?_⟩
            simp only [Bool.false_eq_true, if_false, if_true, eq_self_iff_true]
            have t2 := ho 9 rfl; dsimp at t2; have oJ := hj (by kernel_rfl); dsimp only at oJ; go_simp; first | exact ⟨New.refl _, _, rfl, _, _, _, rfl, oJ⟩ | exact ⟨New.refl _, _, _, _, by simp, oJ⟩
          · intro a w9 hw hj ho hk
            refine .inl ⟨by rfl, ?_⟩
            simp only [Bool.false_eq_true, if_false, if_true, eq_self_iff_true]
            go_simp; first | exact ⟨(New.refl _).alloc _, _, rfl, _, rfl, Blk.alloc_at rfl⟩ | exact ⟨(New.refl _).alloc _, _, by simp, Blk.alloc_at rfl⟩
          · intro a w9 hw hj ho hk
            refine .inl ⟨by rfl, ?_⟩
            simp only [Bool.false_eq_true, if_false, if_true, eq_self_iff_true]
            obtain ⟨q164, t164, k164⟩ : ∃ q, (a.tmps[164]?.getD undef) = .slice (some ⟨q, 0, none⟩) 1 1 ∧ Blk w9 q #[.string cCl] 9 := hk 1 164 (by kernel_rfl) rfl
            go_simp
            refine (sTokens_any _ [cCl] _ (rdS_blk [cCl] k164) ok_Cl (by simp)).mono ?_; rintro e w2 ⟨r, rfl, hb, o⟩
            have hzw := hw.size; obtain ⟨q, c, rfl⟩ := o.slice; exact ⟨hb, _, rfl, _, _, rfl, o.base (by first | (simp only [World.size_alloc] at hzw; omega) | omega)⟩
          · intro a w9 hw hj ho hk
            refine .inl ⟨by rfl, ?_⟩
            simp only [Bool.false_eq_true, if_false, if_true, eq_self_iff_true]
            obtain ⟨a163, n163, c163, t163, o163⟩ : ∃ q n c, (a.tmps[163]?.getD undef) = .slice q n c ∧ OwnX (W2.heap.size) w9 (.slice q n c) LX := hk 0 163 (by kernel_rfl) rfl
            obtain ⟨a165, c165, t165, o165⟩ : ∃ q c, (a.tmps[165]?.getD undef) = .slice q 1 c ∧ OwnX (W2.heap.size) w9 (.slice q 1 c) [cCl] := hk 2 165 (by kernel_rfl) rfl
            have hzw := hw.size; exact wp_append_XG _ _ rfl (W2.heap.size) _ (LX) (by first | (simp [Act.eval, Act.get]; exact t163) | simp [Act.eval, t163]) (o163) _ ([cCl]) (by first | (simp [Act.eval, Act.get]; exact t165) | simp [Act.eval, t165]) (o165.rd) (by first | (simp only [List.length_cons, List.length_nil, List.length_append] at *; omega) | omega) (by first | (simp only [World.size_alloc] at hzw; omega) | omega) (fun v2 w2 h2 g2 => by rw [hTT.out] at h2; obtain ⟨q, c, h9⟩ := h2.slice; subst h9; exact ⟨g2 _ (by first | (simp only [World.size_alloc]; omega) | omega), _, rfl, _, _, rfl, h2⟩)
          · intro a w9 hw hj ho hk
            refine .inl ⟨by rfl, ?_⟩
            simp only [Bool.false_eq_true, if_false, if_true, eq_self_iff_true]
            have t2 := ho 2 rfl
            dsimp at t2
            try with_reducible replace hw := New.undrawN hw
            try with_reducible replace hw := New.undraw hw
            obtain ⟨c, f'⟩ := hw.rules
            go_simp
            exact New.refl _
          · intro a w9 hw hj ho hk
            refine .inl ⟨by rfl, ?_⟩
            simp only [Bool.false_eq_true, if_false, if_true, eq_self_iff_true]
            have t167 : a.tmps[167]?.getD undef = .pointer (some ⟨w.heap.size, 0, none⟩) := hk 4 167 (by kernel_rfl) rfl
            try with_reducible replace hw := New.undrawN hw
            try with_reducible replace hw := New.undraw hw
            obtain ⟨c, f'⟩ := hw.rules
            go_simp
            exact New.refl _
          · intro a w9 hw hj ho hk
            refine .inl ⟨by rfl, ?_⟩
            simp only [Bool.false_eq_true, if_false, if_true, eq_self_iff_true]
            obtain ⟨a166, c166, t166, o166⟩ : ∃ q c, (a.tmps[166]?.getD undef) = .slice q (TT).length c ∧ OwnX (W2.heap.size) w9 (.slice q (TT).length c) (TT) := hk 3 166 (by kernel_rfl) rfl
            have t168 : a.tmps[168]?.getD undef = .int .i64 ((i : Int) + 7) := hk 5 168 (by kernel_rfl) rfl
            go_simp
            first | exact ⟨New.refl _, _, rfl, _, _, rfl, o166⟩ | exact ⟨New.refl _, _, _, by simp, o166⟩
        intro w7 b7
        intro _ _
        rintro _ ⟨q164, rfl, k164⟩
        intro _ _
        intro _ _
        rintro _ rfl
        rintro _ rfl
        intro x169 h169; obtain ⟨a169, c169, rfl, o169⟩ := h169 (by simp)
        try with_reducible replace b7 := New.undrawN b7
        try with_reducible replace b7 := New.undraw b7
        obtain ⟨c7, f7⟩ := b7.rules
        have z7 := b7.size
        try simp only [World.size_alloc, World.size_drew, World.heap_drewN, World.size_setCell] at z7
        have z7_0 : w.heap.size < w7.heap.size := by omega
        have z7_1 : w.heap.size + 1 < w7.heap.size := by omega
        simp only [RC.EndAll, List.nil_append, List.cons_append, List.length_cons, List.length_nil, Nat.zero_add, Nat.reduceAdd, List.take_succ_cons, List.take_zero, List.drop_succ_cons, List.drop_zero, putAll, RG.putAll, Act.put, List.setIfInBounds_toArray, List.set_cons_succ, List.set_cons_zero]
        have KB7 := KR2.new b7
        obtain ⟨cF, fF⟩ := KB7.rules
        clear c7 f7
        go_wp2_with fail
        exact ret_wr rfl (NW2.trans b7) (by omega) KB7 (o169.base (by have := zW2.out; omega)) (by simp [results, Tryz.results91, go_sem, cF, fF, z7_1])
      · replace hTT := Lib.hid (show [KWD, cOp] ++ TA ++ [cCl] = TT by have := hTT.out; simpa using this)
        go_wp2_with (first | (go_at_call 131; refine (HN.out _).mono ?_; rintro e _ ⟨rfl, rfl⟩))
        clear cB fB
        have hlX : (([KWD, cOp] ++ TA)).length ≤ 10010 := by simp only [List.length_append, List.length_cons, List.length_nil]; omega
        generalize (([KWD, cOp] ++ TA)) = LX at hown hTT hlX
        have lB2 := KB2.lt
        have lR2 := KR2.lt
        have lBC := (KB2.new hN).lt
        obtain ⟨cB2, fB2⟩ := KB2.rules
        refine RC.wp_facts (132) (W2) (fun w' => OwnX W2.heap.size w' (.slice aw nw kw9) LX) [fun X W' => ∃ q n c, X = .slice q n c ∧ OwnX (W2.heap.size) W' (.slice q n c) LX, fun X W' => ∃ q, X = .slice (some ⟨q, 0, none⟩) 1 1 ∧ Blk W' q #[.string cCl] 9, fun X W' => ∃ q c, X = .slice q 1 c ∧ OwnX (W2.heap.size) W' (.slice q 1 c) [cCl], fun X W' => ∃ q c, X = .slice q (TT).length c ∧ OwnX (W2.heap.size) W' (.slice q (TT).length c) (TT), fun X _ => X = .pointer (some ⟨w.heap.size, 0, none⟩), fun X _ => X = .int .i64 ((i : Int) + 7), fun X W' => ∃ q c, X = .agg #[.slice q TT.length c, .int .i64 ((i : Int) + 7)] ∧ OwnX (W2.heap.size) W' (.slice q TT.length c) TT] [some 3, none, some 3, some 6, none, none, some 57] [false, false, false, true, false, false, false] (by kernel_rfl) (by kernel_rfl) (by kernel_rfl) (hN) (hown) (fun _ _ n h => h.new n) ⟨fun X w0 w1 hn ⟨a163, n163, c163, t163, o163⟩ => ⟨a163, n163, c163, t163, o163.new hn⟩, fun X w0 w1 hn ⟨q164, t164, k164⟩ => ⟨q164, t164, k164.new hn⟩, fun X w0 w1 hn ⟨a165, c165, t165, o165⟩ => ⟨a165, c165, t165, o165.new hn⟩, fun X w0 w1 hn ⟨a166, c166, t166, o166⟩ => ⟨a166, c166, t166, o166.new hn⟩, RG.stable_eq _, RG.stable_eq _, fun X w0 w1 hn ⟨a169, c169, t169, o169⟩ => ⟨a169, c169, t169, o169.new hn⟩, trivial⟩ ⟨fun X w0 w1 hw0 hn ⟨q164, t164, k164⟩ => ⟨q164, t164, hn.blk _ _ _ k164 (by decide)⟩, RC.stable_eqG _ _ _, RC.stable_eqG _ _ _, trivial⟩ ?_ ?_
        · refine ⟨?_, ?_, ?_, ?_, ?_, ?_, ?_, trivial⟩
          · intro a w9 hw hj ho hk
            refine .inl ⟨by rfl, ?_⟩
            simp only [Bool.false_eq_true, if_false, if_true, eq_self_iff_true]
            have t2 := ho 9 rfl; dsimp at t2; have oJ := hj (by kernel_rfl); dsimp only at oJ; go_simp; first | exact ⟨New.refl _, _, rfl, _, _, _, rfl, oJ⟩ | exact ⟨New.refl _, _, _, _, by simp, oJ⟩
          · intro a w9 hw hj ho hk
            refine .inl ⟨by rfl, ?_⟩
            simp only [Bool.false_eq_true, if_false, if_true, eq_self_iff_true]
            go_simp; first | exact ⟨(New.refl _).alloc _, _, rfl, _, rfl, Blk.alloc_at rfl⟩ | exact ⟨(New.refl _).alloc _, _, by simp, Blk.alloc_at rfl⟩
          · intro a w9 hw hj ho hk
            refine .inl ⟨by rfl, ?_⟩
            simp only [Bool.false_eq_true, if_false, if_true, eq_self_iff_true]
            obtain ⟨q164, t164, k164⟩ : ∃ q, (a.tmps[164]?.getD undef) = .slice (some ⟨q, 0, none⟩) 1 1 ∧ Blk w9 q #[.string cCl] 9 := hk 1 164 (by kernel_rfl) rfl
            go_simp
            refine (sTokens_any _ [cCl] _ (rdS_blk [cCl] k164) ok_Cl (by simp)).mono ?_; rintro e w2 ⟨r, rfl, hb, o⟩
            have hzw := hw.size; obtain ⟨q, c, rfl⟩ := o.slice; exact ⟨hb, _, rfl, _, _, rfl, o.base (by first | (simp only [World.size_alloc] at hzw; omega) | omega)⟩
          · intro a w9 hw hj ho hk
            refine .inl ⟨by rfl, ?_⟩
            simp only [Bool.false_eq_true, if_false, if_true, eq_self_iff_true]
            obtain ⟨a163, n163, c163, t163, o163⟩ : ∃ q n c, (a.tmps[163]?.getD undef) = .slice q n c ∧ OwnX (W2.heap.size) w9 (.slice q n c) LX := hk 0 163 (by kernel_rfl) rfl
            obtain ⟨a165, c165, t165, o165⟩ : ∃ q c, (a.tmps[165]?.getD undef) = .slice q 1 c ∧ OwnX (W2.heap.size) w9 (.slice q 1 c) [cCl] := hk 2 165 (by kernel_rfl) rfl
            have hzw := hw.size; exact wp_append_XG _ _ rfl (W2.heap.size) _ (LX) (by first | (simp [Act.eval, Act.get]; exact t163) | simp [Act.eval, t163]) (o163) _ ([cCl]) (by first | (simp [Act.eval, Act.get]; exact t165) | simp [Act.eval, t165]) (o165.rd) (by first | (simp only [List.length_cons, List.length_nil, List.length_append] at *; omega) | omega) (by first | (simp only [World.size_alloc] at hzw; omega) | omega) (fun v2 w2 h2 g2 => by rw [hTT.out] at h2; obtain ⟨q, c, h9⟩ := h2.slice; subst h9; exact ⟨g2 _ (by first | (simp only [World.size_alloc]; omega) | omega), _, rfl, _, _, rfl, h2⟩)
          · intro a w9 hw hj ho hk
            refine .inl ⟨by rfl, ?_⟩
            simp only [Bool.false_eq_true, if_false, if_true, eq_self_iff_true]
            have t2 := ho 2 rfl
            dsimp at t2
            try with_reducible replace hw := New.undrawN hw
            try with_reducible replace hw := New.undraw hw
            obtain ⟨c, f'⟩ := hw.rules
            go_simp
            exact New.refl _
          · intro a w9 hw hj ho hk
            refine .inl ⟨by rfl, ?_⟩
            simp only [Bool.false_eq_true, if_false, if_true, eq_self_iff_true]
            have t167 : a.tmps[167]?.getD undef = .pointer (some ⟨w.heap.size, 0, none⟩) := hk 4 167 (by kernel_rfl) rfl
            try with_reducible replace hw := New.undrawN hw
            try with_reducible replace hw := New.undraw hw
            obtain ⟨c, f'⟩ := hw.rules
            go_simp
            exact New.refl _
          · intro a w9 hw hj ho hk
            refine .inl ⟨by rfl, ?_⟩
            simp only [Bool.false_eq_true, if_false, if_true, eq_self_iff_true]
            obtain ⟨a166, c166, t166, o166⟩ : ∃ q c, (a.tmps[166]?.getD undef) = .slice q (TT).length c ∧ OwnX (W2.heap.size) w9 (.slice q (TT).length c) (TT) := hk 3 166 (by kernel_rfl) rfl
            have t168 : a.tmps[168]?.getD undef = .int .i64 ((i : Int) + 7) := hk 5 168 (by kernel_rfl) rfl
            go_simp
            first | exact ⟨New.refl _, _, rfl, _, _, rfl, o166⟩ | exact ⟨New.refl _, _, _, by simp, o166⟩
        intro w7 b7
        intro _ _
        rintro _ ⟨q164, rfl, k164⟩
        intro _ _
        intro _ _
        rintro _ rfl
        rintro _ rfl
        intro x169 h169; obtain ⟨a169, c169, rfl, o169⟩ := h169 (by simp)
        try with_reducible replace b7 := New.undrawN b7
        try with_reducible replace b7 := New.undraw b7
        obtain ⟨c7, f7⟩ := b7.rules
        have z7 := b7.size
        try simp only [World.size_alloc, World.size_drew, World.heap_drewN, World.size_setCell] at z7
        have z7_0 : w.heap.size < w7.heap.size := by omega
        have z7_1 : w.heap.size + 1 < w7.heap.size := by omega
        simp only [RC.EndAll, List.nil_append, List.cons_append, List.length_cons, List.length_nil, Nat.zero_add, Nat.reduceAdd, List.take_succ_cons, List.take_zero, List.drop_succ_cons, List.drop_zero, putAll, RG.putAll, Act.put, List.setIfInBounds_toArray, List.set_cons_succ, List.set_cons_zero]
        have KB7 := KR2.new b7
        obtain ⟨cF, fF⟩ := KB7.rules
        clear c7 f7
        go_wp2_with fail
        exact ret_wr rfl (NW2.trans b7) (by omega) KB7 (o169.base (by have := zW2.out; omega)) (by simp [results, Tryz.results91, go_sem, cF, fF, z7_1])
end Go.Proofs.YteielmihlfakgaaGreatDoor
