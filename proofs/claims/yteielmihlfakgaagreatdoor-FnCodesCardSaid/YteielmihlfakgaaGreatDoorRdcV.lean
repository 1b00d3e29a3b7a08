/- Contracts: the reference's reading of a code, whole. -/
import Derived.Test.YteielmihlfakgaaGreatDoorProg
import Derived.Test.YteielmihlfakgaaGreatDoorRdcS
namespace Go.Proofs.YteielmihlfakgaaGreatDoor
open Go Go.Proofs Go.RowKit
set_option linter.unusedVariables false
set_option linter.unusedSimpArgs false
set_option maxRecDepth 100000
set_option maxHeartbeats 4000000 in
theorem sReadCode_any (s : ByteArray) (w : World) (hs : s.size ≤ 1048576) : Calls Tryz.prog 10 #[.string s] w (RetRC w (rdcS s.data.toList)) := by
  have hlen : s.data.toList.length = s.size := by rw [Array.length_toList]; rfl
  have hR0 : rdcS s.data.toList = headS s.data.toList (spl 10 s.data.toList) (numsF sgn (spl 44 ((spl 10 s.data.toList).headD [])) []) := rfl
  have HSP1 := fun (w0 : World) => sSplit_any s 10 w0 hs
  have hL0 : 0 < (spl 10 s.data.toList).length := by rw [spl_cons 10]; simp
  have hwl := spl_len 10 s.data.toList
  have hml0 := spl_mem_len 10 s.data.toList
  have hml : ∀ y ∈ spl 10 s.data.toList, y.length ≤ 1048576 := fun y hy => by have := hml0 y hy; omega
  rw [hR0]
  clear hR0 hml0
  generalize spl 10 s.data.toList = L at *
  have hL1 : L.length ≤ 1048577 := by omega
  clear hwl
  have hhd : L.headD [] = L[0] := by cases L with | nil => simp at hL0 | cons a r => rfl
  rw [hhd]
  clear hhd
  have hy0 := hml L[0] (List.getElem_mem hL0)
  have HML := Lib.hid (fun y (h : y ∈ L.tail.dropLast) => hml y (List.mem_of_mem_tail (List.dropLast_subset _ h)))
  clear hml
  have HSP2 := Lib.hid (fun (w0 : World) => (by
    have h1 := sSplit_any (strL L[0]) 44 w0 (by rw [strL_size]; omega)
    rw [strL_list] at h1; exact h1 : Calls Tryz.prog 34 #[.string (strL L[0]), .int .u8 ((44 : UInt8).toNat : Int)] w0 fun e w' => ∃ r, e = .returned r ∧ New w0 w' ∧ w'.ownsRow w0.heap.size 9 1 r (spl 44 L[0]).length ((spl 44 L[0]).map (fun y => Value.string (strL y)))))
  replace HSP1 := Lib.hid HSP1
  have HN := fun (v : Value) (w0 : World) (h : RdS w0 v ((spl 44 L[0]).map strL)) => sNumbers_any v (spl 44 L[0]) w0 h (by have := spl_len 44 L[0]; omega) (fun y hy => by have := spl_mem_len 44 L[0] y hy; omega)
  clear hlen
  generalize hNN : numsF sgn (spl 44 L[0]) [] = N at *
  clear hNN
  obtain ⟨n, hn⟩ : ∃ n, L.length = n := ⟨_, rfl⟩
  have hn1 : n ≤ 1048577 := by omega
  have hn0 : 0 < n := by omega
  have HLN := Lib.hid hn
  cases N with
  | none =>
    clear hn
    rw [headS]
    replace HN := Lib.hid HN
    unfold okN at HN
    go_enter Tryz.func10, Tryz.ntmps10
    go_wp2_with fail
    refine (HSP1.out _).mono ?_; rintro e w2 ⟨r1, rfl, b2, o2⟩
    obtain ⟨g, cap, rfl, hcap, hg, hx0, HX⟩ := lines_open HLN.out hL0 o2; clear o2
    obtain ⟨c2, f2⟩ := b2.rules
    have z2 := b2.size
    try simp only [World.size_alloc, World.size_drew, World.heap_drewN, World.size_setCell] at z2
    have z2_0 : w.heap.size < w2.heap.size := by omega
    go_wp2_with fail
    refine (HSP2.out _).mono ?_; rintro e w3 ⟨r3, rfl, b3, o3⟩
    have HR3 := Lib.hid (own_rdS o3); clear o3
    obtain ⟨c3, f3⟩ := b3.rules
    have z3 := b3.size
    try simp only [World.size_alloc, World.size_drew, World.heap_drewN, World.size_setCell] at z3
    have z3_0 : w.heap.size < w3.heap.size := by omega
    go_wp2_with fail
    refine (HN.out _ _ HR3.out).mono ?_; rintro e w4 ⟨r4, rfl, b4, o4⟩
    obtain ⟨a4, k4, rfl⟩ := own_slice o4
    obtain ⟨c4, f4⟩ := b4.rules
    have z4 := b4.size
    try simp only [World.size_alloc, World.size_drew, World.heap_drewN, World.size_setCell] at z4
    have z4_0 : w.heap.size < w4.heap.size := by omega
    go_wp2_with fail
    exact retRC_none rfl (by repeat (first | with_reducible exact New.refl _ | with_reducible assumption | with_reducible refine New.drew ?_ | with_reducible refine New.drewN ?_ _ | with_reducible refine New.alloc ?_ _ | with_reducible refine New.setCell ?_ (by first | (simp; done) | (simp; omega) | omega) _ | with_reducible refine New.trans ?_ (by with_reducible assumption))) (by simp [results, Tryz.results10, go_sem, c4, f4, c3, f3, c2, f2, z2_0, z3_0, z4_0])
  | some hd =>
    unfold okN at HN
    dsimp only at HN
    replace HN := Lib.hid HN
    by_cases h3 : hd.length = 3
    · by_cases hL3 : 3 ≤ L.length
      · obtain ⟨q, hq⟩ : ∃ q, L.length = q + 3 := ⟨L.length - 3, by omega⟩
        rw [headS, if_pos ⟨h3, hL3⟩, tail_lnR]
        have HLS := fun (v : Value) (w0 : World) (h : RdS w0 v ((L.tail.dropLast).map strL)) => sReadLines_any v L.tail.dropLast w0 h (by rw [midl_len]; omega) HML.out
        have hfit := lnR_fit L.tail.dropLast
        obtain ⟨h0, h1, h2, rfl⟩ : ∃ x y z, hd = [x, y, z] := by
          match hd, h3 with
          | [x, y, z], _ => exact ⟨x, y, z, rfl⟩
        obtain rfl : n = q + 3 := by omega
        clear hn
        generalize lnR (rdLS L.tail.dropLast (false, [], [])) = R at *
        obtain ⟨two, B, S⟩ := R
        unfold RetLs at HLS
        dsimp only [List.getD_cons_zero, List.getD_cons_succ] at HLS hfit ⊢
        replace HLS := Lib.hid HLS
        replace hfit := Lib.hid hfit
        obtain ⟨RES, hRES⟩ : ∃ R, finS s.data.toList ⟨h0, h1, h2, B, S⟩ two = R := ⟨_, rfl⟩
        rw [show finS s.data.toList ⟨[h0, h1, h2].getD 0 0, [h0, h1, h2].getD 1 0, [h0, h1, h2].getD 2 0, B, S⟩ two = RES from hRES]
        replace hRES := Lib.hid hRES
        have hq1 : q ≤ 1048577 := by omega
        replace hq := Lib.hid hq
        clear hL3 h3 hL1
        simp only [List.length_cons, List.length_nil, List.map_cons, List.map_nil, Nat.zero_add] at HN
        have g1 := i64_in' ((q : Int) + 3 - 1) (by omega) (by omega)
        have g2 : ((q : Int) + 3 - 1).toNat = q + 2 := by omega
        go_enter Tryz.func10, Tryz.ntmps10
        go_wp2_with fail
        refine (HSP1.out _).mono ?_; rintro e w2 ⟨r1, rfl, b2, o2⟩
        obtain ⟨g, cap, rfl, hcap, hg, hx0, HX⟩ := lines_open HLN.out hL0 o2; clear o2
        obtain ⟨c2, f2⟩ := b2.rules
        have z2 := b2.size
        try simp only [World.size_alloc, World.size_drew, World.heap_drewN, World.size_setCell] at z2
        have z2_0 : w.heap.size < w2.heap.size := by omega
        go_wp2_with fail
        refine (HSP2.out _).mono ?_; rintro e w3 ⟨r3, rfl, b3, o3⟩
        have HR3 := Lib.hid (own_rdS o3); clear o3
        obtain ⟨c3, f3⟩ := b3.rules
        have z3 := b3.size
        try simp only [World.size_alloc, World.size_drew, World.heap_drewN, World.size_setCell] at z3
        have z3_0 : w.heap.size < w3.heap.size := by omega
        go_wp2_with fail
        refine (HN.out _ _ HR3.out).mono ?_; rintro e w4 ⟨r4, rfl, b4, o4⟩
        obtain ⟨a4, k4, rfl⟩ := own_slice o4
        obtain ⟨c4, f4⟩ := b4.rules
        have z4 := b4.size
        try simp only [World.size_alloc, World.size_drew, World.heap_drewN, World.size_setCell] at z4
        have z4_0 : w.heap.size < w4.heap.size := by omega
        go_wp2_with fail
        obtain ⟨gh, kh, hev, hgh, k0, k1, k2⟩ := ints_open o4
        cases hev
        clear o4
        refine (HLS.out _ _ (mid_rdS hq.out (by omega) (by omega) (fun k hk => HX.out _ (b3.trans b4) k hk) hq1)).mono ?_
        rintro e w5 ⟨bv, sv, rfl, b5, oB, oS⟩
        obtain ⟨ba, bc, rfl⟩ := own_slice oB
        obtain ⟨sa, sc, rfl⟩ := own_slice oS
        replace k0 := (b5.cell hgh).trans k0
        replace k1 := (b5.cell hgh).trans k1
        replace k2 := (b5.cell hgh).trans k2
        have hgh5 := Nat.lt_of_lt_of_le hgh b5.size
        have N5 : New w w5 := by exact (by repeat (first | with_reducible exact New.refl _ | with_reducible assumption | with_reducible refine New.drew ?_ | with_reducible refine New.drewN ?_ _ | with_reducible refine New.alloc ?_ _ | with_reducible refine New.setCell ?_ (by first | (simp; done) | (simp; omega) | omega) _ | with_reducible refine New.trans ?_ (by with_reducible assumption)))
        have KR5 : Blk w5 w.heap.size #[.int .i64 0, .int .i64 0, .int .i64 0, .slice none 0 0, .slice none 0 0] 27 := ((((Blk.alloc_at rfl).new b2).new b3).new b4).new b5
        have z5 := b5.size
        have hw5 : w.heap.size < w5.heap.size := by omega
        clear c2 f2 c3 f3 c4 f4 hx0 HX hg g1 g2
        replace oB := Lib.hid oB
        replace oS := Lib.hid oS
        go_wp2_with fail
        refine RG.wp_facts [fun X _ => X = .slice (some ⟨gh, 0, none⟩) 3 k4, fun X _ => X = .pointer (some ⟨gh, 0, none⟩), fun X _ => X = .int .i64 h0, fun X _ => X = .slice (some ⟨gh, 0, none⟩) 3 k4, fun X _ => X = .pointer (some ⟨gh, 1, none⟩), fun X _ => X = .int .i64 h1, fun X _ => X = .slice (some ⟨gh, 0, none⟩) 3 k4, fun X _ => X = .pointer (some ⟨gh, 2, none⟩), fun X _ => X = .int .i64 h2, fun X _ => X = .slice ba B.length bc, fun X _ => X = .slice sa S.length sc, fun X _ => X = .agg #[.int .i64 h0, .int .i64 h1, .int .i64 h2, .slice ba B.length bc, .slice sa S.length sc], fun X W' => ∃ q, X = .pointer (some ⟨q, 0, none⟩) ∧ w5.heap.size ≤ q ∧ Blk W' q #[.int .i64 0, .int .i64 0, .int .i64 0, .slice none 0 0, .slice none 0 0] 27] (by kernel_rfl) (by kernel_rfl) ⟨RG.stable_eq _, RG.stable_eq _, RG.stable_eq _, RG.stable_eq _, RG.stable_eq _, RG.stable_eq _, RG.stable_eq _, RG.stable_eq _, RG.stable_eq _, RG.stable_eq _, RG.stable_eq _, RG.stable_eq _, fun X w0 w1 hn ⟨q4, t4, l4, o4⟩ => ⟨q4, t4, l4, o4.new hn⟩, trivial⟩ ?_ ?_
        · refine ⟨?_, ?_, ?_, ?_, ?_, ?_, ?_, ?_, ?_, ?_, ?_, ?_, ?_, trivial⟩
          · intro a w9 hw ho hk
            refine .inl ⟨by rfl, ?_⟩
            have t2 := ho 5 rfl
            dsimp at t2
            try with_reducible replace hw := New.undrawN hw
            try with_reducible replace hw := New.undraw hw
            obtain ⟨c, f'⟩ := hw.rules
            go_simp
            exact New.refl _
          · intro a w9 hw ho hk
            refine .inl ⟨by rfl, ?_⟩
            have t44 : a.tmps[44]?.getD undef = .slice (some ⟨gh, 0, none⟩) 3 k4 := hk 0 44 (by kernel_rfl) rfl
            go_simp
            exact New.refl _
          · intro a w9 hw ho hk
            refine .inl ⟨by rfl, ?_⟩
            have t45 : a.tmps[45]?.getD undef = .pointer (some ⟨gh, 0, none⟩) := hk 1 45 (by kernel_rfl) rfl
            try with_reducible replace hw := New.undrawN hw
            try with_reducible replace hw := New.undraw hw
            obtain ⟨c, f'⟩ := hw.rules
            go_simp
            exact New.refl _
          · intro a w9 hw ho hk
            refine .inl ⟨by rfl, ?_⟩
            have t2 := ho 5 rfl
            dsimp at t2
            try with_reducible replace hw := New.undrawN hw
            try with_reducible replace hw := New.undraw hw
            obtain ⟨c, f'⟩ := hw.rules
            go_simp
            exact New.refl _
          · intro a w9 hw ho hk
            refine .inl ⟨by rfl, ?_⟩
            have t47 : a.tmps[47]?.getD undef = .slice (some ⟨gh, 0, none⟩) 3 k4 := hk 3 47 (by kernel_rfl) rfl
            go_simp
            exact New.refl _
          · intro a w9 hw ho hk
            refine .inl ⟨by rfl, ?_⟩
            have t48 : a.tmps[48]?.getD undef = .pointer (some ⟨gh, 1, none⟩) := hk 4 48 (by kernel_rfl) rfl
            try with_reducible replace hw := New.undrawN hw
            try with_reducible replace hw := New.undraw hw
            obtain ⟨c, f'⟩ := hw.rules
            go_simp
            exact New.refl _
          · intro a w9 hw ho hk
            refine .inl ⟨by rfl, ?_⟩
            have t2 := ho 5 rfl
            dsimp at t2
            try with_reducible replace hw := New.undrawN hw
            try with_reducible replace hw := New.undraw hw
            obtain ⟨c, f'⟩ := hw.rules
            go_simp
            exact New.refl _
          · intro a w9 hw ho hk
            refine .inl ⟨by rfl, ?_⟩
            have t50 : a.tmps[50]?.getD undef = .slice (some ⟨gh, 0, none⟩) 3 k4 := hk 6 50 (by kernel_rfl) rfl
            go_simp
            exact New.refl _
          · intro a w9 hw ho hk
            refine .inl ⟨by rfl, ?_⟩
            have t51 : a.tmps[51]?.getD undef = .pointer (some ⟨gh, 2, none⟩) := hk 7 51 (by kernel_rfl) rfl
            try with_reducible replace hw := New.undrawN hw
            try with_reducible replace hw := New.undraw hw
            obtain ⟨c, f'⟩ := hw.rules
            go_simp
            exact New.refl _
          · intro a w9 hw ho hk
            refine .inl ⟨by rfl, ?_⟩
            have t2 := ho 7 rfl
            dsimp at t2
            try with_reducible replace hw := New.undrawN hw
            try with_reducible replace hw := New.undraw hw
            obtain ⟨c, f'⟩ := hw.rules
            go_simp
            exact New.refl _
          · intro a w9 hw ho hk
            refine .inl ⟨by rfl, ?_⟩
            have t2 := ho 8 rfl
            dsimp at t2
            try with_reducible replace hw := New.undrawN hw
            try with_reducible replace hw := New.undraw hw
            obtain ⟨c, f'⟩ := hw.rules
            go_simp
            exact New.refl _
          · intro a w9 hw ho hk
            refine .inl ⟨by rfl, ?_⟩
            have t46 : a.tmps[46]?.getD undef = .int .i64 h0 := hk 2 46 (by kernel_rfl) rfl
            have t49 : a.tmps[49]?.getD undef = .int .i64 h1 := hk 5 49 (by kernel_rfl) rfl
            have t52 : a.tmps[52]?.getD undef = .int .i64 h2 := hk 8 52 (by kernel_rfl) rfl
            have t53 : a.tmps[53]?.getD undef = .slice ba B.length bc := hk 9 53 (by kernel_rfl) rfl
            have t54 : a.tmps[54]?.getD undef = .slice sa S.length sc := hk 10 54 (by kernel_rfl) rfl
            go_simp
            exact New.refl _
          · intro a w9 hw ho hk
            refine .inl ⟨by rfl, ?_⟩
            have hws := hw.size; go_simp; first | exact ⟨(New.refl _).alloc _, _, rfl, _, rfl, hws, Blk.alloc_at rfl⟩ | exact ⟨(New.refl _).alloc _, _, by simp, hws, Blk.alloc_at rfl⟩
        intro w6 b6
        rintro _ rfl _ rfl _ rfl _ rfl _ rfl _ rfl _ rfl _ rfl _ rfl _ rfl _ rfl _ rfl _ ⟨O, rfl, hO, KO⟩
        have z6 := b6.size
        obtain ⟨cO, fO⟩ := KO.rules
        have hO2 := KO.lt
        have oB6 := own_new oB.out b6
        have oS6 := own_new oS.out b6
        have KR6 := KR5.new b6
        simp only [RG.EndAll, List.nil_append, List.cons_append, List.length_cons, List.length_nil, Nat.zero_add, Nat.reduceAdd, List.take_succ_cons, List.take_zero, List.drop_succ_cons, List.drop_zero, RG.putAll, Act.put, List.setIfInBounds_toArray, List.set_cons_succ, List.set_cons_zero]
        have HZ := Lib.hid oB6
        have HZ' := Lib.hid oS6
        clear oB6 oS6 k0 k1 k2
        replace HLS := Lib.hid HLS
        obtain ⟨cR, fR⟩ := KR6.rules
        have hwr : w.heap.size < w6.heap.size := by omega
        have hne : w.heap.size ≠ O := by omega
        have hne' : O ≠ w.heap.size := by omega
        have hwO : w.heap.size ≤ O := by omega
        cases two with
        | false =>
          have hF : RES = none := by rw [← hRES.out, finS, if_neg (by simp)]
          subst hF
          clear hRES
          go_wp2_with fail
          exact retRC_none rfl ((((((((((N5.trans b6).setCell (p := ⟨O, 0, none⟩) hwO _).setCell (p := ⟨O, 1, none⟩) hwO _).setCell (p := ⟨O, 2, none⟩) hwO _).setCell (p := ⟨O, 3, none⟩) hwO _).setCell (p := ⟨O, 4, none⟩) hwO _).setCell (p := ⟨w.heap.size, 0, none⟩) (Nat.le_refl _) _).setCell (p := ⟨w.heap.size, 1, none⟩) (Nat.le_refl _) _).setCell (p := ⟨w.heap.size, 2, none⟩) (Nat.le_refl _) _).setCell (p := ⟨w.heap.size, 3, none⟩) (Nat.le_refl _) _ |>.setCell (p := ⟨w.heap.size, 4, none⟩) (Nat.le_refl _) _) (by simp [results, Tryz.results10, go_sem, cR, fR, cO, fO, hwr, hne, hne'])
        | true =>
          have hF : RES = if (ctextR ⟨h0, h1, h2, B, S⟩ == s.data.toList) = true then some ⟨h0, h1, h2, B, S⟩ else none := by
            rw [← hRES.out, finS]; simp
          clear hRES
          replace hF := Lib.hid hF
          have hn1 := blk_ne_ownK KO HZ.out (by decide)
          have hn2 := blk_ne_ownK KO HZ'.out (by decide)
          have Q1 := Lib.hid (own_setK (own_setK (own_setK (own_setK (own_setK HZ.out hn1 (o := 0) (.int .i64 h0)) hn1 (o := 1) (.int .i64 h1)) hn1 (o := 2) (.int .i64 h2)) hn1 (o := 3) (.slice ba B.length bc)) hn1 (o := 4) (.slice sa S.length sc))
          have Q2 := Lib.hid (own_setK (own_setK (own_setK (own_setK (own_setK HZ'.out hn2 (o := 0) (.int .i64 h0)) hn2 (o := 1) (.int .i64 h1)) hn2 (o := 2) (.int .i64 h2)) hn2 (o := 3) (.slice ba B.length bc)) hn2 (o := 4) (.slice sa S.length sc))
          have K7 := ((((KO.set 0 (.int .i64 h0)).set 1 (.int .i64 h1)).set 2 (.int .i64 h2)).set 3 (.slice ba B.length bc)).set 4 (.slice sa S.length sc)
          simp only [List.setIfInBounds_toArray, List.set_cons_succ, List.set_cons_zero] at K7
          have KR7 := ((((KR6.set_ne (g := O) (o := 0) hne (.int .i64 h0)).set_ne (g := O) (o := 1) hne (.int .i64 h1)).set_ne (g := O) (o := 2) hne (.int .i64 h2)).set_ne (g := O) (o := 3) hne (.slice ba B.length bc)).set_ne (g := O) (o := 4) hne (.slice sa S.length sc)
          have N7 := (((((N5.trans b6).setCell (p := ⟨O, 0, none⟩) hwO (.int .i64 h0)).setCell (p := ⟨O, 1, none⟩) hwO (.int .i64 h1)).setCell (p := ⟨O, 2, none⟩) hwO (.int .i64 h2)).setCell (p := ⟨O, 3, none⟩) hwO (.slice ba B.length bc)).setCell (p := ⟨O, 4, none⟩) hwO (.slice sa S.length sc)
          have HCT := Lib.hid (fun (w0 : World) (p q : Value) (hp : RdT w0 p B) (hq : RdN w0 q S) => sCodeTR_any ⟨h0, h1, h2, B, S⟩ p q w0 hp hq hfit.out)
          have hcm := strL_cmp (ctextR ⟨h0, h1, h2, B, S⟩) s
          generalize ctextR ⟨h0, h1, h2, B, S⟩ = TX at *
          go_wp2_with fail
          refine (HCT.out _ _ _ (own_rd Q1.out) (own_rd Q2.out)).mono ?_
          rintro e w8 ⟨rfl, b8⟩
          have K8 := K7.new b8
          have KR8 := KR7.new b8
          have N8 := N7.trans b8
          have P1 := own_new Q1.out b8
          have P2 := own_new Q2.out b8
          clear cO fO cR fR K7 KR7 N7 Q1 Q2
          obtain ⟨c8, f8⟩ := K8.rules
          obtain ⟨d8, g8⟩ := KR8.rules
          have hw8 := KR8.lt
          have hO8 := K8.lt
          rcases Bool.eq_false_or_eq_true (TX == s.data.toList) with hE | hE
          · have hRN : RES = some ⟨h0, h1, h2, B, S⟩ := by rw [hF.out, if_pos hE]
            subst hRN
            clear hF
            rw [hE] at hcm
            generalize strL TX = tx at *
            go_wp2_with fail
            refine bodyPost_ret (v := .tuple #[valC ⟨h0, h1, h2, B, S⟩ (.slice ba B.length bc) (.slice sa S.length sc), .bool true]) (by simp [results, Tryz.results10, go_sem, c8, f8, d8, g8, hw8, hO8, hne, hne']) rfl ?_
            refine ⟨_, _, rfl, (((((N8.setCell (p := ⟨w.heap.size, 0, none⟩) (Nat.le_refl _) _).setCell (p := ⟨w.heap.size, 1, none⟩) (Nat.le_refl _) _).setCell (p := ⟨w.heap.size, 2, none⟩) (Nat.le_refl _) _).setCell (p := ⟨w.heap.size, 3, none⟩) (Nat.le_refl _) _).setCell (p := ⟨w.heap.size, 4, none⟩) (Nat.le_refl _) _), ?_, ?_⟩
            · refine own_base (base := w4.heap.size) ?_ (by omega)
              repeat (apply ownsRow_setCell_below)
              exact P1
              all_goals (dsimp; omega)
            · refine own_base (base := w4.heap.size) ?_ (by omega)
              repeat (apply ownsRow_setCell_below)
              exact P2
              all_goals (dsimp; omega)
          · have hRN : RES = none := by rw [hF.out, if_neg (by simp [hE])]
            subst hRN
            clear hF
            rw [hE] at hcm
            generalize strL TX = tx at *
            go_wp2_with fail
            exact retRC_none rfl (((((N8.setCell (p := ⟨w.heap.size, 0, none⟩) (Nat.le_refl _) _).setCell (p := ⟨w.heap.size, 1, none⟩) (Nat.le_refl _) _).setCell (p := ⟨w.heap.size, 2, none⟩) (Nat.le_refl _) _).setCell (p := ⟨w.heap.size, 3, none⟩) (Nat.le_refl _) _).setCell (p := ⟨w.heap.size, 4, none⟩) (Nat.le_refl _) _) (by simp [results, Tryz.results10, go_sem, c8, f8, d8, g8, hw8, hO8, hne, hne'])
      · rw [headS, if_neg (fun hh => hL3 hh.2)]
        have hL3' : n < 3 := by omega
        clear hn
        have h3' : (((hd.length : Nat) : Int) != 3) = false := by simp [h3]
        replace h3 := Lib.hid h3
        go_enter Tryz.func10, Tryz.ntmps10
        go_wp2_with fail
        refine (HSP1.out _).mono ?_; rintro e w2 ⟨r1, rfl, b2, o2⟩
        obtain ⟨g, cap, rfl, hcap, hg, hx0, HX⟩ := lines_open HLN.out hL0 o2; clear o2
        obtain ⟨c2, f2⟩ := b2.rules
        have z2 := b2.size
        try simp only [World.size_alloc, World.size_drew, World.heap_drewN, World.size_setCell] at z2
        have z2_0 : w.heap.size < w2.heap.size := by omega
        go_wp2_with fail
        refine (HSP2.out _).mono ?_; rintro e w3 ⟨r3, rfl, b3, o3⟩
        have HR3 := Lib.hid (own_rdS o3); clear o3
        obtain ⟨c3, f3⟩ := b3.rules
        have z3 := b3.size
        try simp only [World.size_alloc, World.size_drew, World.heap_drewN, World.size_setCell] at z3
        have z3_0 : w.heap.size < w3.heap.size := by omega
        go_wp2_with fail
        refine (HN.out _ _ HR3.out).mono ?_; rintro e w4 ⟨r4, rfl, b4, o4⟩
        obtain ⟨a4, k4, rfl⟩ := own_slice o4
        obtain ⟨c4, f4⟩ := b4.rules
        have z4 := b4.size
        try simp only [World.size_alloc, World.size_drew, World.heap_drewN, World.size_setCell] at z4
        have z4_0 : w.heap.size < w4.heap.size := by omega
        go_wp2_with fail
        exact retRC_none rfl (by repeat (first | with_reducible exact New.refl _ | with_reducible assumption | with_reducible refine New.drew ?_ | with_reducible refine New.drewN ?_ _ | with_reducible refine New.alloc ?_ _ | with_reducible refine New.setCell ?_ (by first | (simp; done) | (simp; omega) | omega) _ | with_reducible refine New.trans ?_ (by with_reducible assumption))) (by simp [results, Tryz.results10, go_sem, c4, f4, c3, f3, c2, f2, z2_0, z3_0, z4_0])
    · rw [headS, if_neg (fun hh => h3 hh.1)]
      have h3' : (((hd.length : Nat) : Int) != 3) = true := by simp; omega
      clear hn
      go_enter Tryz.func10, Tryz.ntmps10
      go_wp2_with fail
      refine (HSP1.out _).mono ?_; rintro e w2 ⟨r1, rfl, b2, o2⟩
      obtain ⟨g, cap, rfl, hcap, hg, hx0, HX⟩ := lines_open HLN.out hL0 o2; clear o2
      obtain ⟨c2, f2⟩ := b2.rules
      have z2 := b2.size
      try simp only [World.size_alloc, World.size_drew, World.heap_drewN, World.size_setCell] at z2
      have z2_0 : w.heap.size < w2.heap.size := by omega
      go_wp2_with fail
      refine (HSP2.out _).mono ?_; rintro e w3 ⟨r3, rfl, b3, o3⟩
      have HR3 := Lib.hid (own_rdS o3); clear o3
      obtain ⟨c3, f3⟩ := b3.rules
      have z3 := b3.size
      try simp only [World.size_alloc, World.size_drew, World.heap_drewN, World.size_setCell] at z3
      have z3_0 : w.heap.size < w3.heap.size := by omega
      go_wp2_with fail
      refine (HN.out _ _ HR3.out).mono ?_; rintro e w4 ⟨r4, rfl, b4, o4⟩
      obtain ⟨a4, k4, rfl⟩ := own_slice o4
      obtain ⟨c4, f4⟩ := b4.rules
      have z4 := b4.size
      try simp only [World.size_alloc, World.size_drew, World.heap_drewN, World.size_setCell] at z4
      have z4_0 : w.heap.size < w4.heap.size := by omega
      go_wp2_with fail
      exact retRC_none rfl (by repeat (first | with_reducible exact New.refl _ | with_reducible assumption | with_reducible refine New.drew ?_ | with_reducible refine New.drewN ?_ _ | with_reducible refine New.alloc ?_ _ | with_reducible refine New.setCell ?_ (by first | (simp; done) | (simp; omega) | omega) _ | with_reducible refine New.trans ?_ (by with_reducible assumption))) (by simp [results, Tryz.results10, go_sem, c4, f4, c3, f3, c2, f2, z2_0, z3_0, z4_0])
end Go.Proofs.YteielmihlfakgaaGreatDoor
