/- Contracts: standard texts: the program. -/
import Derived.Test.YteielmihlfakgaaGreatDoorProg
import Derived.Test.YteielmihlfakgaaGreatDoorStdW
import Derived.Test.YteielmihlfakgaaGreatDoorBldW
namespace Go.Proofs.YteielmihlfakgaaGreatDoor
open Go Go.Proofs Go.RowKit
set_option linter.unusedVariables false
set_option linter.unusedSimpArgs false
set_option maxRecDepth 100000
set_option maxHeartbeats 4000000 in
theorem iTextL_any (v : Value) (ts : List EToken) (w : World) (hv : Rd w v ts.length (ts.flatMap encToken)) (hf : ∀ x ∈ ts, fitToken x) (hl : ts.length ≤ 100000) (hT : ∀ k, k ≤ ts.length → (stdK ts k).length ≤ 840000000) (hk : KW w) :
    Calls Tryz.prog 58 #[v] w fun e w' => e = .returned (.string (strL (stdK ts ts.length))) ∧ New w w' := by
  obtain ⟨a, cap, rfl, hm, HC⟩ := Rd.flat encToken_len (by omega) hv
  have HF := Lib.hid hf
  have HK := Lib.hid hk
  have HL := Lib.hid hT
  clear hv hf hk hT
  have bld0 := bld_fresh w
  go_enter Tryz.func58, Tryz.ntmps58
  go_wp2_with fail
  go_loopw [8] (fun i wr => ∃ k : Nat, k ≤ ts.length ∧ i = .int .i64 k ∧ New w wr ∧ Bld w.heap.size wr (stdK ts k)) (fun i _ => ts.length - (intOf i).toNat)
  case atStart => exact ⟨0, Nat.zero_le _, rfl, (by repeat (first | with_reducible exact New.refl _ | with_reducible assumption | with_reducible refine New.drew ?_ | with_reducible refine New.drewN ?_ _ | with_reducible refine New.alloc ?_ _ | with_reducible refine New.setCell ?_ (by first | (simp; done) | (simp; omega) | omega) _ | with_reducible refine New.trans ?_ (by with_reducible assumption))), by simpa [stdK] using bld0⟩
  case round =>
    obtain ⟨k, hk, rfl, hN, hbd⟩ := hrel
    clear bld0
    obtain ⟨cN, fN⟩ := hN.rules
    have hNz := hN.size
    have hBl := hbd.lt
    by_cases hlt : k < ts.length
    · obtain ⟨b, off, rfl, hbl, hx⟩ := HC.out k hlt
      have x0 : w.cell? ⟨b, off + k * 2, none⟩ = some (.int .i64 ts[k].kind) := hx 0 _ (by omega) rfl
      have x1 : w.cell? ⟨b, off + k * 2 + 1, none⟩ = some (.string ts[k].text) := hx 1 _ (by omega) rfl
      clear hx
      have hfit : ts[k].text.size ≤ 1048576 := HF.out ts[k] (List.getElem_mem hlt)
      have hlk := HL.out k hk
      have HP := Lib.hid (stdK_next ts k)
      have htx := tx_at hlt
      rw [htx] at HP
      have hdl := dl_len ts[k].text
      generalize ts[k].text = t at x1 hfit htx HP hdl
      generalize ts[k].kind = kd at x0
      rcases Nat.eq_zero_or_pos k with hk0 | hk0
      · subst hk0
        rw [Nat.zero_mul, Nat.add_zero] at x1 x0
        have xr0 := (hN.cell hbl).trans x0
        have xr1 := (hN.cell hbl).trans x1
        have hbr : b < wr.heap.size := by omega
        have HS := Lib.hid (show sepL ts 0 = [] by simp [sepL])
        rcases Bool.eq_false_or_eq_true (isC t 59) with he | he
        · have HE := Lib.hid (show endL t = [10] by simp [endL, he])
          have he2 : (t.toList == [59]) = true := he
          replace he := Lib.hid he
          go_wp2_with fail
          refine RG.wp_facts [fun X _ => X = .int .i64 0, fun X _ => X = .bool false, fun X _ => X = .bool false, fun X _ => X = undef, fun X _ => X = undef, fun X _ => X = undef, fun X _ => X = undef, fun X _ => X = undef, fun X _ => X = undef, fun X _ => X = undef, fun X _ => X = undef, fun X _ => X = .bool false] (by kernel_rfl) (by kernel_rfl) ⟨RG.stable_eq _, RG.stable_eq _, RG.stable_eq _, RG.stable_eq _, RG.stable_eq _, RG.stable_eq _, RG.stable_eq _, RG.stable_eq _, RG.stable_eq _, RG.stable_eq _, RG.stable_eq _, RG.stable_eq _, trivial⟩ ?_ ?_
          · refine ⟨?_, ?_, ?_, ?_, ?_, ?_, ?_, ?_, ?_, ?_, ?_, ?_, trivial⟩
            · intro a w9 hw ho hk
              refine .inl ⟨by rfl, ?_⟩
              have t2 := ho 4 rfl
              dsimp at t2
              try with_reducible replace hw := New.undrawN hw
              try with_reducible replace hw := New.undraw hw
              obtain ⟨c, f'⟩ := hw.rules
              go_simp
              exact New.refl _
            · intro a w9 hw ho hk
              refine .inl ⟨by rfl, ?_⟩
              have t13 : a.tmps[13]?.getD undef = .int .i64 0 := hk 0 13 (by kernel_rfl) rfl
              go_simp
              exact New.refl _
            · intro a w9 hw ho hk
              refine .inl ⟨by rfl, ?_⟩
              have t14 : a.tmps[14]?.getD undef = .bool false := hk 1 14 (by kernel_rfl) rfl
              go_simp
              exact New.refl _
            · intro a w9 hw ho hk
              have t15 : a.tmps[15]?.getD undef = .bool false := hk 2 15 (by kernel_rfl) rfl
              exact .inr ⟨by simp [Region.wanted, yielded, RG.look t15], rfl⟩
            · intro a w9 hw ho hk
              have t15 : a.tmps[15]?.getD undef = .bool false := hk 2 15 (by kernel_rfl) rfl
              exact .inr ⟨by simp [Region.wanted, yielded, RG.look t15], rfl⟩
            · intro a w9 hw ho hk
              have t15 : a.tmps[15]?.getD undef = .bool false := hk 2 15 (by kernel_rfl) rfl
              exact .inr ⟨by simp [Region.wanted, yielded, RG.look t15], rfl⟩
            · intro a w9 hw ho hk
              have t15 : a.tmps[15]?.getD undef = .bool false := hk 2 15 (by kernel_rfl) rfl
              exact .inr ⟨by simp [Region.wanted, yielded, RG.look t15], rfl⟩
            · intro a w9 hw ho hk
              have t15 : a.tmps[15]?.getD undef = .bool false := hk 2 15 (by kernel_rfl) rfl
              exact .inr ⟨by simp [Region.wanted, yielded, RG.look t15], rfl⟩
            · intro a w9 hw ho hk
              have t15 : a.tmps[15]?.getD undef = .bool false := hk 2 15 (by kernel_rfl) rfl
              exact .inr ⟨by simp [Region.wanted, yielded, RG.look t15], rfl⟩
            · intro a w9 hw ho hk
              have t15 : a.tmps[15]?.getD undef = .bool false := hk 2 15 (by kernel_rfl) rfl
              exact .inr ⟨by simp [Region.wanted, yielded, RG.look t15], rfl⟩
            · intro a w9 hw ho hk
              have t15 : a.tmps[15]?.getD undef = .bool false := hk 2 15 (by kernel_rfl) rfl
              exact .inr ⟨by simp [Region.wanted, yielded, RG.look t15], rfl⟩
            · intro a w9 hw ho hk
              refine .inl ⟨by rfl, ?_⟩
              have t15 : a.tmps[15]?.getD undef = .bool false := hk 2 15 (by kernel_rfl) rfl
              go_simp
              exact New.refl _
          intro w2 b2 x0' h0' x1' h1' x2' h2' x3' h3' x4' h4' x5' h5' x6' h6' x7' h7' x8' h8' x9' h9' x10' h10' x11' h11'
          subst h0' h1' h2' h3' h4' h5' h6' h7' h8' h9' h10' h11'
          try with_reducible replace b2 := New.undrawN b2
          try with_reducible replace b2 := New.undraw b2
          obtain ⟨c2, f2⟩ := b2.rules
          have z2 := b2.size
          try simp only [World.size_alloc, World.size_drew, World.heap_drewN, World.size_setCell] at z2
          have z2_0 : wr.heap.size < w2.heap.size := by omega
          simp only [RG.EndAll, List.nil_append, List.cons_append, List.length_cons, List.length_nil, Nat.zero_add, Nat.reduceAdd, List.take_succ_cons, List.take_zero, List.drop_succ_cons, List.drop_zero, RG.putAll, Act.put, List.setIfInBounds_toArray, List.set_cons_succ, List.set_cons_zero]
          have hbx := (Below.block b2 wr.heap.size (by simp)).trans (heap_alloc_new wr _)
          have bd2 := (hbd.new ((New.refl wr).alloc _)).new b2
          have bw2 := (hN.alloc _).trans b2
          clear hbd
          have nb : wr.heap.size ≠ w.heap.size := by omega
          have nT : (132 : TypeId) ≠ 5 := by decide
          have cb2 := cell_heap hbx (j := 1) rfl
          go_wp2_with fail
          refine (bWriteString w.heap.size (stdK ts 0) t w2 bd2 (by first | omega | (simp; omega))).mono ?_; rintro e w4 ⟨rfl, bd4, be4, kp4⟩
          replace hbx := kp4 _ _ _ _ nb nT hbx
          have bw4 : New w w4 := Below.trans bw2 be4
          clear cb2
          have cb4 := cell_heap hbx (j := 1) rfl
          go_wp2_with fail
          refine (bWriteByte w.heap.size ((stdK ts 0) ++ t.data.toList) 10 w4 bd4 (by first | omega | (simp; omega))).mono ?_; rintro e w5 ⟨rfl, bd5, be5, kp5⟩
          replace hbx := kp5 _ _ _ _ nb nT hbx
          have bw5 : New w w5 := Below.trans bw4 be5
          clear cb4
          have cbz := cell_heap hbx (j := 1) rfl
          go_wp2_with fail
          go_roundw
          case rel => exact ⟨0 + 1, by omega, by go_num, by exact bw5, by rw [HP.out, HE.out, HS.out]; simpa using bd5⟩
          case measure => simp [intOf]; omega
        · have HE := Lib.hid (show endL t = [] by simp [endL, he])
          have he2 : (t.toList == [59]) = false := he
          replace he := Lib.hid he
          go_wp2_with fail
          refine RG.wp_facts [fun X _ => X = .int .i64 0, fun X _ => X = .bool false, fun X _ => X = .bool false, fun X _ => X = undef, fun X _ => X = undef, fun X _ => X = undef, fun X _ => X = undef, fun X _ => X = undef, fun X _ => X = undef, fun X _ => X = undef, fun X _ => X = undef, fun X _ => X = .bool false] (by kernel_rfl) (by kernel_rfl) ⟨RG.stable_eq _, RG.stable_eq _, RG.stable_eq _, RG.stable_eq _, RG.stable_eq _, RG.stable_eq _, RG.stable_eq _, RG.stable_eq _, RG.stable_eq _, RG.stable_eq _, RG.stable_eq _, RG.stable_eq _, trivial⟩ ?_ ?_
          · refine ⟨?_, ?_, ?_, ?_, ?_, ?_, ?_, ?_, ?_, ?_, ?_, ?_, trivial⟩
            · intro a w9 hw ho hk
              refine .inl ⟨by rfl, ?_⟩
              have t2 := ho 4 rfl
              dsimp at t2
              try with_reducible replace hw := New.undrawN hw
              try with_reducible replace hw := New.undraw hw
              obtain ⟨c, f'⟩ := hw.rules
              go_simp
              exact New.refl _
            · intro a w9 hw ho hk
              refine .inl ⟨by rfl, ?_⟩
              have t13 : a.tmps[13]?.getD undef = .int .i64 0 := hk 0 13 (by kernel_rfl) rfl
              go_simp
              exact New.refl _
            · intro a w9 hw ho hk
              refine .inl ⟨by rfl, ?_⟩
              have t14 : a.tmps[14]?.getD undef = .bool false := hk 1 14 (by kernel_rfl) rfl
              go_simp
              exact New.refl _
            · intro a w9 hw ho hk
              have t15 : a.tmps[15]?.getD undef = .bool false := hk 2 15 (by kernel_rfl) rfl
              exact .inr ⟨by simp [Region.wanted, yielded, RG.look t15], rfl⟩
            · intro a w9 hw ho hk
              have t15 : a.tmps[15]?.getD undef = .bool false := hk 2 15 (by kernel_rfl) rfl
              exact .inr ⟨by simp [Region.wanted, yielded, RG.look t15], rfl⟩
            · intro a w9 hw ho hk
              have t15 : a.tmps[15]?.getD undef = .bool false := hk 2 15 (by kernel_rfl) rfl
              exact .inr ⟨by simp [Region.wanted, yielded, RG.look t15], rfl⟩
            · intro a w9 hw ho hk
              have t15 : a.tmps[15]?.getD undef = .bool false := hk 2 15 (by kernel_rfl) rfl
              exact .inr ⟨by simp [Region.wanted, yielded, RG.look t15], rfl⟩
            · intro a w9 hw ho hk
              have t15 : a.tmps[15]?.getD undef = .bool false := hk 2 15 (by kernel_rfl) rfl
              exact .inr ⟨by simp [Region.wanted, yielded, RG.look t15], rfl⟩
            · intro a w9 hw ho hk
              have t15 : a.tmps[15]?.getD undef = .bool false := hk 2 15 (by kernel_rfl) rfl
              exact .inr ⟨by simp [Region.wanted, yielded, RG.look t15], rfl⟩
            · intro a w9 hw ho hk
              have t15 : a.tmps[15]?.getD undef = .bool false := hk 2 15 (by kernel_rfl) rfl
              exact .inr ⟨by simp [Region.wanted, yielded, RG.look t15], rfl⟩
            · intro a w9 hw ho hk
              have t15 : a.tmps[15]?.getD undef = .bool false := hk 2 15 (by kernel_rfl) rfl
              exact .inr ⟨by simp [Region.wanted, yielded, RG.look t15], rfl⟩
            · intro a w9 hw ho hk
              refine .inl ⟨by rfl, ?_⟩
              have t15 : a.tmps[15]?.getD undef = .bool false := hk 2 15 (by kernel_rfl) rfl
              go_simp
              exact New.refl _
          intro w2 b2 x0' h0' x1' h1' x2' h2' x3' h3' x4' h4' x5' h5' x6' h6' x7' h7' x8' h8' x9' h9' x10' h10' x11' h11'
          subst h0' h1' h2' h3' h4' h5' h6' h7' h8' h9' h10' h11'
          try with_reducible replace b2 := New.undrawN b2
          try with_reducible replace b2 := New.undraw b2
          obtain ⟨c2, f2⟩ := b2.rules
          have z2 := b2.size
          try simp only [World.size_alloc, World.size_drew, World.heap_drewN, World.size_setCell] at z2
          have z2_0 : wr.heap.size < w2.heap.size := by omega
          simp only [RG.EndAll, List.nil_append, List.cons_append, List.length_cons, List.length_nil, Nat.zero_add, Nat.reduceAdd, List.take_succ_cons, List.take_zero, List.drop_succ_cons, List.drop_zero, RG.putAll, Act.put, List.setIfInBounds_toArray, List.set_cons_succ, List.set_cons_zero]
          have hbx := (Below.block b2 wr.heap.size (by simp)).trans (heap_alloc_new wr _)
          have bd2 := (hbd.new ((New.refl wr).alloc _)).new b2
          have bw2 := (hN.alloc _).trans b2
          clear hbd
          have nb : wr.heap.size ≠ w.heap.size := by omega
          have nT : (132 : TypeId) ≠ 5 := by decide
          have cb2 := cell_heap hbx (j := 1) rfl
          go_wp2_with fail
          refine (bWriteString w.heap.size (stdK ts 0) t w2 bd2 (by first | omega | (simp; omega))).mono ?_; rintro e w4 ⟨rfl, bd4, be4, kp4⟩
          replace hbx := kp4 _ _ _ _ nb nT hbx
          have bw4 : New w w4 := Below.trans bw2 be4
          clear cb2
          have cbz := cell_heap hbx (j := 1) rfl
          go_wp2_with fail
          go_roundw
          case rel => exact ⟨0 + 1, by omega, by go_num, by exact bw4, by rw [HP.out, HE.out, HS.out]; simpa using bd4⟩
          case measure => simp [intOf]; omega
      · obtain ⟨m, rfl⟩ : ∃ m, k = m + 1 := ⟨k - 1, by omega⟩
        obtain ⟨b', off', hbe, _, hy⟩ := HC.out m (by omega)
        obtain ⟨rfl, rfl⟩ : b = b' ∧ off = off' := by simp at hbe; exact hbe
        have y0 : w.cell? ⟨b, off + m * 2, none⟩ = some (.int .i64 ts[m].kind) := hy 0 _ (by omega) rfl
        have y1 : w.cell? ⟨b, off + m * 2 + 1, none⟩ = some (.string ts[m].text) := hy 1 _ (by omega) rfl
        have hty := tx_at (show m < ts.length by omega)
        clear hy hbe
        generalize ts[m].text = u at y1 hty
        generalize ts[m].kind = kd' at y0
        have HB := Lib.hid (fun (k l : Int) (w0 : World) (h : KW w0) => iTight_any k l u t w0 h)
        have yr0 := (hN.cell hbl).trans y0
        have yr1 := (hN.cell hbl).trans y1
        have xr0 := (hN.cell hbl).trans x0
        have xr1 := (hN.cell hbl).trans x1
        have hbr : b < wr.heap.size := by omega
        have gw := i64_in' (m : Int) (by omega) (by omega)
        have hml : m < ts.length := by omega
        have hmi : (m : Int) < (ts.length : Int) := by omega
        have hmj : (m : Int) + 1 < (ts.length : Int) := by omega
        have hmk : ¬ ((m : Int) < 0) := by omega
        have hmn : ¬ ((m : Int) + 1 < 0) := by omega
        rcases Bool.eq_false_or_eq_true (tightB u t) with ht | ht
        · have HS := Lib.hid (show sepL ts (m + 1) = [] by rw [sepL, Nat.add_sub_cancel, htx, hty, ht]; simp)
          rw [ht] at HB
          replace ht := Lib.hid ht
          rcases Bool.eq_false_or_eq_true (isC t 59) with he | he
          · have HE := Lib.hid (show endL t = [10] by simp [endL, he])
            have he2 : (t.toList == [59]) = true := he
            replace he := Lib.hid he
            go_wp2_with fail
            refine RG.wp_facts [fun X _ => X = .int .i64 ((m : Int) + 1), fun X _ => X = .bool true, fun X _ => X = .bool true, fun X _ => X = .slice (some ⟨b, off, none⟩) ts.length cap, fun X _ => X = .int .i64 ((m : Int) + 1), fun X _ => X = .int .i64 m, fun X _ => X = .pointer (some ⟨b, off + m * 2, none⟩), fun X _ => X = .agg #[.int .i64 kd', .string u], fun X _ => X = .agg #[.int .i64 kd, .string t], fun X _ => X = .bool true, fun X _ => X = .bool false, fun X _ => X = .bool false] (by kernel_rfl) (by kernel_rfl) ⟨RG.stable_eq _, RG.stable_eq _, RG.stable_eq _, RG.stable_eq _, RG.stable_eq _, RG.stable_eq _, RG.stable_eq _, RG.stable_eq _, RG.stable_eq _, RG.stable_eq _, RG.stable_eq _, RG.stable_eq _, trivial⟩ ?_ ?_
            · refine ⟨?_, ?_, ?_, ?_, ?_, ?_, ?_, ?_, ?_, ?_, ?_, ?_, trivial⟩
              · intro a w9 hw ho hk
                refine .inl ⟨by rfl, ?_⟩
                have t2 := ho 4 rfl
                dsimp at t2
                try with_reducible replace hw := New.undrawN hw
                try with_reducible replace hw := New.undraw hw
                obtain ⟨c, f'⟩ := hw.rules
                go_simp
                exact New.refl _
              · intro a w9 hw ho hk
                refine .inl ⟨by rfl, ?_⟩
                have t13 : a.tmps[13]?.getD undef = .int .i64 ((m : Int) + 1) := hk 0 13 (by kernel_rfl) rfl
                go_simp
                exact New.refl _
              · intro a w9 hw ho hk
                refine .inl ⟨by rfl, ?_⟩
                have t14 : a.tmps[14]?.getD undef = .bool true := hk 1 14 (by kernel_rfl) rfl
                go_simp
                exact New.refl _
              · intro a w9 hw ho hk
                have t15 : a.tmps[15]?.getD undef = .bool true := hk 2 15 (by kernel_rfl) rfl
                refine .inl ⟨by simp [Region.wanted, yielded, RG.look t15], ?_⟩
                have t2 := ho 0 rfl
                dsimp at t2
                try with_reducible replace hw := New.undrawN hw
                try with_reducible replace hw := New.undraw hw
                obtain ⟨c, f'⟩ := hw.rules
                go_simp
                exact New.refl _
              · intro a w9 hw ho hk
                have t15 : a.tmps[15]?.getD undef = .bool true := hk 2 15 (by kernel_rfl) rfl
                refine .inl ⟨by simp [Region.wanted, yielded, RG.look t15], ?_⟩
                have t2 := ho 4 rfl
                dsimp at t2
                try with_reducible replace hw := New.undrawN hw
                try with_reducible replace hw := New.undraw hw
                obtain ⟨c, f'⟩ := hw.rules
                go_simp
                exact New.refl _
              · intro a w9 hw ho hk
                have t15 : a.tmps[15]?.getD undef = .bool true := hk 2 15 (by kernel_rfl) rfl
                refine .inl ⟨by simp [Region.wanted, yielded, RG.look t15], ?_⟩
                have t17 : a.tmps[17]?.getD undef = .int .i64 ((m : Int) + 1) := hk 4 17 (by kernel_rfl) rfl
                go_simp
                exact New.refl _
              · intro a w9 hw ho hk
                have t15 : a.tmps[15]?.getD undef = .bool true := hk 2 15 (by kernel_rfl) rfl
                refine .inl ⟨by simp [Region.wanted, yielded, RG.look t15], ?_⟩
                have t16 : a.tmps[16]?.getD undef = .slice (some ⟨b, off, none⟩) ts.length cap := hk 3 16 (by kernel_rfl) rfl
                have t18 : a.tmps[18]?.getD undef = .int .i64 m := hk 5 18 (by kernel_rfl) rfl
                go_simp
                exact New.refl _
              · intro a w9 hw ho hk
                have t15 : a.tmps[15]?.getD undef = .bool true := hk 2 15 (by kernel_rfl) rfl
                refine .inl ⟨by simp [Region.wanted, yielded, RG.look t15], ?_⟩
                have t19 : a.tmps[19]?.getD undef = .pointer (some ⟨b, off + m * 2, none⟩) := hk 6 19 (by kernel_rfl) rfl
                try with_reducible replace hw := New.undrawN hw
                try with_reducible replace hw := New.undraw hw
                obtain ⟨c, f'⟩ := hw.rules
                go_simp
                exact New.refl _
              · intro a w9 hw ho hk
                have t15 : a.tmps[15]?.getD undef = .bool true := hk 2 15 (by kernel_rfl) rfl
                refine .inl ⟨by simp [Region.wanted, yielded, RG.look t15], ?_⟩
                have t2 := ho 5 rfl
                dsimp at t2
                try with_reducible replace hw := New.undrawN hw
                try with_reducible replace hw := New.undraw hw
                obtain ⟨c, f'⟩ := hw.rules
                go_simp
                exact New.refl _
              · intro a w9 hw ho hk
                have t15 : a.tmps[15]?.getD undef = .bool true := hk 2 15 (by kernel_rfl) rfl
                refine .inl ⟨by simp [Region.wanted, yielded, RG.look t15], ?_⟩
                have t20 : a.tmps[20]?.getD undef = .agg #[.int .i64 kd', .string u] := hk 7 20 (by kernel_rfl) rfl
                have t21 : a.tmps[21]?.getD undef = .agg #[.int .i64 kd, .string t] := hk 8 21 (by kernel_rfl) rfl
                go_simp
                refine (HB.out _ _ _ (HK.out.new (New.trans (by exact (by repeat (first | with_reducible exact New.refl _ | with_reducible assumption | with_reducible refine New.drew ?_ | with_reducible refine New.drewN ?_ _ | with_reducible refine New.alloc ?_ _ | with_reducible refine New.setCell ?_ (by first | (simp; done) | (simp; omega) | omega) _ | with_reducible refine New.trans ?_ (by with_reducible assumption)))) hw))).mono ?_; rintro e w2 ⟨rfl, hb⟩
                first | exact ⟨hb, _, rfl, by simp⟩ | exact ⟨hb, by simp⟩
              · intro a w9 hw ho hk
                have t15 : a.tmps[15]?.getD undef = .bool true := hk 2 15 (by kernel_rfl) rfl
                refine .inl ⟨by simp [Region.wanted, yielded, RG.look t15], ?_⟩
                have t22 : a.tmps[22]?.getD undef = .bool true := hk 9 22 (by kernel_rfl) rfl
                go_simp
                exact New.refl _
              · intro a w9 hw ho hk
                refine .inl ⟨by rfl, ?_⟩
                have t15 : a.tmps[15]?.getD undef = .bool true := hk 2 15 (by kernel_rfl) rfl
                have t23 : a.tmps[23]?.getD undef = .bool false := hk 10 23 (by kernel_rfl) rfl
                go_simp
                exact New.refl _
            intro w2 b2 x0' h0' x1' h1' x2' h2' x3' h3' x4' h4' x5' h5' x6' h6' x7' h7' x8' h8' x9' h9' x10' h10' x11' h11'
            subst h0' h1' h2' h3' h4' h5' h6' h7' h8' h9' h10' h11'
            try with_reducible replace b2 := New.undrawN b2
            try with_reducible replace b2 := New.undraw b2
            obtain ⟨c2, f2⟩ := b2.rules
            have z2 := b2.size
            try simp only [World.size_alloc, World.size_drew, World.heap_drewN, World.size_setCell] at z2
            have z2_0 : wr.heap.size < w2.heap.size := by omega
            simp only [RG.EndAll, List.nil_append, List.cons_append, List.length_cons, List.length_nil, Nat.zero_add, Nat.reduceAdd, List.take_succ_cons, List.take_zero, List.drop_succ_cons, List.drop_zero, RG.putAll, Act.put, List.setIfInBounds_toArray, List.set_cons_succ, List.set_cons_zero]
            have hbx := (Below.block b2 wr.heap.size (by simp)).trans (heap_alloc_new wr _)
            have bd2 := (hbd.new ((New.refl wr).alloc _)).new b2
            have bw2 := (hN.alloc _).trans b2
            clear hbd
            have nb : wr.heap.size ≠ w.heap.size := by omega
            have nT : (132 : TypeId) ≠ 5 := by decide
            have cb2 := cell_heap hbx (j := 1) rfl
            go_wp2_with fail
            refine (bWriteString w.heap.size (stdK ts (m + 1)) t w2 bd2 (by first | omega | (simp; omega))).mono ?_; rintro e w4 ⟨rfl, bd4, be4, kp4⟩
            replace hbx := kp4 _ _ _ _ nb nT hbx
            have bw4 : New w w4 := Below.trans bw2 be4
            clear cb2
            have cb4 := cell_heap hbx (j := 1) rfl
            go_wp2_with fail
            refine (bWriteByte w.heap.size ((stdK ts (m + 1)) ++ t.data.toList) 10 w4 bd4 (by first | omega | (simp; omega))).mono ?_; rintro e w5 ⟨rfl, bd5, be5, kp5⟩
            replace hbx := kp5 _ _ _ _ nb nT hbx
            have bw5 : New w w5 := Below.trans bw4 be5
            clear cb4
            have cbz := cell_heap hbx (j := 1) rfl
            go_wp2_with fail
            go_roundw
            case rel => exact ⟨(m + 1) + 1, by omega, by go_num, by exact bw5, by rw [HP.out, HE.out, HS.out]; simpa using bd5⟩
            case measure => simp [intOf]; omega
          · have HE := Lib.hid (show endL t = [] by simp [endL, he])
            have he2 : (t.toList == [59]) = false := he
            replace he := Lib.hid he
            go_wp2_with fail
            refine RG.wp_facts [fun X _ => X = .int .i64 ((m : Int) + 1), fun X _ => X = .bool true, fun X _ => X = .bool true, fun X _ => X = .slice (some ⟨b, off, none⟩) ts.length cap, fun X _ => X = .int .i64 ((m : Int) + 1), fun X _ => X = .int .i64 m, fun X _ => X = .pointer (some ⟨b, off + m * 2, none⟩), fun X _ => X = .agg #[.int .i64 kd', .string u], fun X _ => X = .agg #[.int .i64 kd, .string t], fun X _ => X = .bool true, fun X _ => X = .bool false, fun X _ => X = .bool false] (by kernel_rfl) (by kernel_rfl) ⟨RG.stable_eq _, RG.stable_eq _, RG.stable_eq _, RG.stable_eq _, RG.stable_eq _, RG.stable_eq _, RG.stable_eq _, RG.stable_eq _, RG.stable_eq _, RG.stable_eq _, RG.stable_eq _, RG.stable_eq _, trivial⟩ ?_ ?_
            · refine ⟨?_, ?_, ?_, ?_, ?_, ?_, ?_, ?_, ?_, ?_, ?_, ?_, trivial⟩
              · intro a w9 hw ho hk
                refine .inl ⟨by rfl, ?_⟩
                have t2 := ho 4 rfl
                dsimp at t2
                try with_reducible replace hw := New.undrawN hw
                try with_reducible replace hw := New.undraw hw
                obtain ⟨c, f'⟩ := hw.rules
                go_simp
                exact New.refl _
              · intro a w9 hw ho hk
                refine .inl ⟨by rfl, ?_⟩
                have t13 : a.tmps[13]?.getD undef = .int .i64 ((m : Int) + 1) := hk 0 13 (by kernel_rfl) rfl
                go_simp
                exact New.refl _
              · intro a w9 hw ho hk
                refine .inl ⟨by rfl, ?_⟩
                have t14 : a.tmps[14]?.getD undef = .bool true := hk 1 14 (by kernel_rfl) rfl
                go_simp
                exact New.refl _
              · intro a w9 hw ho hk
                have t15 : a.tmps[15]?.getD undef = .bool true := hk 2 15 (by kernel_rfl) rfl
                refine .inl ⟨by simp [Region.wanted, yielded, RG.look t15], ?_⟩
                have t2 := ho 0 rfl
                dsimp at t2
                try with_reducible replace hw := New.undrawN hw
                try with_reducible replace hw := New.undraw hw
                obtain ⟨c, f'⟩ := hw.rules
                go_simp
                exact New.refl _
              · intro a w9 hw ho hk
                have t15 : a.tmps[15]?.getD undef = .bool true := hk 2 15 (by kernel_rfl) rfl
                refine .inl ⟨by simp [Region.wanted, yielded, RG.look t15], ?_⟩
                have t2 := ho 4 rfl
                dsimp at t2
                try with_reducible replace hw := New.undrawN hw
                try with_reducible replace hw := New.undraw hw
                obtain ⟨c, f'⟩ := hw.rules
                go_simp
                exact New.refl _
              · intro a w9 hw ho hk
                have t15 : a.tmps[15]?.getD undef = .bool true := hk 2 15 (by kernel_rfl) rfl
                refine .inl ⟨by simp [Region.wanted, yielded, RG.look t15], ?_⟩
                have t17 : a.tmps[17]?.getD undef = .int .i64 ((m : Int) + 1) := hk 4 17 (by kernel_rfl) rfl
                go_simp
                exact New.refl _
              · intro a w9 hw ho hk
                have t15 : a.tmps[15]?.getD undef = .bool true := hk 2 15 (by kernel_rfl) rfl
                refine .inl ⟨by simp [Region.wanted, yielded, RG.look t15], ?_⟩
                have t16 : a.tmps[16]?.getD undef = .slice (some ⟨b, off, none⟩) ts.length cap := hk 3 16 (by kernel_rfl) rfl
                have t18 : a.tmps[18]?.getD undef = .int .i64 m := hk 5 18 (by kernel_rfl) rfl
                go_simp
                exact New.refl _
              · intro a w9 hw ho hk
                have t15 : a.tmps[15]?.getD undef = .bool true := hk 2 15 (by kernel_rfl) rfl
                refine .inl ⟨by simp [Region.wanted, yielded, RG.look t15], ?_⟩
                have t19 : a.tmps[19]?.getD undef = .pointer (some ⟨b, off + m * 2, none⟩) := hk 6 19 (by kernel_rfl) rfl
                try with_reducible replace hw := New.undrawN hw
                try with_reducible replace hw := New.undraw hw
                obtain ⟨c, f'⟩ := hw.rules
                go_simp
                exact New.refl _
              · intro a w9 hw ho hk
                have t15 : a.tmps[15]?.getD undef = .bool true := hk 2 15 (by kernel_rfl) rfl
                refine .inl ⟨by simp [Region.wanted, yielded, RG.look t15], ?_⟩
                have t2 := ho 5 rfl
                dsimp at t2
                try with_reducible replace hw := New.undrawN hw
                try with_reducible replace hw := New.undraw hw
                obtain ⟨c, f'⟩ := hw.rules
                go_simp
                exact New.refl _
              · intro a w9 hw ho hk
                have t15 : a.tmps[15]?.getD undef = .bool true := hk 2 15 (by kernel_rfl) rfl
                refine .inl ⟨by simp [Region.wanted, yielded, RG.look t15], ?_⟩
                have t20 : a.tmps[20]?.getD undef = .agg #[.int .i64 kd', .string u] := hk 7 20 (by kernel_rfl) rfl
                have t21 : a.tmps[21]?.getD undef = .agg #[.int .i64 kd, .string t] := hk 8 21 (by kernel_rfl) rfl
                go_simp
                refine (HB.out _ _ _ (HK.out.new (New.trans (by exact (by repeat (first | with_reducible exact New.refl _ | with_reducible assumption | with_reducible refine New.drew ?_ | with_reducible refine New.drewN ?_ _ | with_reducible refine New.alloc ?_ _ | with_reducible refine New.setCell ?_ (by first | (simp; done) | (simp; omega) | omega) _ | with_reducible refine New.trans ?_ (by with_reducible assumption)))) hw))).mono ?_; rintro e w2 ⟨rfl, hb⟩
                first | exact ⟨hb, _, rfl, by simp⟩ | exact ⟨hb, by simp⟩
              · intro a w9 hw ho hk
                have t15 : a.tmps[15]?.getD undef = .bool true := hk 2 15 (by kernel_rfl) rfl
                refine .inl ⟨by simp [Region.wanted, yielded, RG.look t15], ?_⟩
                have t22 : a.tmps[22]?.getD undef = .bool true := hk 9 22 (by kernel_rfl) rfl
                go_simp
                exact New.refl _
              · intro a w9 hw ho hk
                refine .inl ⟨by rfl, ?_⟩
                have t15 : a.tmps[15]?.getD undef = .bool true := hk 2 15 (by kernel_rfl) rfl
                have t23 : a.tmps[23]?.getD undef = .bool false := hk 10 23 (by kernel_rfl) rfl
                go_simp
                exact New.refl _
            intro w2 b2 x0' h0' x1' h1' x2' h2' x3' h3' x4' h4' x5' h5' x6' h6' x7' h7' x8' h8' x9' h9' x10' h10' x11' h11'
            subst h0' h1' h2' h3' h4' h5' h6' h7' h8' h9' h10' h11'
            try with_reducible replace b2 := New.undrawN b2
            try with_reducible replace b2 := New.undraw b2
            obtain ⟨c2, f2⟩ := b2.rules
            have z2 := b2.size
            try simp only [World.size_alloc, World.size_drew, World.heap_drewN, World.size_setCell] at z2
            have z2_0 : wr.heap.size < w2.heap.size := by omega
            simp only [RG.EndAll, List.nil_append, List.cons_append, List.length_cons, List.length_nil, Nat.zero_add, Nat.reduceAdd, List.take_succ_cons, List.take_zero, List.drop_succ_cons, List.drop_zero, RG.putAll, Act.put, List.setIfInBounds_toArray, List.set_cons_succ, List.set_cons_zero]
            have hbx := (Below.block b2 wr.heap.size (by simp)).trans (heap_alloc_new wr _)
            have bd2 := (hbd.new ((New.refl wr).alloc _)).new b2
            have bw2 := (hN.alloc _).trans b2
            clear hbd
            have nb : wr.heap.size ≠ w.heap.size := by omega
            have nT : (132 : TypeId) ≠ 5 := by decide
            have cb2 := cell_heap hbx (j := 1) rfl
            go_wp2_with fail
            refine (bWriteString w.heap.size (stdK ts (m + 1)) t w2 bd2 (by first | omega | (simp; omega))).mono ?_; rintro e w4 ⟨rfl, bd4, be4, kp4⟩
            replace hbx := kp4 _ _ _ _ nb nT hbx
            have bw4 : New w w4 := Below.trans bw2 be4
            clear cb2
            have cbz := cell_heap hbx (j := 1) rfl
            go_wp2_with fail
            go_roundw
            case rel => exact ⟨(m + 1) + 1, by omega, by go_num, by exact bw4, by rw [HP.out, HE.out, HS.out]; simpa using bd4⟩
            case measure => simp [intOf]; omega
        · have HS := Lib.hid (show sepL ts (m + 1) = [32] by rw [sepL, Nat.add_sub_cancel, htx, hty, ht]; simp)
          rw [ht] at HB
          replace ht := Lib.hid ht
          rcases Bool.eq_false_or_eq_true (isC t 59) with he | he
          · have HE := Lib.hid (show endL t = [10] by simp [endL, he])
            have he2 : (t.toList == [59]) = true := he
            replace he := Lib.hid he
            go_wp2_with fail
            refine RG.wp_facts [fun X _ => X = .int .i64 ((m : Int) + 1), fun X _ => X = .bool true, fun X _ => X = .bool true, fun X _ => X = .slice (some ⟨b, off, none⟩) ts.length cap, fun X _ => X = .int .i64 ((m : Int) + 1), fun X _ => X = .int .i64 m, fun X _ => X = .pointer (some ⟨b, off + m * 2, none⟩), fun X _ => X = .agg #[.int .i64 kd', .string u], fun X _ => X = .agg #[.int .i64 kd, .string t], fun X _ => X = .bool false, fun X _ => X = .bool true, fun X _ => X = .bool true] (by kernel_rfl) (by kernel_rfl) ⟨RG.stable_eq _, RG.stable_eq _, RG.stable_eq _, RG.stable_eq _, RG.stable_eq _, RG.stable_eq _, RG.stable_eq _, RG.stable_eq _, RG.stable_eq _, RG.stable_eq _, RG.stable_eq _, RG.stable_eq _, trivial⟩ ?_ ?_
            · refine ⟨?_, ?_, ?_, ?_, ?_, ?_, ?_, ?_, ?_, ?_, ?_, ?_, trivial⟩
              · intro a w9 hw ho hk
                refine .inl ⟨by rfl, ?_⟩
                have t2 := ho 4 rfl
                dsimp at t2
                try with_reducible replace hw := New.undrawN hw
                try with_reducible replace hw := New.undraw hw
                obtain ⟨c, f'⟩ := hw.rules
                go_simp
                exact New.refl _
              · intro a w9 hw ho hk
                refine .inl ⟨by rfl, ?_⟩
                have t13 : a.tmps[13]?.getD undef = .int .i64 ((m : Int) + 1) := hk 0 13 (by kernel_rfl) rfl
                go_simp
                exact New.refl _
              · intro a w9 hw ho hk
                refine .inl ⟨by rfl, ?_⟩
                have t14 : a.tmps[14]?.getD undef = .bool true := hk 1 14 (by kernel_rfl) rfl
                go_simp
                exact New.refl _
              · intro a w9 hw ho hk
                have t15 : a.tmps[15]?.getD undef = .bool true := hk 2 15 (by kernel_rfl) rfl
                refine .inl ⟨by simp [Region.wanted, yielded, RG.look t15], ?_⟩
                have t2 := ho 0 rfl
                dsimp at t2
                try with_reducible replace hw := New.undrawN hw
                try with_reducible replace hw := New.undraw hw
                obtain ⟨c, f'⟩ := hw.rules
                go_simp
                exact New.refl _
              · intro a w9 hw ho hk
                have t15 : a.tmps[15]?.getD undef = .bool true := hk 2 15 (by kernel_rfl) rfl
                refine .inl ⟨by simp [Region.wanted, yielded, RG.look t15], ?_⟩
                have t2 := ho 4 rfl
                dsimp at t2
                try with_reducible replace hw := New.undrawN hw
                try with_reducible replace hw := New.undraw hw
                obtain ⟨c, f'⟩ := hw.rules
                go_simp
                exact New.refl _
              · intro a w9 hw ho hk
                have t15 : a.tmps[15]?.getD undef = .bool true := hk 2 15 (by kernel_rfl) rfl
                refine .inl ⟨by simp [Region.wanted, yielded, RG.look t15], ?_⟩
                have t17 : a.tmps[17]?.getD undef = .int .i64 ((m : Int) + 1) := hk 4 17 (by kernel_rfl) rfl
                go_simp
                exact New.refl _
              · intro a w9 hw ho hk
                have t15 : a.tmps[15]?.getD undef = .bool true := hk 2 15 (by kernel_rfl) rfl
                refine .inl ⟨by simp [Region.wanted, yielded, RG.look t15], ?_⟩
                have t16 : a.tmps[16]?.getD undef = .slice (some ⟨b, off, none⟩) ts.length cap := hk 3 16 (by kernel_rfl) rfl
                have t18 : a.tmps[18]?.getD undef = .int .i64 m := hk 5 18 (by kernel_rfl) rfl
                go_simp
                exact New.refl _
              · intro a w9 hw ho hk
                have t15 : a.tmps[15]?.getD undef = .bool true := hk 2 15 (by kernel_rfl) rfl
                refine .inl ⟨by simp [Region.wanted, yielded, RG.look t15], ?_⟩
                have t19 : a.tmps[19]?.getD undef = .pointer (some ⟨b, off + m * 2, none⟩) := hk 6 19 (by kernel_rfl) rfl
                try with_reducible replace hw := New.undrawN hw
                try with_reducible replace hw := New.undraw hw
                obtain ⟨c, f'⟩ := hw.rules
                go_simp
                exact New.refl _
              · intro a w9 hw ho hk
                have t15 : a.tmps[15]?.getD undef = .bool true := hk 2 15 (by kernel_rfl) rfl
                refine .inl ⟨by simp [Region.wanted, yielded, RG.look t15], ?_⟩
                have t2 := ho 5 rfl
                dsimp at t2
                try with_reducible replace hw := New.undrawN hw
                try with_reducible replace hw := New.undraw hw
                obtain ⟨c, f'⟩ := hw.rules
                go_simp
                exact New.refl _
              · intro a w9 hw ho hk
                have t15 : a.tmps[15]?.getD undef = .bool true := hk 2 15 (by kernel_rfl) rfl
                refine .inl ⟨by simp [Region.wanted, yielded, RG.look t15], ?_⟩
                have t20 : a.tmps[20]?.getD undef = .agg #[.int .i64 kd', .string u] := hk 7 20 (by kernel_rfl) rfl
                have t21 : a.tmps[21]?.getD undef = .agg #[.int .i64 kd, .string t] := hk 8 21 (by kernel_rfl) rfl
                go_simp
                refine (HB.out _ _ _ (HK.out.new (New.trans (by exact (by repeat (first | with_reducible exact New.refl _ | with_reducible assumption | with_reducible refine New.drew ?_ | with_reducible refine New.drewN ?_ _ | with_reducible refine New.alloc ?_ _ | with_reducible refine New.setCell ?_ (by first | (simp; done) | (simp; omega) | omega) _ | with_reducible refine New.trans ?_ (by with_reducible assumption)))) hw))).mono ?_; rintro e w2 ⟨rfl, hb⟩
                first | exact ⟨hb, _, rfl, by simp⟩ | exact ⟨hb, by simp⟩
              · intro a w9 hw ho hk
                have t15 : a.tmps[15]?.getD undef = .bool true := hk 2 15 (by kernel_rfl) rfl
                refine .inl ⟨by simp [Region.wanted, yielded, RG.look t15], ?_⟩
                have t22 : a.tmps[22]?.getD undef = .bool false := hk 9 22 (by kernel_rfl) rfl
                go_simp
                exact New.refl _
              · intro a w9 hw ho hk
                refine .inl ⟨by rfl, ?_⟩
                have t15 : a.tmps[15]?.getD undef = .bool true := hk 2 15 (by kernel_rfl) rfl
                have t23 : a.tmps[23]?.getD undef = .bool true := hk 10 23 (by kernel_rfl) rfl
                go_simp
                exact New.refl _
            intro w2 b2 x0' h0' x1' h1' x2' h2' x3' h3' x4' h4' x5' h5' x6' h6' x7' h7' x8' h8' x9' h9' x10' h10' x11' h11'
            subst h0' h1' h2' h3' h4' h5' h6' h7' h8' h9' h10' h11'
            try with_reducible replace b2 := New.undrawN b2
            try with_reducible replace b2 := New.undraw b2
            obtain ⟨c2, f2⟩ := b2.rules
            have z2 := b2.size
            try simp only [World.size_alloc, World.size_drew, World.heap_drewN, World.size_setCell] at z2
            have z2_0 : wr.heap.size < w2.heap.size := by omega
            simp only [RG.EndAll, List.nil_append, List.cons_append, List.length_cons, List.length_nil, Nat.zero_add, Nat.reduceAdd, List.take_succ_cons, List.take_zero, List.drop_succ_cons, List.drop_zero, RG.putAll, Act.put, List.setIfInBounds_toArray, List.set_cons_succ, List.set_cons_zero]
            have hbx := (Below.block b2 wr.heap.size (by simp)).trans (heap_alloc_new wr _)
            have bd2 := (hbd.new ((New.refl wr).alloc _)).new b2
            have bw2 := (hN.alloc _).trans b2
            clear hbd
            have nb : wr.heap.size ≠ w.heap.size := by omega
            have nT : (132 : TypeId) ≠ 5 := by decide
            have cb2 := cell_heap hbx (j := 1) rfl
            go_wp2_with fail
            refine (bWriteByte w.heap.size (stdK ts (m + 1)) 32 w2 bd2 (by omega)).mono ?_; rintro e w3 ⟨rfl, bd3, be3, kp3⟩
            replace hbx := kp3 _ _ _ _ nb nT hbx
            have bw3 : New w w3 := Below.trans bw2 be3
            clear cb2
            have cb3 := cell_heap hbx (j := 1) rfl
            go_wp2_with fail
            refine (bWriteString w.heap.size (stdK ts (m + 1) ++ [32]) t w3 bd3 (by first | omega | (simp; omega))).mono ?_; rintro e w4 ⟨rfl, bd4, be4, kp4⟩
            replace hbx := kp4 _ _ _ _ nb nT hbx
            have bw4 : New w w4 := Below.trans bw3 be4
            clear cb3
            have cb4 := cell_heap hbx (j := 1) rfl
            go_wp2_with fail
            refine (bWriteByte w.heap.size ((stdK ts (m + 1) ++ [32]) ++ t.data.toList) 10 w4 bd4 (by first | omega | (simp; omega))).mono ?_; rintro e w5 ⟨rfl, bd5, be5, kp5⟩
            replace hbx := kp5 _ _ _ _ nb nT hbx
            have bw5 : New w w5 := Below.trans bw4 be5
            clear cb4
            have cbz := cell_heap hbx (j := 1) rfl
            go_wp2_with fail
            go_roundw
            case rel => exact ⟨(m + 1) + 1, by omega, by go_num, by exact bw5, by rw [HP.out, HE.out, HS.out]; simpa using bd5⟩
            case measure => simp [intOf]; omega
          · have HE := Lib.hid (show endL t = [] by simp [endL, he])
            have he2 : (t.toList == [59]) = false := he
            replace he := Lib.hid he
            go_wp2_with fail
            refine RG.wp_facts [fun X _ => X = .int .i64 ((m : Int) + 1), fun X _ => X = .bool true, fun X _ => X = .bool true, fun X _ => X = .slice (some ⟨b, off, none⟩) ts.length cap, fun X _ => X = .int .i64 ((m : Int) + 1), fun X _ => X = .int .i64 m, fun X _ => X = .pointer (some ⟨b, off + m * 2, none⟩), fun X _ => X = .agg #[.int .i64 kd', .string u], fun X _ => X = .agg #[.int .i64 kd, .string t], fun X _ => X = .bool false, fun X _ => X = .bool true, fun X _ => X = .bool true] (by kernel_rfl) (by kernel_rfl) ⟨RG.stable_eq _, RG.stable_eq _, RG.stable_eq _, RG.stable_eq _, RG.stable_eq _, RG.stable_eq _, RG.stable_eq _, RG.stable_eq _, RG.stable_eq _, RG.stable_eq _, RG.stable_eq _, RG.stable_eq _, trivial⟩ ?_ ?_
            · refine ⟨?_, ?_, ?_, ?_, ?_, ?_, ?_, ?_, ?_, ?_, ?_, ?_, trivial⟩
              · intro a w9 hw ho hk
                refine .inl ⟨by rfl, ?_⟩
                have t2 := ho 4 rfl
                dsimp at t2
                try with_reducible replace hw := New.undrawN hw
                try with_reducible replace hw := New.undraw hw
                obtain ⟨c, f'⟩ := hw.rules
                go_simp
                exact New.refl _
              · intro a w9 hw ho hk
                refine .inl ⟨by rfl, ?_⟩
                have t13 : a.tmps[13]?.getD undef = .int .i64 ((m : Int) + 1) := hk 0 13 (by kernel_rfl) rfl
                go_simp
                exact New.refl _
              · intro a w9 hw ho hk
                refine .inl ⟨by rfl, ?_⟩
                have t14 : a.tmps[14]?.getD undef = .bool true := hk 1 14 (by kernel_rfl) rfl
                go_simp
                exact New.refl _
              · intro a w9 hw ho hk
                have t15 : a.tmps[15]?.getD undef = .bool true := hk 2 15 (by kernel_rfl) rfl
                refine .inl ⟨by simp [Region.wanted, yielded, RG.look t15], ?_⟩
                have t2 := ho 0 rfl
                dsimp at t2
                try with_reducible replace hw := New.undrawN hw
                try with_reducible replace hw := New.undraw hw
                obtain ⟨c, f'⟩ := hw.rules
                go_simp
                exact New.refl _
              · intro a w9 hw ho hk
                have t15 : a.tmps[15]?.getD undef = .bool true := hk 2 15 (by kernel_rfl) rfl
                refine .inl ⟨by simp [Region.wanted, yielded, RG.look t15], ?_⟩
                have t2 := ho 4 rfl
                dsimp at t2
                try with_reducible replace hw := New.undrawN hw
                try with_reducible replace hw := New.undraw hw
                obtain ⟨c, f'⟩ := hw.rules
                go_simp
                exact New.refl _
              · intro a w9 hw ho hk
                have t15 : a.tmps[15]?.getD undef = .bool true := hk 2 15 (by kernel_rfl) rfl
                refine .inl ⟨by simp [Region.wanted, yielded, RG.look t15], ?_⟩
                have t17 : a.tmps[17]?.getD undef = .int .i64 ((m : Int) + 1) := hk 4 17 (by kernel_rfl) rfl
                go_simp
                exact New.refl _
              · intro a w9 hw ho hk
                have t15 : a.tmps[15]?.getD undef = .bool true := hk 2 15 (by kernel_rfl) rfl
                refine .inl ⟨by simp [Region.wanted, yielded, RG.look t15], ?_⟩
                have t16 : a.tmps[16]?.getD undef = .slice (some ⟨b, off, none⟩) ts.length cap := hk 3 16 (by kernel_rfl) rfl
                have t18 : a.tmps[18]?.getD undef = .int .i64 m := hk 5 18 (by kernel_rfl) rfl
                go_simp
                exact New.refl _
              · intro a w9 hw ho hk
                have t15 : a.tmps[15]?.getD undef = .bool true := hk 2 15 (by kernel_rfl) rfl
                refine .inl ⟨by simp [Region.wanted, yielded, RG.look t15], ?_⟩
                have t19 : a.tmps[19]?.getD undef = .pointer (some ⟨b, off + m * 2, none⟩) := hk 6 19 (by kernel_rfl) rfl
                try with_reducible replace hw := New.undrawN hw
                try with_reducible replace hw := New.undraw hw
                obtain ⟨c, f'⟩ := hw.rules
                go_simp
                exact New.refl _
              · intro a w9 hw ho hk
                have t15 : a.tmps[15]?.getD undef = .bool true := hk 2 15 (by kernel_rfl) rfl
                refine .inl ⟨by simp [Region.wanted, yielded, RG.look t15], ?_⟩
                have t2 := ho 5 rfl
                dsimp at t2
                try with_reducible replace hw := New.undrawN hw
                try with_reducible replace hw := New.undraw hw
                obtain ⟨c, f'⟩ := hw.rules
                go_simp
                exact New.refl _
              · intro a w9 hw ho hk
                have t15 : a.tmps[15]?.getD undef = .bool true := hk 2 15 (by kernel_rfl) rfl
                refine .inl ⟨by simp [Region.wanted, yielded, RG.look t15], ?_⟩
                have t20 : a.tmps[20]?.getD undef = .agg #[.int .i64 kd', .string u] := hk 7 20 (by kernel_rfl) rfl
                have t21 : a.tmps[21]?.getD undef = .agg #[.int .i64 kd, .string t] := hk 8 21 (by kernel_rfl) rfl
                go_simp
                refine (HB.out _ _ _ (HK.out.new (New.trans (by exact (by repeat (first | with_reducible exact New.refl _ | with_reducible assumption | with_reducible refine New.drew ?_ | with_reducible refine New.drewN ?_ _ | with_reducible refine New.alloc ?_ _ | with_reducible refine New.setCell ?_ (by first | (simp; done) | (simp; omega) | omega) _ | with_reducible refine New.trans ?_ (by with_reducible assumption)))) hw))).mono ?_; rintro e w2 ⟨rfl, hb⟩
                first | exact ⟨hb, _, rfl, by simp⟩ | exact ⟨hb, by simp⟩
              · intro a w9 hw ho hk
                have t15 : a.tmps[15]?.getD undef = .bool true := hk 2 15 (by kernel_rfl) rfl
                refine .inl ⟨by simp [Region.wanted, yielded, RG.look t15], ?_⟩
                have t22 : a.tmps[22]?.getD undef = .bool false := hk 9 22 (by kernel_rfl) rfl
                go_simp
                exact New.refl _
              · intro a w9 hw ho hk
                refine .inl ⟨by rfl, ?_⟩
                have t15 : a.tmps[15]?.getD undef = .bool true := hk 2 15 (by kernel_rfl) rfl
                have t23 : a.tmps[23]?.getD undef = .bool true := hk 10 23 (by kernel_rfl) rfl
                go_simp
                exact New.refl _
            intro w2 b2 x0' h0' x1' h1' x2' h2' x3' h3' x4' h4' x5' h5' x6' h6' x7' h7' x8' h8' x9' h9' x10' h10' x11' h11'
            subst h0' h1' h2' h3' h4' h5' h6' h7' h8' h9' h10' h11'
            try with_reducible replace b2 := New.undrawN b2
            try with_reducible replace b2 := New.undraw b2
            obtain ⟨c2, f2⟩ := b2.rules
            have z2 := b2.size
            try simp only [World.size_alloc, World.size_drew, World.heap_drewN, World.size_setCell] at z2
            have z2_0 : wr.heap.size < w2.heap.size := by omega
            simp only [RG.EndAll, List.nil_append, List.cons_append, List.length_cons, List.length_nil, Nat.zero_add, Nat.reduceAdd, List.take_succ_cons, List.take_zero, List.drop_succ_cons, List.drop_zero, RG.putAll, Act.put, List.setIfInBounds_toArray, List.set_cons_succ, List.set_cons_zero]
            have hbx := (Below.block b2 wr.heap.size (by simp)).trans (heap_alloc_new wr _)
            have bd2 := (hbd.new ((New.refl wr).alloc _)).new b2
            have bw2 := (hN.alloc _).trans b2
            clear hbd
            have nb : wr.heap.size ≠ w.heap.size := by omega
            have nT : (132 : TypeId) ≠ 5 := by decide
            have cb2 := cell_heap hbx (j := 1) rfl
            go_wp2_with fail
            refine (bWriteByte w.heap.size (stdK ts (m + 1)) 32 w2 bd2 (by omega)).mono ?_; rintro e w3 ⟨rfl, bd3, be3, kp3⟩
            replace hbx := kp3 _ _ _ _ nb nT hbx
            have bw3 : New w w3 := Below.trans bw2 be3
            clear cb2
            have cb3 := cell_heap hbx (j := 1) rfl
            go_wp2_with fail
            refine (bWriteString w.heap.size (stdK ts (m + 1) ++ [32]) t w3 bd3 (by first | omega | (simp; omega))).mono ?_; rintro e w4 ⟨rfl, bd4, be4, kp4⟩
            replace hbx := kp4 _ _ _ _ nb nT hbx
            have bw4 : New w w4 := Below.trans bw3 be4
            clear cb3
            have cbz := cell_heap hbx (j := 1) rfl
            go_wp2_with fail
            go_roundw
            case rel => exact ⟨(m + 1) + 1, by omega, by go_num, by exact bw4, by rw [HP.out, HE.out, HS.out]; simpa using bd4⟩
            case measure => simp [intOf]; omega
    · obtain rfl : k = ts.length := by omega
      go_wp2_with fail
      refine (bString w.heap.size _ _ hbd).mono ?_; rintro e w4 ⟨rfl, be4⟩
      have bw4 : New w w4 := Below.trans hN be4
      go_wp2_with fail
      go_ret
      exact ⟨rfl, bw4⟩
theorem iText_any (v : Value) (ts : List EToken) (w : World) (hv : Rd w v ts.length (ts.flatMap encToken)) (hf : ∀ x ∈ ts, fitToken x) (hl : ts.length ≤ 800) (hk : KW w) :
    Calls Tryz.prog 58 #[v] w fun e w' => e = .returned (.string (strL (stdK ts ts.length))) ∧ New w w' :=
  iTextL_any v ts w hv hf (by omega) (fun k hk => by have := stdK_len hf k hk; omega) hk
end Go.Proofs.YteielmihlfakgaaGreatDoor
