/- Without faults both channels report exactly the blocks that are used, and with faults channels differ only in blocks with a fault, for every code. No condition. -/
import Derived.Test.YtinlichcbjpeaaaRows
import Derived.Test.YtinlichcbjpeaaaLawBase
import Derived.Test.YtinlichcbjpeaaaFacts
import Derived.Test.YtinlichcbjpeaaaOpenCodeB
import Derived.Test.YtinlichcbjpeaaaDraw11
import Derived.Test.YtinlichcbjpeaaaReportP
import Derived.Test.YtinlichcbjpeaaaTol
import Derived.Test.YtinlichcbjpeaaaRegionG
namespace Go.Proofs.Ytinlichcbjpeaaa
open Go Go.Proofs Go.RowKit Go.ChangeShapes Go.WideShapes Go.ChangeAt
set_option linter.unusedVariables false
set_option linter.unusedSimpArgs false
set_option maxRecDepth 100000
set_option maxHeartbeats 4000000 in
theorem fnReports_any (v : Value) (bs : List Int) (w : World) (hv : Rd w v bs.length (bs.map (Value.int .u8))) (hb : ∀ c ∈ bs, 0 ≤ c ∧ c ≤ 255) :
    Calls Try.prog 10 #[v] w fun e w' => e = .returned (.bool true) ∧ New w w' := by
  have HV := Lib.hid hv
  have HB := Lib.hid hb
  clear hv hb
  by_cases hl : (4096 : Int) < (bs.length : Int)
  · go_enter Try.func10, Try.ntmps10
    go_wp2_with fail
    refine (big_any v bs.length _ _ HV.out).mono ?_; rintro e w1 ⟨rfl, rfl⟩
    go_wp2_with fail
    go_ret
    exact ⟨rfl, New.refl _⟩
  · have hl' : bs.length ≤ 4096 := by omega
    have HL := Lib.hid hl'; clear hl'
    go_enter Try.func10, Try.ntmps10
    go_wp2_with fail
    refine (big_any v bs.length _ _ HV.out).mono ?_; rintro e w1 ⟨rfl, rfl⟩
    go_wp2_with fail
    refine (drawReportOf_any v bs _ HV.out HL.out HB.out).mono ?_; rintro e w1 ⟨n, s, fv, ps, fs, rfl, hps, hfl, hfs, b1⟩
    obtain ⟨sa, sc, rfl, hm, _⟩ := id hps; replace hps := Lib.hid hps; replace hfs := Lib.hid hfs
    obtain ⟨c1, f1⟩ := b1.rules
    have z1 := b1.size
    try simp only [World.size_alloc, World.size_drew, World.heap_drewN, World.size_setCell] at z1
    go_wp2_with fail
    have HI := Lib.hid (fun (w0 : World) (h : RdI w0 (.slice sa ps.length sc) ps) (k : Rd w0 fv fs.length (fs.flatMap encSensorFault)) => iReportOf_any n (.slice sa ps.length sc) fv ps fs w0 h k)
    have HS := Lib.hid (fun (w0 : World) (h : RdI w0 (.slice sa ps.length sc) ps) (k : Rd w0 fv fs.length (fs.flatMap encSensorFault)) => sReportOf_any n (.slice sa ps.length sc) fv ps fs w0 h k)
    obtain ⟨R, hR⟩ : ∃ R, repR n ps fs = R := ⟨_, rfl⟩
    rw [hR] at HI HS
    replace hR := Lib.hid hR
    obtain ⟨⟨F0, F1⟩, C⟩ := R
    refine (HI.out _ (hps.out.new (by repeat (first | with_reducible exact New.refl _ | with_reducible assumption | with_reducible refine New.drew ?_ | with_reducible refine New.drewN ?_ _ | with_reducible refine New.alloc ?_ _ | with_reducible refine New.setCell ?_ (by first | (simp; done) | (simp; omega) | omega) _ | with_reducible refine New.trans ?_ (by with_reducible assumption)))) (hfs.out.new (by repeat (first | with_reducible exact New.refl _ | with_reducible assumption | with_reducible refine New.drew ?_ | with_reducible refine New.drewN ?_ _ | with_reducible refine New.alloc ?_ _ | with_reducible refine New.setCell ?_ (by first | (simp; done) | (simp; omega) | omega) _ | with_reducible refine New.trans ?_ (by with_reducible assumption))))).mono ?_; rintro e w2 ⟨ua, uc, va, vc, rfl, b2, o2u, B2, hBB2, hB2, o2v⟩
    dsimp only at o2u hB2 o2v; replace o2u := Lib.hid o2u; replace o2v := Lib.hid o2v
    obtain ⟨c2, f2⟩ := b2.rules
    have z2 := b2.size
    try simp only [World.size_alloc, World.size_drew, World.heap_drewN, World.size_setCell] at z2
    have z2_0 : w1.heap.size < w2.heap.size := by omega
    go_wp2_with fail
    refine (HS.out _ (hps.out.new (by repeat (first | with_reducible exact New.refl _ | with_reducible assumption | with_reducible refine New.drew ?_ | with_reducible refine New.drewN ?_ _ | with_reducible refine New.alloc ?_ _ | with_reducible refine New.setCell ?_ (by first | (simp; done) | (simp; omega) | omega) _ | with_reducible refine New.trans ?_ (by with_reducible assumption)))) (hfs.out.new (by repeat (first | with_reducible exact New.refl _ | with_reducible assumption | with_reducible refine New.drew ?_ | with_reducible refine New.drewN ?_ _ | with_reducible refine New.alloc ?_ _ | with_reducible refine New.setCell ?_ (by first | (simp; done) | (simp; omega) | omega) _ | with_reducible refine New.trans ?_ (by with_reducible assumption))))).mono ?_; rintro e w3 ⟨u3, v3, rfl, b3, o3u, o3v⟩
    dsimp only at o3u o3v; obtain ⟨a3, c3a, rfl⟩ := own_slice o3u; obtain ⟨a3', c3b, rfl⟩ := own_slice o3v; replace o3u := Lib.hid o3u; replace o3v := Lib.hid o3v
    obtain ⟨c3, f3⟩ := b3.rules
    have z3 := b3.size
    try simp only [World.size_alloc, World.size_drew, World.heap_drewN, World.size_setCell] at z3
    have z3_0 : w1.heap.size < w3.heap.size := by omega
    have z3_1 : w2.heap.size < w3.heap.size := by omega
    go_wp2_with fail
    have kx0 : w3.cell? ⟨w1.heap.size, 0, none⟩ = some (.int .i64 n) := by rw [c3 _ _ (by simp; omega), cell_alloc_old _ _ _ _ (by omega), c2 _ _ (by simp)]; simp
    have kx1 : w3.cell? ⟨w1.heap.size, 1, none⟩ = some (.slice sa ps.length sc) := by rw [c3 _ _ (by simp; omega), cell_alloc_old _ _ _ _ (by omega), c2 _ _ (by simp)]; simp
    have kr0 : w3.cell? ⟨w2.heap.size, 0, none⟩ = some (.slice ua F0.length uc) := by rw [c3 _ _ (by simp)]; simp
    have kr1 : w3.cell? ⟨w2.heap.size, 1, none⟩ = some (.slice va F1.length vc) := by rw [c3 _ _ (by simp)]; simp
    clear c1 c2 c3 f1 f2 f3
    have hCC : (C != C) = false := by simp
    have hFF : (areFaultsL n fs != areFaultsL n fs) = false := by simp
    have hTT : (areTolL n fs != areTolL n fs) = false := by simp
    have hm1 : fs.length ≤ 1048576 := by omega
    refine RG.wp_facts [fun X _ => X = .int .i64 C, fun X _ => X = .int .i64 C, fun X _ => X = .bool false, fun X _ => X = .bool false, fun X _ => X = .agg #[.slice ua F0.length uc, .slice va F1.length vc], fun X _ => X = .agg #[.slice a3 F0.length c3a, .slice a3' F1.length c3b], fun X _ => X = .bool true, fun X _ => X = .bool false, fun X _ => X = .bool false, fun X _ => X = .bool false, fun X _ => X = .pointer (some ⟨w1.heap.size, 0, none⟩), fun X _ => X = .int .i64 n, fun X _ => X = fv, fun X _ => X = .bool (areFaultsL n fs), fun X _ => X = .pointer (some ⟨w1.heap.size, 0, none⟩), fun X _ => X = .int .i64 n, fun X _ => X = fv, fun X _ => X = .bool (areFaultsL n fs), fun X _ => X = .bool false, fun X _ => X = .bool false, fun X _ => X = .bool false, fun X _ => X = .pointer (some ⟨w1.heap.size, 0, none⟩), fun X _ => X = .int .i64 n, fun X _ => X = fv, fun X _ => X = .bool (areTolL n fs), fun X _ => X = .pointer (some ⟨w1.heap.size, 0, none⟩), fun X _ => X = .int .i64 n, fun X _ => X = fv, fun X _ => X = .bool (areTolL n fs), fun X _ => X = .bool false, fun X _ => X = .bool false] (by kernel_rfl) (by kernel_rfl) ⟨RG.stable_eq _, RG.stable_eq _, RG.stable_eq _, RG.stable_eq _, RG.stable_eq _, RG.stable_eq _, RG.stable_eq _, RG.stable_eq _, RG.stable_eq _, RG.stable_eq _, RG.stable_eq _, RG.stable_eq _, RG.stable_eq _, RG.stable_eq _, RG.stable_eq _, RG.stable_eq _, RG.stable_eq _, RG.stable_eq _, RG.stable_eq _, RG.stable_eq _, RG.stable_eq _, RG.stable_eq _, RG.stable_eq _, RG.stable_eq _, RG.stable_eq _, RG.stable_eq _, RG.stable_eq _, RG.stable_eq _, RG.stable_eq _, RG.stable_eq _, RG.stable_eq _, trivial⟩ ?_ ?_
    · refine ⟨?_, ?_, ?_, ?_, ?_, ?_, ?_, ?_, ?_, ?_, ?_, ?_, ?_, ?_, ?_, ?_, ?_, ?_, ?_, ?_, ?_, ?_, ?_, ?_, ?_, ?_, ?_, ?_, ?_, ?_, ?_, trivial⟩
      · intro a w9 hw ho hk
        refine .inl ⟨by rfl, ?_⟩
        have t2 := ho 6 rfl
        dsimp at t2
        try with_reducible replace hw := New.undrawN hw
        try with_reducible replace hw := New.undraw hw
        obtain ⟨c, f'⟩ := hw.rules
        go_simp
        exact New.refl _
      · intro a w9 hw ho hk
        refine .inl ⟨by rfl, ?_⟩
        have t2 := ho 8 rfl
        dsimp at t2
        try with_reducible replace hw := New.undrawN hw
        try with_reducible replace hw := New.undraw hw
        obtain ⟨c, f'⟩ := hw.rules
        go_simp
        exact New.refl _
      · intro a w9 hw ho hk
        refine .inl ⟨by rfl, ?_⟩
        have t42 : a.tmps[42]?.getD undef = .int .i64 C := hk 0 42 (by kernel_rfl) rfl
        have t43 : a.tmps[43]?.getD undef = .int .i64 C := hk 1 43 (by kernel_rfl) rfl
        go_simp
        exact New.refl _
      · intro a w9 hw ho hk
        refine .inl ⟨by rfl, ?_⟩
        have t44 : a.tmps[44]?.getD undef = .bool false := hk 2 44 (by kernel_rfl) rfl
        go_simp
        exact New.refl _
      · intro a w9 hw ho hk
        have t45 : a.tmps[45]?.getD undef = .bool false := hk 3 45 (by kernel_rfl) rfl
        refine .inl ⟨by simp [Region.wanted, yielded, RG.look t45], ?_⟩
        have t2 := ho 5 rfl
        dsimp at t2
        try with_reducible replace hw := New.undrawN hw
        try with_reducible replace hw := New.undraw hw
        obtain ⟨c, f'⟩ := hw.rules
        go_simp
        exact New.refl _
      · intro a w9 hw ho hk
        have t45 : a.tmps[45]?.getD undef = .bool false := hk 3 45 (by kernel_rfl) rfl
        refine .inl ⟨by simp [Region.wanted, yielded, RG.look t45], ?_⟩
        have t2 := ho 7 rfl
        dsimp at t2
        try with_reducible replace hw := New.undrawN hw
        try with_reducible replace hw := New.undraw hw
        obtain ⟨c, f'⟩ := hw.rules
        go_simp
        exact New.refl _
      · intro a w9 hw ho hk
        have t45 : a.tmps[45]?.getD undef = .bool false := hk 3 45 (by kernel_rfl) rfl
        refine .inl ⟨by simp [Region.wanted, yielded, RG.look t45], ?_⟩
        have t46 : a.tmps[46]?.getD undef = .agg #[.slice ua F0.length uc, .slice va F1.length vc] := hk 4 46 (by kernel_rfl) rfl
        have t47 : a.tmps[47]?.getD undef = .agg #[.slice a3 F0.length c3a, .slice a3' F1.length c3b] := hk 5 47 (by kernel_rfl) rfl
        go_simp
        refine (likeReports_eq _ _ _ _ F0 F1 _ (RdI.new (own_rd o2u.out) (by repeat (first | with_reducible exact New.refl _ | with_reducible assumption | with_reducible refine New.drew ?_ | with_reducible refine New.drewN ?_ _ | with_reducible refine New.alloc ?_ _ | with_reducible refine New.setCell ?_ (by first | (simp; done) | (simp; omega) | omega) _ | with_reducible refine New.trans ?_ (by with_reducible assumption)))) (RdI.new (own_rd o2v.out) (by repeat (first | with_reducible exact New.refl _ | with_reducible assumption | with_reducible refine New.drew ?_ | with_reducible refine New.drewN ?_ _ | with_reducible refine New.alloc ?_ _ | with_reducible refine New.setCell ?_ (by first | (simp; done) | (simp; omega) | omega) _ | with_reducible refine New.trans ?_ (by with_reducible assumption)))) (RdI.new (own_rd o3u.out) (by repeat (first | with_reducible exact New.refl _ | with_reducible assumption | with_reducible refine New.drew ?_ | with_reducible refine New.drewN ?_ _ | with_reducible refine New.alloc ?_ _ | with_reducible refine New.setCell ?_ (by first | (simp; done) | (simp; omega) | omega) _ | with_reducible refine New.trans ?_ (by with_reducible assumption)))) (RdI.new (own_rd o3v.out) (by repeat (first | with_reducible exact New.refl _ | with_reducible assumption | with_reducible refine New.drew ?_ | with_reducible refine New.drewN ?_ _ | with_reducible refine New.alloc ?_ _ | with_reducible refine New.setCell ?_ (by first | (simp; done) | (simp; omega) | omega) _ | with_reducible refine New.trans ?_ (by with_reducible assumption))))).mono ?_; rintro e w2 ⟨rfl, hb⟩
        first | exact ⟨hb, _, rfl, by simp⟩ | exact ⟨hb, by simp⟩
      · intro a w9 hw ho hk
        have t45 : a.tmps[45]?.getD undef = .bool false := hk 3 45 (by kernel_rfl) rfl
        refine .inl ⟨by simp [Region.wanted, yielded, RG.look t45], ?_⟩
        have t48 : a.tmps[48]?.getD undef = .bool true := hk 6 48 (by kernel_rfl) rfl
        go_simp
        exact New.refl _
      · intro a w9 hw ho hk
        refine .inl ⟨by rfl, ?_⟩
        have t45 : a.tmps[45]?.getD undef = .bool false := hk 3 45 (by kernel_rfl) rfl
        have t49 : a.tmps[49]?.getD undef = .bool false := hk 7 49 (by kernel_rfl) rfl
        go_simp
        exact New.refl _
      · intro a w9 hw ho hk
        refine .inl ⟨by rfl, ?_⟩
        have t50 : a.tmps[50]?.getD undef = .bool false := hk 8 50 (by kernel_rfl) rfl
        go_simp
        exact New.refl _
      · intro a w9 hw ho hk
        have t51 : a.tmps[51]?.getD undef = .bool false := hk 9 51 (by kernel_rfl) rfl
        refine .inl ⟨by simp [Region.wanted, yielded, RG.look t51], ?_⟩
        have t2 := ho 3 rfl
        dsimp at t2
        try with_reducible replace hw := New.undrawN hw
        try with_reducible replace hw := New.undraw hw
        obtain ⟨c, f'⟩ := hw.rules
        go_simp
        exact New.refl _
      · intro a w9 hw ho hk
        have t51 : a.tmps[51]?.getD undef = .bool false := hk 9 51 (by kernel_rfl) rfl
        refine .inl ⟨by simp [Region.wanted, yielded, RG.look t51], ?_⟩
        have t52 : a.tmps[52]?.getD undef = .pointer (some ⟨w1.heap.size, 0, none⟩) := hk 10 52 (by kernel_rfl) rfl
        try with_reducible replace hw := New.undrawN hw
        try with_reducible replace hw := New.undraw hw
        obtain ⟨c, f'⟩ := hw.rules
        go_simp
        exact New.refl _
      · intro a w9 hw ho hk
        have t51 : a.tmps[51]?.getD undef = .bool false := hk 9 51 (by kernel_rfl) rfl
        refine .inl ⟨by simp [Region.wanted, yielded, RG.look t51], ?_⟩
        have t2 := ho 4 rfl
        dsimp at t2
        try with_reducible replace hw := New.undrawN hw
        try with_reducible replace hw := New.undraw hw
        obtain ⟨c, f'⟩ := hw.rules
        go_simp
        exact New.refl _
      · intro a w9 hw ho hk
        have t51 : a.tmps[51]?.getD undef = .bool false := hk 9 51 (by kernel_rfl) rfl
        refine .inl ⟨by simp [Region.wanted, yielded, RG.look t51], ?_⟩
        have t53 : a.tmps[53]?.getD undef = .int .i64 n := hk 11 53 (by kernel_rfl) rfl
        have t54 : a.tmps[54]?.getD undef = fv := hk 12 54 (by kernel_rfl) rfl
        go_simp
        refine (iAreFaults_any n fv fs _ (hfs.out.new (by repeat (first | with_reducible exact New.refl _ | with_reducible assumption | with_reducible refine New.drew ?_ | with_reducible refine New.drewN ?_ _ | with_reducible refine New.alloc ?_ _ | with_reducible refine New.setCell ?_ (by first | (simp; done) | (simp; omega) | omega) _ | with_reducible refine New.trans ?_ (by with_reducible assumption))))).mono ?_; rintro e w2 ⟨rfl, hb⟩
        first | exact ⟨hb, _, rfl, by simp⟩ | exact ⟨hb, by simp⟩
      · intro a w9 hw ho hk
        have t51 : a.tmps[51]?.getD undef = .bool false := hk 9 51 (by kernel_rfl) rfl
        refine .inl ⟨by simp [Region.wanted, yielded, RG.look t51], ?_⟩
        have t2 := ho 3 rfl
        dsimp at t2
        try with_reducible replace hw := New.undrawN hw
        try with_reducible replace hw := New.undraw hw
        obtain ⟨c, f'⟩ := hw.rules
        go_simp
        exact New.refl _
      · intro a w9 hw ho hk
        have t51 : a.tmps[51]?.getD undef = .bool false := hk 9 51 (by kernel_rfl) rfl
        refine .inl ⟨by simp [Region.wanted, yielded, RG.look t51], ?_⟩
        have t56 : a.tmps[56]?.getD undef = .pointer (some ⟨w1.heap.size, 0, none⟩) := hk 14 56 (by kernel_rfl) rfl
        try with_reducible replace hw := New.undrawN hw
        try with_reducible replace hw := New.undraw hw
        obtain ⟨c, f'⟩ := hw.rules
        go_simp
        exact New.refl _
      · intro a w9 hw ho hk
        have t51 : a.tmps[51]?.getD undef = .bool false := hk 9 51 (by kernel_rfl) rfl
        refine .inl ⟨by simp [Region.wanted, yielded, RG.look t51], ?_⟩
        have t2 := ho 4 rfl
        dsimp at t2
        try with_reducible replace hw := New.undrawN hw
        try with_reducible replace hw := New.undraw hw
        obtain ⟨c, f'⟩ := hw.rules
        go_simp
        exact New.refl _
      · intro a w9 hw ho hk
        have t51 : a.tmps[51]?.getD undef = .bool false := hk 9 51 (by kernel_rfl) rfl
        refine .inl ⟨by simp [Region.wanted, yielded, RG.look t51], ?_⟩
        have t57 : a.tmps[57]?.getD undef = .int .i64 n := hk 15 57 (by kernel_rfl) rfl
        have t58 : a.tmps[58]?.getD undef = fv := hk 16 58 (by kernel_rfl) rfl
        go_simp
        refine (sAreFaults_any n fv fs _ (hfs.out.new (by repeat (first | with_reducible exact New.refl _ | with_reducible assumption | with_reducible refine New.drew ?_ | with_reducible refine New.drewN ?_ _ | with_reducible refine New.alloc ?_ _ | with_reducible refine New.setCell ?_ (by first | (simp; done) | (simp; omega) | omega) _ | with_reducible refine New.trans ?_ (by with_reducible assumption))))).mono ?_; rintro e w2 ⟨rfl, hb⟩
        first | exact ⟨hb, _, rfl, by simp⟩ | exact ⟨hb, by simp⟩
      · intro a w9 hw ho hk
        have t51 : a.tmps[51]?.getD undef = .bool false := hk 9 51 (by kernel_rfl) rfl
        refine .inl ⟨by simp [Region.wanted, yielded, RG.look t51], ?_⟩
        have t55 : a.tmps[55]?.getD undef = .bool (areFaultsL n fs) := hk 13 55 (by kernel_rfl) rfl
        have t59 : a.tmps[59]?.getD undef = .bool (areFaultsL n fs) := hk 17 59 (by kernel_rfl) rfl
        go_simp
        exact New.refl _
      · intro a w9 hw ho hk
        refine .inl ⟨by rfl, ?_⟩
        have t51 : a.tmps[51]?.getD undef = .bool false := hk 9 51 (by kernel_rfl) rfl
        have t60 : a.tmps[60]?.getD undef = .bool false := hk 18 60 (by kernel_rfl) rfl
        go_simp
        exact New.refl _
      · intro a w9 hw ho hk
        refine .inl ⟨by rfl, ?_⟩
        have t61 : a.tmps[61]?.getD undef = .bool false := hk 19 61 (by kernel_rfl) rfl
        go_simp
        exact New.refl _
      · intro a w9 hw ho hk
        have t62 : a.tmps[62]?.getD undef = .bool false := hk 20 62 (by kernel_rfl) rfl
        refine .inl ⟨by simp [Region.wanted, yielded, RG.look t62], ?_⟩
        have t2 := ho 3 rfl
        dsimp at t2
        try with_reducible replace hw := New.undrawN hw
        try with_reducible replace hw := New.undraw hw
        obtain ⟨c, f'⟩ := hw.rules
        go_simp
        exact New.refl _
      · intro a w9 hw ho hk
        have t62 : a.tmps[62]?.getD undef = .bool false := hk 20 62 (by kernel_rfl) rfl
        refine .inl ⟨by simp [Region.wanted, yielded, RG.look t62], ?_⟩
        have t63 : a.tmps[63]?.getD undef = .pointer (some ⟨w1.heap.size, 0, none⟩) := hk 21 63 (by kernel_rfl) rfl
        try with_reducible replace hw := New.undrawN hw
        try with_reducible replace hw := New.undraw hw
        obtain ⟨c, f'⟩ := hw.rules
        go_simp
        exact New.refl _
      · intro a w9 hw ho hk
        have t62 : a.tmps[62]?.getD undef = .bool false := hk 20 62 (by kernel_rfl) rfl
        refine .inl ⟨by simp [Region.wanted, yielded, RG.look t62], ?_⟩
        have t2 := ho 4 rfl
        dsimp at t2
        try with_reducible replace hw := New.undrawN hw
        try with_reducible replace hw := New.undraw hw
        obtain ⟨c, f'⟩ := hw.rules
        go_simp
        exact New.refl _
      · intro a w9 hw ho hk
        have t62 : a.tmps[62]?.getD undef = .bool false := hk 20 62 (by kernel_rfl) rfl
        refine .inl ⟨by simp [Region.wanted, yielded, RG.look t62], ?_⟩
        have t64 : a.tmps[64]?.getD undef = .int .i64 n := hk 22 64 (by kernel_rfl) rfl
        have t65 : a.tmps[65]?.getD undef = fv := hk 23 65 (by kernel_rfl) rfl
        go_simp
        refine (iAreTolerated_any n fv fs _ (hfs.out.new (by repeat (first | with_reducible exact New.refl _ | with_reducible assumption | with_reducible refine New.drew ?_ | with_reducible refine New.drewN ?_ _ | with_reducible refine New.alloc ?_ _ | with_reducible refine New.setCell ?_ (by first | (simp; done) | (simp; omega) | omega) _ | with_reducible refine New.trans ?_ (by with_reducible assumption)))) hm1).mono ?_; rintro e w2 ⟨rfl, hb⟩
        first | exact ⟨hb, _, rfl, by simp⟩ | exact ⟨hb, by simp⟩
      · intro a w9 hw ho hk
        have t62 : a.tmps[62]?.getD undef = .bool false := hk 20 62 (by kernel_rfl) rfl
        refine .inl ⟨by simp [Region.wanted, yielded, RG.look t62], ?_⟩
        have t2 := ho 3 rfl
        dsimp at t2
        try with_reducible replace hw := New.undrawN hw
        try with_reducible replace hw := New.undraw hw
        obtain ⟨c, f'⟩ := hw.rules
        go_simp
        exact New.refl _
      · intro a w9 hw ho hk
        have t62 : a.tmps[62]?.getD undef = .bool false := hk 20 62 (by kernel_rfl) rfl
        refine .inl ⟨by simp [Region.wanted, yielded, RG.look t62], ?_⟩
        have t67 : a.tmps[67]?.getD undef = .pointer (some ⟨w1.heap.size, 0, none⟩) := hk 25 67 (by kernel_rfl) rfl
        try with_reducible replace hw := New.undrawN hw
        try with_reducible replace hw := New.undraw hw
        obtain ⟨c, f'⟩ := hw.rules
        go_simp
        exact New.refl _
      · intro a w9 hw ho hk
        have t62 : a.tmps[62]?.getD undef = .bool false := hk 20 62 (by kernel_rfl) rfl
        refine .inl ⟨by simp [Region.wanted, yielded, RG.look t62], ?_⟩
        have t2 := ho 4 rfl
        dsimp at t2
        try with_reducible replace hw := New.undrawN hw
        try with_reducible replace hw := New.undraw hw
        obtain ⟨c, f'⟩ := hw.rules
        go_simp
        exact New.refl _
      · intro a w9 hw ho hk
        have t62 : a.tmps[62]?.getD undef = .bool false := hk 20 62 (by kernel_rfl) rfl
        refine .inl ⟨by simp [Region.wanted, yielded, RG.look t62], ?_⟩
        have t68 : a.tmps[68]?.getD undef = .int .i64 n := hk 26 68 (by kernel_rfl) rfl
        have t69 : a.tmps[69]?.getD undef = fv := hk 27 69 (by kernel_rfl) rfl
        go_simp
        refine (sAreTolerated_any n fv fs _ (hfs.out.new (by repeat (first | with_reducible exact New.refl _ | with_reducible assumption | with_reducible refine New.drew ?_ | with_reducible refine New.drewN ?_ _ | with_reducible refine New.alloc ?_ _ | with_reducible refine New.setCell ?_ (by first | (simp; done) | (simp; omega) | omega) _ | with_reducible refine New.trans ?_ (by with_reducible assumption))))).mono ?_; rintro e w2 ⟨rfl, hb⟩
        first | exact ⟨hb, _, rfl, by simp⟩ | exact ⟨hb, by simp⟩
      · intro a w9 hw ho hk
        have t62 : a.tmps[62]?.getD undef = .bool false := hk 20 62 (by kernel_rfl) rfl
        refine .inl ⟨by simp [Region.wanted, yielded, RG.look t62], ?_⟩
        have t66 : a.tmps[66]?.getD undef = .bool (areTolL n fs) := hk 24 66 (by kernel_rfl) rfl
        have t70 : a.tmps[70]?.getD undef = .bool (areTolL n fs) := hk 28 70 (by kernel_rfl) rfl
        go_simp
        exact New.refl _
      · intro a w9 hw ho hk
        refine .inl ⟨by rfl, ?_⟩
        have t62 : a.tmps[62]?.getD undef = .bool false := hk 20 62 (by kernel_rfl) rfl
        have t71 : a.tmps[71]?.getD undef = .bool false := hk 29 71 (by kernel_rfl) rfl
        go_simp
        exact New.refl _
    intro w4 b4 y0 g0 y1 g1 y2 g2 y3 g3 y4 g4 y5 g5 y6 g6 y7 g7 y8 g8 y9 g9 y10 g10 y11 g11 y12 g12 y13 g13 y14 g14 y15 g15 y16 g16 y17 g17 y18 g18 y19 g19 y20 g20 y21 g21 y22 g22 y23 g23 y24 g24 y25 g25 y26 g26 y27 g27 y28 g28 y29 g29 y30 g30
    subst g0 g1 g2 g3 g4 g5 g6 g7 g8 g9 g10 g11 g12 g13 g14 g15 g16 g17 g18 g19 g20 g21 g22 g23 g24 g25 g26 g27 g28 g29 g30
    try with_reducible replace b4 := New.undrawN b4
    try with_reducible replace b4 := New.undraw b4
    obtain ⟨c4, f4⟩ := b4.rules
    have z4 := b4.size
    try simp only [World.size_alloc, World.size_drew, World.heap_drewN, World.size_setCell] at z4
    have z4_0 : w1.heap.size < w4.heap.size := by omega
    have z4_1 : w2.heap.size < w4.heap.size := by omega
    have z4_2 : w3.heap.size < w4.heap.size := by omega
    simp only [RG.EndAll, List.nil_append, List.cons_append, List.length_cons, List.length_nil, Nat.zero_add, Nat.reduceAdd, List.take_succ_cons, List.take_zero, List.drop_succ_cons, List.drop_zero, RG.putAll, Act.put, List.setIfInBounds_toArray, List.set_cons_succ, List.set_cons_zero]
    go_wp2_with fail
    · go_ret
      exact ⟨rfl, (by repeat (first | with_reducible exact New.refl _ | with_reducible assumption | with_reducible refine New.drew ?_ | with_reducible refine New.drewN ?_ _ | with_reducible refine New.alloc ?_ _ | with_reducible refine New.setCell ?_ (by first | (simp; done) | (simp; omega) | omega) _ | with_reducible refine New.trans ?_ (by with_reducible assumption)))⟩
    · have hC : C = 0 := by first | assumption | simp_all
      subst hC
      have hR0 := hR.out
      have h1 : isTraf n ps = true := by
        cases h : isTraf n ps with
        | true => rfl
        | false => rw [repR, h] at hR0; simp at hR0
      have h2 : faultsOk n fs = true := by
        cases h : faultsOk n fs with
        | true => rfl
        | false => rw [repR, h1, h] at hR0; simp at hR0
      rw [repR, if_pos h1, if_pos h2] at hR0
      simp only [Prod.mk.injEq] at hR0
      obtain ⟨⟨e0, e1⟩, -⟩ := hR0
      obtain ⟨⟨hn1, hn2⟩, _⟩ := isTraf_ok h1
      have hL0 : (F0.length : Int) = n := by rw [← e0, putF_len, minL_len]; omega
      have hL1 : (F1.length : Int) = n := by rw [← e1, putF_len, minL_len]; omega
      have hV := faults_val h2
      have hB0 : ∀ x ∈ F0, 0 ≤ x ∧ x ≤ 1 := by rw [← e0]; exact putF_bd 0 fs _ (minL_bd n ps) hV
      have hB1 : ∀ x ∈ F1, 0 ≤ x ∧ x ≤ 1 := by rw [← e1]; exact putF_bd 1 fs _ (minL_bd n ps) hV
      have hIR := isRep_of hL0 hL1 hB0 hB1
      have eR : repOf n F0 F1 (sumP F0 F1 1) = (picked (sumP F0 F1 1) F0.length, 0) := by rw [repOf, inB_iff.2 ⟨hn1, hn2⟩, hIR]; rfl
      have HD : Hid (∀ x ∈ picked (sumP F0 F1 1) F0.length, (fs.any fun y => y.blk == x) = true) := Lib.hid (fun x hx => by
        obtain ⟨k, hk, hp, rfl⟩ := mem_picked.1 hx
        exact differ_fault (n := n) (ps := ps) (fs := fs) (by have := hL0; omega) (fun y hy => (faults_in ⟨hn1, hn2⟩ h2 y hy).1) (by rw [e0, e1]; exact hp))
      have HID := Lib.hid (fun (w0 : World) (a b : Value) (h : RdI w0 a F0) (k : RdI w0 b F1) => iDiscrepancies_any n a b F0 F1 w0 h k)
      have HSD := Lib.hid (fun (w0 : World) (a b : Value) (h : RdI w0 a F0) (k : RdI w0 b F1) => sDiscrepancies_any n a b F0 F1 w0 h k)
      rw [eR] at HID HSD
      have hDl := picked_le (sumP F0 F1 1) F0.length
      generalize picked (sumP F0 F1 1) F0.length = D at HD HID HSD hDl
      clear hB0 hB1 hV hIR eR
      replace e0 := Lib.hid e0
      replace e1 := Lib.hid e1
      refine (HID.out _ _ _ (RdI.new (own_rd o2u.out) (by repeat (first | with_reducible exact New.refl _ | with_reducible assumption | with_reducible refine New.drew ?_ | with_reducible refine New.drewN ?_ _ | with_reducible refine New.alloc ?_ _ | with_reducible refine New.setCell ?_ (by first | (simp; done) | (simp; omega) | omega) _ | with_reducible refine New.trans ?_ (by with_reducible assumption)))) (RdI.new (own_rd o2v.out) (by repeat (first | with_reducible exact New.refl _ | with_reducible assumption | with_reducible refine New.drew ?_ | with_reducible refine New.drewN ?_ _ | with_reducible refine New.alloc ?_ _ | with_reducible refine New.setCell ?_ (by first | (simp; done) | (simp; omega) | omega) _ | with_reducible refine New.trans ?_ (by with_reducible assumption))))).mono ?_; rintro e w5 ⟨r5, rfl, b5, o5⟩
      obtain ⟨c5, f5⟩ := b5.rules
      have z5 := b5.size
      try simp only [World.size_alloc, World.size_drew, World.heap_drewN, World.size_setCell] at z5
      have z5_0 : w1.heap.size < w5.heap.size := by omega
      have z5_1 : w2.heap.size < w5.heap.size := by omega
      have z5_2 : w3.heap.size < w5.heap.size := by omega
      go_wp2_with fail
      refine (HSD.out _ _ _ (RdI.new (own_rd o3u.out) (by repeat (first | with_reducible exact New.refl _ | with_reducible assumption | with_reducible refine New.drew ?_ | with_reducible refine New.drewN ?_ _ | with_reducible refine New.alloc ?_ _ | with_reducible refine New.setCell ?_ (by first | (simp; done) | (simp; omega) | omega) _ | with_reducible refine New.trans ?_ (by with_reducible assumption)))) (RdI.new (own_rd o3v.out) (by repeat (first | with_reducible exact New.refl _ | with_reducible assumption | with_reducible refine New.drew ?_ | with_reducible refine New.drewN ?_ _ | with_reducible refine New.alloc ?_ _ | with_reducible refine New.setCell ?_ (by first | (simp; done) | (simp; omega) | omega) _ | with_reducible refine New.trans ?_ (by with_reducible assumption))))).mono ?_; rintro e w6 ⟨r6, rfl, b6, o6⟩
      obtain ⟨q6, c6q, rfl⟩ := own_slice o6; dsimp only at o6
      obtain ⟨c6, f6⟩ := b6.rules
      have z6 := b6.size
      try simp only [World.size_alloc, World.size_drew, World.heap_drewN, World.size_setCell] at z6
      have z6_0 : w1.heap.size < w6.heap.size := by omega
      have z6_1 : w2.heap.size < w6.heap.size := by omega
      have z6_2 : w3.heap.size < w6.heap.size := by omega
      go_wp2_with fail
      refine (likeInts_eq _ _ D _ (RdI.new (own_rd o5) (by repeat (first | with_reducible exact New.refl _ | with_reducible assumption | with_reducible refine New.drew ?_ | with_reducible refine New.drewN ?_ _ | with_reducible refine New.alloc ?_ _ | with_reducible refine New.setCell ?_ (by first | (simp; done) | (simp; omega) | omega) _ | with_reducible refine New.trans ?_ (by with_reducible assumption)))) (own_rd o6)).mono ?_; rintro e w7 ⟨rfl, b7⟩
      try with_reducible replace b7 := New.undrawN b7
      try with_reducible replace b7 := New.undraw b7
      obtain ⟨c7, f7⟩ := b7.rules
      have z7 := b7.size
      try simp only [World.size_alloc, World.size_drew, World.heap_drewN, World.size_setCell] at z7
      have z7_0 : w1.heap.size < w7.heap.size := by omega
      have z7_1 : w2.heap.size < w7.heap.size := by omega
      have z7_2 : w3.heap.size < w7.heap.size := by omega
      go_wp2_with fail
      obtain ⟨_, _, ⟨⟩, hmD, HCD⟩ := RdI.open (show RdI w7 (.slice q6 D.length c6q) D from RdI.new (own_rd o6) (by repeat (first | with_reducible exact New.refl _ | with_reducible assumption | with_reducible refine New.drew ?_ | with_reducible refine New.drewN ?_ _ | with_reducible refine New.alloc ?_ _ | with_reducible refine New.setCell ?_ (by first | (simp; done) | (simp; omega) | omega) _ | with_reducible refine New.trans ?_ (by with_reducible assumption))))
      obtain ⟨fa, fcap, rfl, hmf, HCF⟩ := Rd.flat encSensorFault_len (by omega) (show Rd w7 y27 fs.length (fs.flatMap encSensorFault) from hfs.out.new (by repeat (first | with_reducible exact New.refl _ | with_reducible assumption | with_reducible refine New.drew ?_ | with_reducible refine New.drewN ?_ _ | with_reducible refine New.alloc ?_ _ | with_reducible refine New.setCell ?_ (by first | (simp; done) | (simp; omega) | omega) _ | with_reducible refine New.trans ?_ (by with_reducible assumption))))
      go_loopw [13] (fun i wr => ∃ j : Nat, j ≤ D.length ∧ i = .int .i64 j ∧ New w7 wr) (fun i _ => D.length - (intOf i).toNat)
      case atStart => exact ⟨0, Nat.zero_le _, rfl, New.refl _⟩
      case round =>
        obtain ⟨j, hj, rfl, hN⟩ := hrel
        have zN := hN.size
        by_cases hlt : j < D.length
        · obtain ⟨bD, oD, rfl, hbl, hx⟩ := HCD.out wr hN j hlt
          have hjx := Lib.hid (HD.out D[j] (List.getElem_mem hlt))
          generalize D[j] = x at hjx hx
          go_wp2_with fail
          obtain ⟨wo, rfl⟩ : ∃ wo : World, wo = wr := ⟨_, rfl⟩
          go_loopw [14, 15] (fun t i ws => ∃ (k : Nat) (t' : Bool), k ≤ fs.length ∧ t = .bool t' ∧ i = .int .i64 k ∧ Hid (((fs.take k).any fun y => y.blk == x) = t') ∧ New wo ws) (fun _ i _ => fs.length - (intOf i).toNat)
          case atStart => exact ⟨0, false, Nat.zero_le _, rfl, rfl, rfl, New.refl _⟩
          case round =>
            obtain ⟨k, t', hk, rfl, rfl, ht, hM⟩ := hrel
            replace hx := (hM.cell (Nat.lt_of_lt_of_le hbl zN)).trans hx
            by_cases hlt2 : k < fs.length
            · obtain ⟨bF, oF, rfl, hblF, hy⟩ := HCF.out k hlt2
              have x0 := hy 0 _ (by omega) rfl
              rw [Nat.add_zero] at x0
              replace x0 := ((hN.trans hM).cell hblF).trans x0
              have HT : Hid (((fs.take (k + 1)).any fun y => y.blk == x) = (t' || fs[k].blk == x)) := Lib.hid (by rw [List.take_succ_eq_append_getElem hlt2, List.any_append, ht.out]; simp)
              replace hy := Lib.hid hy
              generalize fs[k].blk = y at HT x0
              cases t' with
              | true =>
                go_wp2_with fail
                go_quiet (fail)
                go_wp2_with fail
                go_roundw
                case rel => exact ⟨k + 1, true, by omega, rfl, by go_num, Lib.hid HT.out, (by repeat (first | with_reducible exact New.refl _ | with_reducible assumption | with_reducible refine New.drew ?_ | with_reducible refine New.drewN ?_ _ | with_reducible refine New.alloc ?_ _ | with_reducible refine New.setCell ?_ (by first | (simp; done) | (simp; omega) | omega) _ | with_reducible refine New.trans ?_ (by with_reducible assumption)))⟩
                case measure => simp [intOf]; omega
              | false =>
                rcases Bool.eq_false_or_eq_true (y == x) with h | h
                all_goals
                  go_wp2_with fail
                  go_quiet (fail)
                  go_wp2_with fail
                  go_roundw
                  case rel => exact ⟨k + 1, y == x, by omega, by simp [h], by go_num, Lib.hid (by simpa using HT.out), (by repeat (first | with_reducible exact New.refl _ | with_reducible assumption | with_reducible refine New.drew ?_ | with_reducible refine New.drewN ?_ _ | with_reducible refine New.alloc ?_ _ | with_reducible refine New.setCell ?_ (by first | (simp; done) | (simp; omega) | omega) _ | with_reducible refine New.trans ?_ (by with_reducible assumption)))⟩
                  case measure => simp [intOf]; omega
            · obtain rfl : k = fs.length := by omega
              have ht1 : t' = true := by rw [← ht.out, List.take_length]; exact hjx.out
              subst ht1
              go_wp2_with fail
              go_roundw
              case rel => exact ⟨j + 1, by omega, by go_num, hN.trans hM⟩
              case measure => simp [intOf]; omega
        · obtain rfl : j = D.length := by omega
          obtain ⟨cN, fN⟩ := hN.rules
          have zN_0 : w1.heap.size < wr.heap.size := by omega
          have HP := Lib.hid (fun (w0 : World) (h : RdI w0 (.slice sa ps.length sc) ps) => iReportOf_any n (.slice sa ps.length sc) (.slice none 0 0) ps [] w0 h (own_rd (World.ownsRow_nil w0 0 77 3)))
          rw [repR_nil h1] at HP
          have HU := Lib.hid (fun (w0 : World) (h : RdI w0 (.slice sa ps.length sc) ps) => iLoadsR_any n (.slice sa ps.length sc) ps w0 h)
          rw [show loadsR n ps = (loadsQ n ps, 0) by rw [loadsR, if_pos h1]] at HU
          have HCB := Lib.hid (fun (w0 : World) (a b : Value) (h : RdI w0 a (minL n ps)) (k : RdI w0 b (minL n ps)) => iClearBlocks_any n a b (minL n ps) (minL n ps) w0 h k)
          have hMl : (((minL n ps).length : Nat) : Int) = n := by rw [minL_len]; omega
          rw [show repOf n (minL n ps) (minL n ps) (sumP (minL n ps) (minL n ps) 0) = (picked (sumP (minL n ps) (minL n ps) 0) n.toNat, 0) by
            rw [repOf, inB_iff.2 ⟨hn1, hn2⟩, isRep_of hMl hMl (minL_bd n ps) (minL_bd n ps), minL_len]; rfl] at HCB
          have HCU := Lib.hid (fun (k : Nat) (hk : k < n.toNat) => clear_uses (n := n) (ps := ps) hk)
          have hUl : ((loadsQ n ps).length : Int) = n := by rw [show (loadsQ n ps).length = n.toNat from loadsTo_len n ps _]; omega
          have hUn : (((loadsQ n ps).length : Int) != n) = false := by simp [hUl]
          go_wp2_with fail
          refine (HP.out _ (hps.out.new (by repeat (first | with_reducible exact New.refl _ | with_reducible assumption | with_reducible refine New.drew ?_ | with_reducible refine New.drewN ?_ _ | with_reducible refine New.alloc ?_ _ | with_reducible refine New.setCell ?_ (by first | (simp; done) | (simp; omega) | omega) _ | with_reducible refine New.trans ?_ (by with_reducible assumption))))).mono ?_; rintro e w8 ⟨pa, pc, qa, qc, rfl, b8, o8u, B8, hBB8, hB8, o8v⟩
          dsimp only at o8u hB8 o8v; replace o8u := Lib.hid o8u; replace o8v := Lib.hid o8v
          obtain ⟨c8, f8⟩ := b8.rules
          have z8 := b8.size
          try simp only [World.size_alloc, World.size_drew, World.heap_drewN, World.size_setCell] at z8
          have z8_0 : w1.heap.size < w8.heap.size := by omega
          go_wp2_with fail
          generalize minL n ps = M at *
          refine (HU.out _ (hps.out.new (by repeat (first | with_reducible exact New.refl _ | with_reducible assumption | with_reducible refine New.drew ?_ | with_reducible refine New.drewN ?_ _ | with_reducible refine New.alloc ?_ _ | with_reducible refine New.setCell ?_ (by first | (simp; done) | (simp; omega) | omega) _ | with_reducible refine New.trans ?_ (by with_reducible assumption))))).mono ?_; rintro e w9 ⟨r9, rfl, b9, o9⟩
          obtain ⟨ua9, uc9, rfl⟩ := own_slice o9; dsimp only at o9; replace o9 := Lib.hid o9
          obtain ⟨c9, f9⟩ := b9.rules
          have z9 := b9.size
          try simp only [World.size_alloc, World.size_drew, World.heap_drewN, World.size_setCell] at z9
          have z9_0 : w1.heap.size < w9.heap.size := by omega
          have z9_1 : w8.heap.size < w9.heap.size := by omega
          go_wp2_with fail
          have kp0 : w9.cell? ⟨w8.heap.size, 0, none⟩ = some (.slice pa M.length pc) := by rw [c9 _ _ (by simp)]; simp
          have kp1 : w9.cell? ⟨w8.heap.size, 1, none⟩ = some (.slice qa M.length qc) := by rw [c9 _ _ (by simp)]; simp
          refine (HCB.out _ _ _ (RdI.new (own_rd o8u.out) (by repeat (first | with_reducible exact New.refl _ | with_reducible assumption | with_reducible refine New.drew ?_ | with_reducible refine New.drewN ?_ _ | with_reducible refine New.alloc ?_ _ | with_reducible refine New.setCell ?_ (by first | (simp; done) | (simp; omega) | omega) _ | with_reducible refine New.trans ?_ (by with_reducible assumption)))) (RdI.new (own_rd o8v.out) (by repeat (first | with_reducible exact New.refl _ | with_reducible assumption | with_reducible refine New.drew ?_ | with_reducible refine New.drewN ?_ _ | with_reducible refine New.alloc ?_ _ | with_reducible refine New.setCell ?_ (by first | (simp; done) | (simp; omega) | omega) _ | with_reducible refine New.trans ?_ (by with_reducible assumption))))).mono ?_; rintro e w10 ⟨r10, rfl, b10, o10⟩
          obtain ⟨pc10, cc10, rfl⟩ := own_slice o10; dsimp only at o10; replace o10 := Lib.hid o10
          obtain ⟨c10, f10⟩ := b10.rules
          have z10 := b10.size
          try simp only [World.size_alloc, World.size_drew, World.heap_drewN, World.size_setCell] at z10
          have z10_0 : w1.heap.size < w10.heap.size := by omega
          have z10_1 : w8.heap.size < w10.heap.size := by omega
          go_wp2_with fail
          generalize picked (sumP M M 0) n.toNat = P at *
          have hPl : P.length ≤ 9223372036854775807 := by obtain ⟨_, _, _, h, _⟩ := RdI.open (show RdI w10 (.slice pc10 P.length cc10) P from own_rd o10.out); exact h
          obtain ⟨_, _, ⟨⟩, hmU, HUC⟩ := RdI.open (show RdI w10 (.slice ua9 (loadsQ n ps).length uc9) (loadsQ n ps) from RdI.new (own_rd o9.out) (by repeat (first | with_reducible exact New.refl _ | with_reducible assumption | with_reducible refine New.drew ?_ | with_reducible refine New.drewN ?_ _ | with_reducible refine New.alloc ?_ _ | with_reducible refine New.setCell ?_ (by first | (simp; done) | (simp; omega) | omega) _ | with_reducible refine New.trans ?_ (by with_reducible assumption))))
          go_loopw [22] (fun i ws => ∃ j : Nat, j ≤ n.toNat ∧ i = .int .i64 j ∧ New w10 ws) (fun i _ => n.toNat - (intOf i).toNat)
          case atStart => exact ⟨0, Nat.zero_le _, rfl, New.refl _⟩
          case round =>
            obtain ⟨j, hj, rfl, hM⟩ := hrel
            obtain ⟨cM, fM⟩ := hM.rules
            have zM := hM.size
            by_cases hlt : j < n.toNat
            · have hju : j < (loadsQ n ps).length := by omega
              have hjn : (j : Int) < n := by omega
              obtain ⟨bU, oU, rfl, hblU, hx⟩ := HUC.out w10 (New.refl _) j hju
              have HK := HCU.out j hlt
              rw [List.getElem?_eq_getElem hju] at HK
              generalize (loadsQ n ps)[j] = y at HK hx
              rcases Bool.eq_false_or_eq_true (y == 0) with h | h
              · have HQ := Lib.hid (fun (w0 : World) (h : RdI w0 (.slice pc10 P.length cc10) P) => hasInt_any _ _ (j : Int) w0 h)
                rw [HK, show (some y == some (0 : Int)) = true by simpa using h] at HQ
                replace HK := Lib.hid HK
                go_wp2_with fail
                go_quiet ((go_at_call 21; exact quiet_eq (HQ.out _ (RdI.new (own_rd o10.out) (by repeat (first | with_reducible exact New.refl _ | with_reducible assumption | with_reducible refine New.drew ?_ | with_reducible refine New.drewN ?_ _ | with_reducible refine New.alloc ?_ _ | with_reducible refine New.setCell ?_ (by first | (simp; done) | (simp; omega) | omega) _ | with_reducible refine New.trans ?_ (by with_reducible assumption)))))))
                go_wp2_with fail
                go_roundw
                case rel => exact ⟨j + 1, by omega, by go_num, (by repeat (first | with_reducible exact New.refl _ | with_reducible assumption | with_reducible refine New.drew ?_ | with_reducible refine New.drewN ?_ _ | with_reducible refine New.alloc ?_ _ | with_reducible refine New.setCell ?_ (by first | (simp; done) | (simp; omega) | omega) _ | with_reducible refine New.trans ?_ (by with_reducible assumption)))⟩
                case measure => simp [intOf]; omega
              · have HQ := Lib.hid (fun (w0 : World) (h : RdI w0 (.slice pc10 P.length cc10) P) => hasInt_any _ _ (j : Int) w0 h)
                rw [HK, show (some y == some (0 : Int)) = false by simpa using h] at HQ
                replace HK := Lib.hid HK
                go_wp2_with fail
                go_quiet ((go_at_call 21; exact quiet_eq (HQ.out _ (RdI.new (own_rd o10.out) (by repeat (first | with_reducible exact New.refl _ | with_reducible assumption | with_reducible refine New.drew ?_ | with_reducible refine New.drewN ?_ _ | with_reducible refine New.alloc ?_ _ | with_reducible refine New.setCell ?_ (by first | (simp; done) | (simp; omega) | omega) _ | with_reducible refine New.trans ?_ (by with_reducible assumption)))))))
                go_wp2_with fail
                go_roundw
                case rel => exact ⟨j + 1, by omega, by go_num, (by repeat (first | with_reducible exact New.refl _ | with_reducible assumption | with_reducible refine New.drew ?_ | with_reducible refine New.drewN ?_ _ | with_reducible refine New.alloc ?_ _ | with_reducible refine New.setCell ?_ (by first | (simp; done) | (simp; omega) | omega) _ | with_reducible refine New.trans ?_ (by with_reducible assumption)))⟩
                case measure => simp [intOf]; omega
            · obtain rfl : j = n.toNat := by omega
              have hjn : ¬ (((n.toNat : Nat) : Int) < n) := by omega
              have zM_0 : w1.heap.size < wr.heap.size := by omega
              have zM_1 : w8.heap.size < wr.heap.size := by omega
              go_wp2_with fail
              refine (likeInts_eq _ _ M _ (RdI.new (own_rd o8u.out) (by repeat (first | with_reducible exact New.refl _ | with_reducible assumption | with_reducible refine New.drew ?_ | with_reducible refine New.drewN ?_ _ | with_reducible refine New.alloc ?_ _ | with_reducible refine New.setCell ?_ (by first | (simp; done) | (simp; omega) | omega) _ | with_reducible refine New.trans ?_ (by with_reducible assumption)))) (RdI.new (own_rd o8v.out) (by repeat (first | with_reducible exact New.refl _ | with_reducible assumption | with_reducible refine New.drew ?_ | with_reducible refine New.drewN ?_ _ | with_reducible refine New.alloc ?_ _ | with_reducible refine New.setCell ?_ (by first | (simp; done) | (simp; omega) | omega) _ | with_reducible refine New.trans ?_ (by with_reducible assumption))))).mono ?_; rintro e w11 ⟨rfl, b11⟩
              try with_reducible replace b11 := New.undrawN b11
              try with_reducible replace b11 := New.undraw b11
              obtain ⟨c11, f11⟩ := b11.rules
              have z11 := b11.size
              try simp only [World.size_alloc, World.size_drew, World.heap_drewN, World.size_setCell] at z11
              go_wp2_with fail
              go_ret
              exact ⟨rfl, (by repeat (first | with_reducible exact New.refl _ | with_reducible assumption | with_reducible refine New.drew ?_ | with_reducible refine New.drewN ?_ _ | with_reducible refine New.alloc ?_ _ | with_reducible refine New.setCell ?_ (by first | (simp; done) | (simp; omega) | omega) _ | with_reducible refine New.trans ?_ (by with_reducible assumption)))⟩
namespace fnReports
theorem own : ownKnob Try.prog.godebug = none := by kernel_rfl
theorem reads : (Try.f10.params.toList.all fun t => Try.prog.readableRec t && decide (t < Try.prog.types.size)) = true := by kernel_rfl
set_option maxRecDepth 100000 in
theorem lifted (os : Os) (started : os.Started) (H : Type) (enc : TypeId × Value → H) :
    ReturnsInHanded {} Try.checked os 10 .any (Rows.fnReportsSpec.pre6 enc Try.prog Try.f10 Rows.fnReportsRow.domain false) (Rows.fnReportsSpec.post enc Try.prog Try.f10 false true false false) := by
  refine returnsInHanded_of_change (C := Try.checked) own started (by kernel_rfl) Try.func10
    (ChangeSpec.witness6 (enc := enc) (C := Try.checked) false ⟨#[], #[.slice none 0 0], []⟩ 8 (by kernel_rfl) (by kernel_rfl) (by kernel_rfl) (by kernel_rfl)) ?_
  intro W base args ds gs before hval0 hW hcnd _
  have hval : ∀ (j : Nat) t v, Try.f10.params[j]? = some t → args[j]? = some v → Value.okWide Try.prog W .any base t v := hval0
  have hW' := hW
  obtain ⟨p, q, hA0, hV, rfl, hfz, hnd⟩ := hW
  have hA : DataW.TrodAll enc Try.prog W 0 (fun _ => true) true Try.f10.params.toList args.toList ds p := hA0
  rw [Try.params10] at hA hval
  obtain ⟨v0, vs0, d0, ds0, p0, q0, hargs, rfl, rfl, h0, r0⟩ := trodAll_cons hA
  obtain ⟨rfl, rfl, rfl⟩ := trodAll_nil r0
  obtain rfl : args = #[v0] := by cases args; simp_all
  have o0 := hval 0 22 v0 rfl rfl
  clear hA0 hval hval0
  obtain ⟨rfl, rfl⟩ := trodVars_none hV
  have walk : Calls Try.prog 10 #[v0] W fun e w' => e = .returned (.bool true) ∧ New W w' := by
    obtain ⟨bs, hbs, hbb⟩ := openCode h0 o0
    exact fnReports_any _ bs W hbs hbb
  refine walk.mono fun e W' ⟨he, hg⟩ => ?_
  subst he
  exact ⟨_, rfl, law_post laidOut (fun t ht => reads_of reads t ht) (fun n hn => by cases hn) rfl Try.underlying4 hW' rfl hg⟩
theorem proved : Rows.FnReportsSaid :=
  OpenClaim.holds_of_wide 10 Try.f10 rfl rfl rfl rfl rfl rfl rfl ⟨rfl, rfl, rfl, rfl, rfl⟩ rfl rfl rfl rfl rfl (by kernel_rfl) Try.func10 (by kernel_rfl)
    (of_decide_eq_true (by kernel_rfl)) (by unfold Func.isWrapper; first | (rw [if_pos (by decide +kernel)]; kernel_rfl) | (rw [if_neg (by decide +kernel)]; exact ⟨rfl, rfl⟩))
    (fun os started H enc _ => lifted os started H enc)
#print axioms proved
end fnReports
end Go.Proofs.Ytinlichcbjpeaaa
