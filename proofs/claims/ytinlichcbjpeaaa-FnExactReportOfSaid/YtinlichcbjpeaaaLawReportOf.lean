/- The program's ReportOf returns what the reference's returns, for every argument. No condition. -/
import Derived.Test.YtinlichcbjpeaaaRows
import Derived.Test.YtinlichcbjpeaaaOpens
import Derived.Test.YtinlichcbjpeaaaFacts
import Derived.Test.YtinlichcbjpeaaaReportO
import Derived.Test.YtinlichcbjpeaaaReportH
import Derived.Test.YtinlichcbjpeaaaPermitted
import Derived.Test.YtinlichcbjpeaaaRegion
import Derived.Test.YtinlichcbjpeaaaCells
import Derived.Test.YtinlichcbjpeaaaReport
import Derived.Test.YtinlichcbjpeaaaFaults
namespace Go.Proofs.Ytinlichcbjpeaaa
open Go Go.Proofs Go.RowKit Go.ChangeShapes Go.WideShapes Go.ChangeAt
set_option linter.unusedVariables false
set_option linter.unusedSimpArgs false
set_option maxRecDepth 100000
theorem sh_SensorFaultS : Sh.of Try.prog 5 62 = some (.slice (.pair .int (.pair .int (.pair .int .nil)))) := by kernel_rfl
theorem dec_SensorFault {w : World} (cs : List Value) (h : Sh.Is w (.pair .int (.pair .int (.pair .int .nil))) cs) : ∃ x : ESensorFault, cs = encSensorFault x := by
  obtain ⟨_, _, rfl, ⟨blk, rfl, _⟩, ⟨_, _, rfl, ⟨chan, rfl, _⟩, ⟨_, _, rfl, ⟨val, rfl, _⟩, rfl⟩⟩⟩ := h
  exact ⟨⟨blk, chan, val⟩, rfl⟩
theorem openSensorFaultS {H : Type} {enc : TypeId × Value → H} {W : World} {r : Reach} {base : Nat} {v : Value} {d : DataW H} {p : List MemPlace} (h : DataW.Trod enc Try.prog W 0 (fun _ => true) true 62 v d p) (o : Value.okWide Try.prog W r base 62 v) :
    ∃ xs : List ESensorFault, Rd W v xs.length (xs.flatMap encSensorFault) := by
  obtain ⟨a, n, cap, rfl⟩ := okWide_slice Try.underlying62 o
  exact rd_of_slice encSensorFault dec_SensorFault encSensorFault_len (Sh.is_of_trod sh_SensorFaultS h)
set_option maxHeartbeats 4000000 in
theorem lawReportOf_any (b : Int) (pv fv : Value) (ps : List Int) (fs : List ESensorFault) (w : World) (hp : RdI w pv ps) (hf : Rd w fv fs.length (fs.flatMap encSensorFault)) :
    Calls Try.prog 9 #[.agg #[.int .i64 b, pv], fv] w fun e w' => e = .returned (.bool true) ∧ New w w' := by
  have HP := Lib.hid hp
  have HF := Lib.hid hf
  clear hp hf
  have HS := Lib.hid (fun (x y : Value) (w0 : World) (h0 : RdI w0 x ps) (h1 : Rd w0 y fs.length (fs.flatMap encSensorFault)) => sReportOf_any b x y ps fs w0 h0 h1)
  have HI := Lib.hid (fun (x y : Value) (w0 : World) (h0 : RdI w0 x ps) (h1 : Rd w0 y fs.length (fs.flatMap encSensorFault)) => iReportOf_any b x y ps fs w0 h0 h1)
  have HR : (repR b ps fs).1.1.length ≤ 8 ∧ (repR b ps fs).1.2.length ≤ 8 := by
    unfold repR; split
    · rename_i h
      have hn := (isTraf_ok h).1
      split
      · dsimp only
        rw [putF_len, putF_len, minL, minTo_len]
        omega
      · simp
    · simp
  generalize repR b ps fs = R at HS HI HR
  obtain ⟨⟨F0, F1⟩, C⟩ := R
  dsimp only at HR
  obtain ⟨hr0, hr1⟩ := HR
  have hCC : (C != C) = false := by simp
  have hFF : decide (F0 = F0 ∧ F1 = F1) = true := by simp
  have hbd := szL_range (n := ps.length) (left := 1048576) (B := 1048576) (by omega) (by omega)
  by_cases hsz : szL ps.length 1048576 < 0
  · go_enter Try.func9, Try.ntmps9
    go_wp2_with fail
    refine (szTraffic_any b pv ps.length _ 1048576 _ (HP.out.new (by repeat (first | with_reducible exact New.refl _ | with_reducible assumption | with_reducible refine New.drew ?_ | with_reducible refine New.drewN ?_ _ | with_reducible refine New.alloc ?_ _ | with_reducible refine New.setCell ?_ (by first | (simp; done) | (simp; omega) | omega) _ | with_reducible refine New.trans ?_ (by with_reducible assumption)))) (by omega) (by omega)).mono ?_; rintro e w1 ⟨rfl, b1⟩
    try with_reducible replace b1 := New.undrawN b1
    try with_reducible replace b1 := New.undraw b1
    obtain ⟨c1, f1⟩ := b1.rules
    have z1 := b1.size
    try simp only [World.size_alloc, World.size_drew, World.heap_drewN, World.size_setCell] at z1
    have z1_0 : w.heap.size < w1.heap.size := by omega
    go_wp2_with fail
    go_ret
    exact ⟨rfl, (by repeat (first | with_reducible exact New.refl _ | with_reducible assumption | with_reducible refine New.drew ?_ | with_reducible refine New.drewN ?_ _ | with_reducible refine New.alloc ?_ _ | with_reducible refine New.setCell ?_ (by first | (simp; done) | (simp; omega) | omega) _ | with_reducible refine New.trans ?_ (by with_reducible assumption)))⟩
  obtain ⟨hl1, hle⟩ := szL_bd (Int.not_lt.1 hsz)
  have hlp : ps.length ≤ 1048576 := by omega
  clear hl1 hle
  have hbd2 := szL_range (n := fs.length) (left := szL ps.length 1048576) (B := 1048576) (by omega) (by omega)
  by_cases hsz2 : szL fs.length (szL ps.length 1048576) < 0
  · go_enter Try.func9, Try.ntmps9
    go_wp2_with fail
    refine (szTraffic_any b pv ps.length _ 1048576 _ (HP.out.new (by repeat (first | with_reducible exact New.refl _ | with_reducible assumption | with_reducible refine New.drew ?_ | with_reducible refine New.drewN ?_ _ | with_reducible refine New.alloc ?_ _ | with_reducible refine New.setCell ?_ (by first | (simp; done) | (simp; omega) | omega) _ | with_reducible refine New.trans ?_ (by with_reducible assumption)))) (by omega) (by omega)).mono ?_; rintro e w1 ⟨rfl, b1⟩
    try with_reducible replace b1 := New.undrawN b1
    try with_reducible replace b1 := New.undraw b1
    obtain ⟨c1, f1⟩ := b1.rules
    have z1 := b1.size
    try simp only [World.size_alloc, World.size_drew, World.heap_drewN, World.size_setCell] at z1
    have z1_0 : w.heap.size < w1.heap.size := by omega
    go_wp2_with fail
    refine (szSensorFaultS_any fv fs.length _ _ _ (HF.out.new (by repeat (first | with_reducible exact New.refl _ | with_reducible assumption | with_reducible refine New.drew ?_ | with_reducible refine New.drewN ?_ _ | with_reducible refine New.alloc ?_ _ | with_reducible refine New.setCell ?_ (by first | (simp; done) | (simp; omega) | omega) _ | with_reducible refine New.trans ?_ (by with_reducible assumption)))) (by omega) (by omega)).mono ?_; rintro e w2 ⟨rfl, rfl⟩
    go_wp2_with fail
    go_ret
    exact ⟨rfl, (by repeat (first | with_reducible exact New.refl _ | with_reducible assumption | with_reducible refine New.drew ?_ | with_reducible refine New.drewN ?_ _ | with_reducible refine New.alloc ?_ _ | with_reducible refine New.setCell ?_ (by first | (simp; done) | (simp; omega) | omega) _ | with_reducible refine New.trans ?_ (by with_reducible assumption)))⟩
  obtain ⟨hl1, hle⟩ := szL_bd (Int.not_lt.1 hsz2)
  have hlf : fs.length ≤ 1048576 := by omega
  clear hl1 hle
  go_enter Try.func9, Try.ntmps9
  go_wp2_with fail
  refine (szTraffic_any b pv ps.length _ 1048576 _ (HP.out.new (by repeat (first | with_reducible exact New.refl _ | with_reducible assumption | with_reducible refine New.drew ?_ | with_reducible refine New.drewN ?_ _ | with_reducible refine New.alloc ?_ _ | with_reducible refine New.setCell ?_ (by first | (simp; done) | (simp; omega) | omega) _ | with_reducible refine New.trans ?_ (by with_reducible assumption)))) (by omega) (by omega)).mono ?_; rintro e w1 ⟨rfl, b1⟩
  try with_reducible replace b1 := New.undrawN b1
  try with_reducible replace b1 := New.undraw b1
  obtain ⟨c1, f1⟩ := b1.rules
  have z1 := b1.size
  try simp only [World.size_alloc, World.size_drew, World.heap_drewN, World.size_setCell] at z1
  have z1_0 : w.heap.size < w1.heap.size := by omega
  go_wp2_with fail
  refine (szSensorFaultS_any fv fs.length _ _ _ (HF.out.new (by repeat (first | with_reducible exact New.refl _ | with_reducible assumption | with_reducible refine New.drew ?_ | with_reducible refine New.drewN ?_ _ | with_reducible refine New.alloc ?_ _ | with_reducible refine New.setCell ?_ (by first | (simp; done) | (simp; omega) | omega) _ | with_reducible refine New.trans ?_ (by with_reducible assumption)))) (by omega) (by omega)).mono ?_; rintro e w2 ⟨rfl, rfl⟩
  go_wp2_with fail
  refine (toTraffic_any b pv ps _ (HP.out.new (by repeat (first | with_reducible exact New.refl _ | with_reducible assumption | with_reducible refine New.drew ?_ | with_reducible refine New.drewN ?_ _ | with_reducible refine New.alloc ?_ _ | with_reducible refine New.setCell ?_ (by first | (simp; done) | (simp; omega) | omega) _ | with_reducible refine New.trans ?_ (by with_reducible assumption)))) hlp).mono ?_; rintro e w3 ⟨p3, rfl, b3, o3⟩
  obtain ⟨c3, f3⟩ := b3.rules
  have z3 := b3.size
  try simp only [World.size_alloc, World.size_drew, World.heap_drewN, World.size_setCell] at z3
  have z3_0 : w.heap.size < w3.heap.size := by omega
  go_wp2_with fail
  refine (toSensorFaultS_any fv fs _ (HF.out.new (by repeat (first | with_reducible exact New.refl _ | with_reducible assumption | with_reducible refine New.drew ?_ | with_reducible refine New.drewN ?_ _ | with_reducible refine New.alloc ?_ _ | with_reducible refine New.setCell ?_ (by first | (simp; done) | (simp; omega) | omega) _ | with_reducible refine New.trans ?_ (by with_reducible assumption)))) hlf).mono ?_; rintro e w4 ⟨v4, rfl, b4, o4⟩
  obtain ⟨c4, f4⟩ := b4.rules
  have z4 := b4.size
  try simp only [World.size_alloc, World.size_drew, World.heap_drewN, World.size_setCell] at z4
  have z4_0 : w.heap.size < w4.heap.size := by omega
  go_wp2_with fail
  refine (HS.out _ _ _ (RdI.new (own_rd o3) (by repeat (first | with_reducible exact New.refl _ | with_reducible assumption | with_reducible refine New.drew ?_ | with_reducible refine New.drewN ?_ _ | with_reducible refine New.alloc ?_ _ | with_reducible refine New.setCell ?_ (by first | (simp; done) | (simp; omega) | omega) _ | with_reducible refine New.trans ?_ (by with_reducible assumption)))) (own_rd o4)).mono ?_; rintro e w5 ⟨u5, v5, rfl, b5, o5u, o5v⟩
  dsimp only at o5u o5v; obtain ⟨a5, k5, rfl⟩ := own_slice o5u; obtain ⟨a5', k5', rfl⟩ := own_slice o5v
  obtain ⟨c5, f5⟩ := b5.rules
  have z5 := b5.size
  try simp only [World.size_alloc, World.size_drew, World.heap_drewN, World.size_setCell] at z5
  have z5_0 : w.heap.size < w5.heap.size := by omega
  go_wp2_with fail
  refine (toTraffic_any b pv ps _ (HP.out.new (by repeat (first | with_reducible exact New.refl _ | with_reducible assumption | with_reducible refine New.drew ?_ | with_reducible refine New.drewN ?_ _ | with_reducible refine New.alloc ?_ _ | with_reducible refine New.setCell ?_ (by first | (simp; done) | (simp; omega) | omega) _ | with_reducible refine New.trans ?_ (by with_reducible assumption)))) hlp).mono ?_; rintro e w6 ⟨p6, rfl, b6, o6⟩
  obtain ⟨pa, pc, rfl⟩ := own_slice o6; simp only [World.size_alloc] at o6
  obtain ⟨c6, f6⟩ := b6.rules
  have z6 := b6.size
  try simp only [World.size_alloc, World.size_drew, World.heap_drewN, World.size_setCell] at z6
  have z6_0 : w.heap.size < w6.heap.size := by omega
  have z6_1 : w5.heap.size < w6.heap.size := by omega
  go_wp2_with fail
  refine (toSensorFaultS_any fv fs _ (HF.out.new (by repeat (first | with_reducible exact New.refl _ | with_reducible assumption | with_reducible refine New.drew ?_ | with_reducible refine New.drewN ?_ _ | with_reducible refine New.alloc ?_ _ | with_reducible refine New.setCell ?_ (by first | (simp; done) | (simp; omega) | omega) _ | with_reducible refine New.trans ?_ (by with_reducible assumption)))) hlf).mono ?_; rintro e w7 ⟨v7, rfl, b7, o7⟩
  simp only [World.size_alloc] at o7
  obtain ⟨c7, f7⟩ := b7.rules
  have z7 := b7.size
  try simp only [World.size_alloc, World.size_drew, World.heap_drewN, World.size_setCell] at z7
  have z7_0 : w.heap.size < w7.heap.size := by omega
  have z7_1 : w5.heap.size < w7.heap.size := by omega
  have z7_2 : w6.heap.size < w7.heap.size := by omega
  go_wp2_with fail
  refine (HI.out _ _ _ (RdI.new (own_rd o6) (by repeat (first | with_reducible exact New.refl _ | with_reducible assumption | with_reducible refine New.drew ?_ | with_reducible refine New.drewN ?_ _ | with_reducible refine New.alloc ?_ _ | with_reducible refine New.setCell ?_ (by first | (simp; done) | (simp; omega) | omega) _ | with_reducible refine New.trans ?_ (by with_reducible assumption)))) (own_rd o7)).mono ?_; rintro e w8 ⟨ua, uc, va, vc, rfl, b8, o8u, B8, hBB8, hB8, o8v⟩
  dsimp only at o8u hB8 o8v
  obtain ⟨c8, f8⟩ := b8.rules
  have z8 := b8.size
  try simp only [World.size_alloc, World.size_drew, World.heap_drewN, World.size_setCell] at z8
  have z8_0 : w.heap.size < w8.heap.size := by omega
  have z8_1 : w5.heap.size < w8.heap.size := by omega
  have z8_2 : w6.heap.size < w8.heap.size := by omega
  go_wp2_with fail
  refine (eqReport_any _ _ _ _ F0 F1 F0 F1 _ (RdI.new (own_rd o8u) (by repeat (first | with_reducible exact New.refl _ | with_reducible assumption | with_reducible refine New.drew ?_ | with_reducible refine New.drewN ?_ _ | with_reducible refine New.alloc ?_ _ | with_reducible refine New.setCell ?_ (by first | (simp; done) | (simp; omega) | omega) _ | with_reducible refine New.trans ?_ (by with_reducible assumption)))) (RdI.new (own_rd o8v) (by repeat (first | with_reducible exact New.refl _ | with_reducible assumption | with_reducible refine New.drew ?_ | with_reducible refine New.drewN ?_ _ | with_reducible refine New.alloc ?_ _ | with_reducible refine New.setCell ?_ (by first | (simp; done) | (simp; omega) | omega) _ | with_reducible refine New.trans ?_ (by with_reducible assumption)))) (RdI.new (own_rd o5u) (by repeat (first | with_reducible exact New.refl _ | with_reducible assumption | with_reducible refine New.drew ?_ | with_reducible refine New.drewN ?_ _ | with_reducible refine New.alloc ?_ _ | with_reducible refine New.setCell ?_ (by first | (simp; done) | (simp; omega) | omega) _ | with_reducible refine New.trans ?_ (by with_reducible assumption)))) (RdI.new (own_rd o5v) (by repeat (first | with_reducible exact New.refl _ | with_reducible assumption | with_reducible refine New.drew ?_ | with_reducible refine New.drewN ?_ _ | with_reducible refine New.alloc ?_ _ | with_reducible refine New.setCell ?_ (by first | (simp; done) | (simp; omega) | omega) _ | with_reducible refine New.trans ?_ (by with_reducible assumption))))).mono ?_; rintro e w9 ⟨rfl, b9⟩
  try with_reducible replace b9 := New.undrawN b9
  try with_reducible replace b9 := New.undraw b9
  obtain ⟨c9, f9⟩ := b9.rules
  have z9 := b9.size
  try simp only [World.size_alloc, World.size_drew, World.heap_drewN, World.size_setCell] at z9
  have z9_0 : w.heap.size < w9.heap.size := by omega
  have z9_1 : w5.heap.size < w9.heap.size := by omega
  have z9_2 : w6.heap.size < w9.heap.size := by omega
  have z9_3 : w8.heap.size < w9.heap.size := by omega
  go_wp2_with fail
  have k60 : w9.cell? ⟨w6.heap.size, 0, none⟩ = some (.int .i64 b) := by simp (disch := first | (simp only [World.size_alloc, World.size_drew, World.size_setCell]; omega) | omega | (simp; done) | (simp; omega)) only [c9, c8, c7, cell_alloc_old, cell_alloc_new, World.cell?_drewN, World.cell?_drew]; first | done | rfl | (simp; done)
  have k61 : w9.cell? ⟨w6.heap.size, 1, none⟩ = some (.slice pa ps.length pc) := by simp (disch := first | (simp only [World.size_alloc, World.size_drew, World.size_setCell]; omega) | omega | (simp; done) | (simp; omega)) only [c9, c8, c7, cell_alloc_old, cell_alloc_new, World.cell?_drewN, World.cell?_drew]; first | done | rfl | (simp; done)
  have kw0 : w9.cell? ⟨w.heap.size, 0, none⟩ = some (.int .i64 b) := by simp (disch := first | (simp only [World.size_alloc, World.size_drew, World.size_setCell]; omega) | omega | (simp; done) | (simp; omega)) only [c9, c8, c7, c6, c5, c4, c3, c1, cell_alloc_old, cell_alloc_new, World.cell?_drewN, World.cell?_drew]; first | done | rfl | (simp; done)
  have kw1 : w9.cell? ⟨w.heap.size, 1, none⟩ = some (pv) := by simp (disch := first | (simp only [World.size_alloc, World.size_drew, World.size_setCell]; omega) | omega | (simp; done) | (simp; omega)) only [c9, c8, c7, c6, c5, c4, c3, c1, cell_alloc_old, cell_alloc_new, World.cell?_drewN, World.cell?_drew]; first | done | rfl | (simp; done)
  have k50 : w9.cell? ⟨w5.heap.size, 0, none⟩ = some (.slice a5 F0.length k5) := by simp (disch := first | (simp only [World.size_alloc, World.size_drew, World.size_setCell]; omega) | omega | (simp; done) | (simp; omega)) only [c9, c8, c7, c6, cell_alloc_old, cell_alloc_new, World.cell?_drewN, World.cell?_drew]; first | done | rfl | (simp; done)
  have k51 : w9.cell? ⟨w5.heap.size, 1, none⟩ = some (.slice a5' F1.length k5') := by simp (disch := first | (simp only [World.size_alloc, World.size_drew, World.size_setCell]; omega) | omega | (simp; done) | (simp; omega)) only [c9, c8, c7, c6, cell_alloc_old, cell_alloc_new, World.cell?_drewN, World.cell?_drew]; first | done | rfl | (simp; done)
  have k80 : w9.cell? ⟨w8.heap.size, 0, none⟩ = some (.slice ua F0.length uc) := by simp (disch := first | (simp only [World.size_alloc, World.size_drew, World.size_setCell]; omega) | omega | (simp; done) | (simp; omega)) only [c9, cell_alloc_old, cell_alloc_new, World.cell?_drewN, World.cell?_drew]; first | done | rfl | (simp; done)
  have k81 : w9.cell? ⟨w8.heap.size, 1, none⟩ = some (.slice va F1.length vc) := by simp (disch := first | (simp only [World.size_alloc, World.size_drew, World.size_setCell]; omega) | omega | (simp; done) | (simp; omega)) only [c9, cell_alloc_old, cell_alloc_new, World.cell?_drewN, World.cell?_drew]; first | done | rfl | (simp; done)
  refine wp_facts [fun X _ => X = .agg #[.int .i64 b, .slice pa ps.length pc], fun X _ => X = .agg #[.int .i64 b, pv], fun X W' => ∃ q, X = .agg #[.int .i64 b, q] ∧ RdI W' q ps, fun X _ => X = .bool true, fun X _ => X = .bool false] (by kernel_rfl) (by kernel_rfl) ⟨stable_eq _, stable_eq _, fun X w0 w1 hn ⟨q1, t56, r1⟩ => ⟨q1, t56, r1.new hn⟩, stable_eq _, stable_eq _, trivial⟩ ?_ ?_
  · refine ⟨?_, ?_, ?_, ?_, ?_, trivial⟩
    · intro a w9 hw ho hk
      have t2 := ho 8 rfl
      dsimp at t2
      try with_reducible replace hw := New.undrawN hw
      try with_reducible replace hw := New.undraw hw
      obtain ⟨c, f'⟩ := hw.rules
      go_simp
      exact New.refl _
    · intro a w9 hw ho hk
      have t2 := ho 2 rfl
      dsimp at t2
      try with_reducible replace hw := New.undrawN hw
      try with_reducible replace hw := New.undraw hw
      obtain ⟨c, f'⟩ := hw.rules
      go_simp
      exact New.refl _
    · intro a w9 hw ho hk
      have t55 : a.tmps[55]?.getD undef = .agg #[.int .i64 b, pv] := hk 1 55 (by kernel_rfl) rfl
      go_simp
      refine (toTraffic_any b pv ps _ (HP.out.new (by repeat (first | with_reducible exact New.refl _ | with_reducible assumption | with_reducible refine New.drew ?_ | with_reducible refine New.drewN ?_ _ | with_reducible refine New.alloc ?_ _ | with_reducible refine New.setCell ?_ (by first | (simp; done) | (simp; omega) | omega) _ | with_reducible refine New.trans ?_ (by with_reducible assumption)))) hlp).mono ?_; rintro e w2 ⟨q, rfl, hb, o⟩
      exact ⟨hb, _, rfl, _, rfl, own_rd o⟩
    · intro a w9 hw ho hk
      have t54 : a.tmps[54]?.getD undef = .agg #[.int .i64 b, .slice pa ps.length pc] := hk 0 54 (by kernel_rfl) rfl
      obtain ⟨q1, t56, r1⟩ : ∃ q, (a.tmps[56]?.getD undef) = .agg #[.int .i64 b, q] ∧ RdI w9 q ps := hk 2 56 (by kernel_rfl) rfl
      go_simp
      refine (eqTraffic_any _ _ _ _ ps ps _ (RdI.new (own_rd o6) (by repeat (first | with_reducible exact New.refl _ | with_reducible assumption | with_reducible refine New.drew ?_ | with_reducible refine New.drewN ?_ _ | with_reducible refine New.alloc ?_ _ | with_reducible refine New.setCell ?_ (by first | (simp; done) | (simp; omega) | omega) _ | with_reducible refine New.trans ?_ (by with_reducible assumption)))) r1).mono ?_; rintro e w2 ⟨rfl, hb⟩
      first | exact ⟨hb, _, rfl, by simp⟩ | exact ⟨hb, by simp⟩
    · intro a w9 hw ho hk
      have t57 : a.tmps[57]?.getD undef = .bool true := hk 3 57 (by kernel_rfl) rfl
      go_simp
      exact New.refl _
  intro w10 b10 x0 h0 x1 h1 x2 h2 x3 h3 x4 h4
  subst h0 h1 h3 h4
  try with_reducible replace b10 := New.undrawN b10
  try with_reducible replace b10 := New.undraw b10
  obtain ⟨c10, f10⟩ := b10.rules
  have z10 := b10.size
  try simp only [World.size_alloc, World.size_drew, World.heap_drewN, World.size_setCell] at z10
  have z10_0 : w.heap.size < w10.heap.size := by omega
  have z10_1 : w5.heap.size < w10.heap.size := by omega
  have z10_2 : w6.heap.size < w10.heap.size := by omega
  have z10_3 : w8.heap.size < w10.heap.size := by omega
  have m60 : w10.cell? ⟨w6.heap.size, 0, none⟩ = some (.int .i64 b) := by simp (disch := first | (simp only [World.size_alloc, World.size_drew, World.size_setCell]; omega) | omega | (simp; done) | (simp; omega)) only [c10, k60, cell_alloc_old, cell_alloc_new, World.cell?_drewN, World.cell?_drew]; first | done | rfl | (simp; done)
  have m61 : w10.cell? ⟨w6.heap.size, 1, none⟩ = some (.slice pa ps.length pc) := by simp (disch := first | (simp only [World.size_alloc, World.size_drew, World.size_setCell]; omega) | omega | (simp; done) | (simp; omega)) only [c10, k61, cell_alloc_old, cell_alloc_new, World.cell?_drewN, World.cell?_drew]; first | done | rfl | (simp; done)
  have mw0 : w10.cell? ⟨w.heap.size, 0, none⟩ = some (.int .i64 b) := by simp (disch := first | (simp only [World.size_alloc, World.size_drew, World.size_setCell]; omega) | omega | (simp; done) | (simp; omega)) only [c10, kw0, cell_alloc_old, cell_alloc_new, World.cell?_drewN, World.cell?_drew]; first | done | rfl | (simp; done)
  have mw1 : w10.cell? ⟨w.heap.size, 1, none⟩ = some (pv) := by simp (disch := first | (simp only [World.size_alloc, World.size_drew, World.size_setCell]; omega) | omega | (simp; done) | (simp; omega)) only [c10, kw1, cell_alloc_old, cell_alloc_new, World.cell?_drewN, World.cell?_drew]; first | done | rfl | (simp; done)
  have m50 : w10.cell? ⟨w5.heap.size, 0, none⟩ = some (.slice a5 F0.length k5) := by simp (disch := first | (simp only [World.size_alloc, World.size_drew, World.size_setCell]; omega) | omega | (simp; done) | (simp; omega)) only [c10, k50, cell_alloc_old, cell_alloc_new, World.cell?_drewN, World.cell?_drew]; first | done | rfl | (simp; done)
  have m51 : w10.cell? ⟨w5.heap.size, 1, none⟩ = some (.slice a5' F1.length k5') := by simp (disch := first | (simp only [World.size_alloc, World.size_drew, World.size_setCell]; omega) | omega | (simp; done) | (simp; omega)) only [c10, k51, cell_alloc_old, cell_alloc_new, World.cell?_drewN, World.cell?_drew]; first | done | rfl | (simp; done)
  have m80 : w10.cell? ⟨w8.heap.size, 0, none⟩ = some (.slice ua F0.length uc) := by simp (disch := first | (simp only [World.size_alloc, World.size_drew, World.size_setCell]; omega) | omega | (simp; done) | (simp; omega)) only [c10, k80, cell_alloc_old, cell_alloc_new, World.cell?_drewN, World.cell?_drew]; first | done | rfl | (simp; done)
  have m81 : w10.cell? ⟨w8.heap.size, 1, none⟩ = some (.slice va F1.length vc) := by simp (disch := first | (simp only [World.size_alloc, World.size_drew, World.size_setCell]; omega) | omega | (simp; done) | (simp; omega)) only [c10, k81, cell_alloc_old, cell_alloc_new, World.cell?_drewN, World.cell?_drew]; first | done | rfl | (simp; done)
  clear k60 k61 kw0 kw1 k50 k51 k80 k81 c3 c4 c5 c6 c7 c8 c9 f3 f4 f5 f6 f7 f8 f9 c10
  simp only [EndAll, List.nil_append, List.cons_append, List.length_cons, List.length_nil, Nat.zero_add, Nat.reduceAdd, List.take_succ_cons, List.take_zero, List.drop_succ_cons, List.drop_zero, putAll, Act.put, List.setIfInBounds_toArray, List.set_cons_succ, List.set_cons_zero]
  go_wp2_with fail
  refine (toSensorFaultS_any fv fs _ (HF.out.new (by repeat (first | with_reducible exact New.refl _ | with_reducible assumption | with_reducible refine New.drew ?_ | with_reducible refine New.drewN ?_ _ | with_reducible refine New.alloc ?_ _ | with_reducible refine New.setCell ?_ (by first | (simp; done) | (simp; omega) | omega) _ | with_reducible refine New.trans ?_ (by with_reducible assumption)))) hlf).mono ?_; rintro e w11 ⟨v11, rfl, b11, o11⟩
  obtain ⟨c11, f11⟩ := b11.rules
  have z11 := b11.size
  try simp only [World.size_alloc, World.size_drew, World.heap_drewN, World.size_setCell] at z11
  have z11_0 : w.heap.size < w11.heap.size := by omega
  have z11_1 : w5.heap.size < w11.heap.size := by omega
  have z11_2 : w6.heap.size < w11.heap.size := by omega
  have z11_3 : w8.heap.size < w11.heap.size := by omega
  go_wp2_with fail
  refine (eqSensorFaultS_any v7 v11 fs fs _ (Rd.new (own_rd o7) (by repeat (first | with_reducible exact New.refl _ | with_reducible assumption | with_reducible refine New.drew ?_ | with_reducible refine New.drewN ?_ _ | with_reducible refine New.alloc ?_ _ | with_reducible refine New.setCell ?_ (by first | (simp; done) | (simp; omega) | omega) _ | with_reducible refine New.trans ?_ (by with_reducible assumption)))) (own_rd o11)).mono ?_; rintro e w12 ⟨rfl, b12⟩
  try with_reducible replace b12 := New.undrawN b12
  try with_reducible replace b12 := New.undraw b12
  obtain ⟨c12, f12⟩ := b12.rules
  have z12 := b12.size
  try simp only [World.size_alloc, World.size_drew, World.heap_drewN, World.size_setCell] at z12
  have z12_0 : w.heap.size < w12.heap.size := by omega
  have z12_1 : w5.heap.size < w12.heap.size := by omega
  have z12_2 : w6.heap.size < w12.heap.size := by omega
  have z12_3 : w8.heap.size < w12.heap.size := by omega
  go_wp2_with fail
  have hpb := own_block_lt o6
  have hfb := own_block_lt o7
  have hub := own_block_lt o8u
  have hvb := own_block_lt o8v
  have n12 : New w8 w12 := (show New w8 w10 from by exact (by repeat (first | with_reducible exact New.refl _ | with_reducible assumption | with_reducible refine New.drew ?_ | with_reducible refine New.drewN ?_ _ | with_reducible refine New.alloc ?_ _ | with_reducible refine New.setCell ?_ (by first | (simp; done) | (simp; omega) | omega) _ | with_reducible refine New.trans ?_ (by with_reducible assumption)))).trans (b11.trans b12)
  refine (markTraffic_any b _ ps (w5.heap.size + 1) w6.heap.size 1 _ (own_new o6 (show New w6 w12 by exact (by repeat (first | with_reducible exact New.refl _ | with_reducible assumption | with_reducible refine New.drew ?_ | with_reducible refine New.drewN ?_ _ | with_reducible refine New.alloc ?_ _ | with_reducible refine New.setCell ?_ (by first | (simp; done) | (simp; omega) | omega) _ | with_reducible refine New.trans ?_ (by with_reducible assumption))))) (by omega) hlp (fun k hk => (hpb k hk).2) (by omega)).mono ?_
  rintro e w13 ⟨rfl, t13⟩
  have n13 : New (w5.alloc (.cells #[.slice a5 F0.length k5, .slice a5' F1.length k5'] 26)) w13 := t13.new (show New _ w12 by exact (by repeat (first | with_reducible exact New.refl _ | with_reducible assumption | with_reducible refine New.drew ?_ | with_reducible refine New.drewN ?_ _ | with_reducible refine New.alloc ?_ _ | with_reducible refine New.setCell ?_ (by first | (simp; done) | (simp; omega) | omega) _ | with_reducible refine New.trans ?_ (by with_reducible assumption)))) (by simp)
  have z13 := t13.1.size
  have f13 := t13.own (own_new o7 (show New w7 w12 by exact (by repeat (first | with_reducible exact New.refl _ | with_reducible assumption | with_reducible refine New.drew ?_ | with_reducible refine New.drewN ?_ _ | with_reducible refine New.alloc ?_ _ | with_reducible refine New.setCell ?_ (by first | (simp; done) | (simp; omega) | omega) _ | with_reducible refine New.trans ?_ (by with_reducible assumption))))) (by omega)
  have u13 := t13.own (own_new o8u n12) (by omega)
  have v13 := t13.own (own_new o8v n12) (by omega)
  have g13 := (t13.above (b := w8.heap.size) (o := 0) (by omega) (by omega)).trans ((n12.trans (New.refl _) |> fun h => show w12.cell? ⟨w8.heap.size, 0, none⟩ = some (.slice ua F0.length uc) from by rw [b12.cell (by omega), b11.cell (by omega)]; exact m80))
  have g13' := (t13.above (b := w8.heap.size) (o := 1) (by omega) (by omega)).trans (show w12.cell? ⟨w8.heap.size, 1, none⟩ = some (.slice va F1.length vc) from by rw [b12.cell (by omega), b11.cell (by omega)]; exact m81)
  go_wp2_with fail
  refine (markSensorFaultS_any v7 fs (w6.heap.size + 1) (1 + ps.length) _ f13 hlf (by omega)).mono ?_
  rintro e w14 ⟨rfl, on14, own14⟩
  have t14 : Turned (w6.heap.size + 1) w7.heap.size w13 w14 := Turned.of_only on14 (by omega) (fun k hk => hfb k hk)
  have n14 : New (w5.alloc (.cells #[.slice a5 F0.length k5, .slice a5' F1.length k5'] 26)) w14 := t14.new n13 (by simp; omega)
  have z14 := t14.1.size
  have u14 := t14.own u13 (by omega)
  have v14 := t14.own v13 (by omega)
  have g14 := (t14.above (b := w8.heap.size) (o := 0) (by omega) (by omega)).trans g13
  have g14' := (t14.above (b := w8.heap.size) (o := 1) (by omega) (by omega)).trans g13'
  have hw14 : w8.heap.size < w14.heap.size := by omega
  obtain ⟨c14, f14⟩ := n14.rules
  clear c11 f11 c12 f12 c1 f1 m60 m61 mw0 mw1 m50 m51 m80 m81 g13 g13' on14
  go_wp2_with fail
  have N5 : New w5 w14 := ((New.refl w5).alloc _).trans n14
  have z14_0 : w.heap.size < w14.heap.size := by omega
  have z14_1 : w5.heap.size < w14.heap.size := by omega
  have q14 : w14.cell? ⟨w5.heap.size, 0, none⟩ = some (.slice a5 F0.length k5) := by rw [c14 _ _ (by simp)]; simp
  have q14' : w14.cell? ⟨w5.heap.size, 1, none⟩ = some (.slice a5' F1.length k5') := by rw [c14 _ _ (by simp)]; simp
  refine (eqReport_any _ _ _ _ F0 F1 F0 F1 _ (own_rd u14) (own_rd v14) (RdI.new (own_rd o5u) N5) (RdI.new (own_rd o5v) N5)).mono ?_; rintro e w15 ⟨rfl, b15⟩
  try with_reducible replace b15 := New.undrawN b15
  try with_reducible replace b15 := New.undraw b15
  obtain ⟨c15, f15⟩ := b15.rules
  have z15 := b15.size
  try simp only [World.size_alloc, World.size_drew, World.heap_drewN, World.size_setCell] at z15
  have z15_0 : w.heap.size < w15.heap.size := by omega
  have z15_1 : w5.heap.size < w15.heap.size := by omega
  have z15_2 : w8.heap.size < w15.heap.size := by omega
  go_wp2_with fail
  refine (markReport2_any _ _ F0 F1 w7.heap.size B8 w8.heap.size 1 _ (own_new u14 b15) (own_new v14 b15) hBB8 (by omega) (by omega) (by omega) (fun k hk => ⟨(hub k hk).2, hB8 k hk⟩) (fun k hk => (hvb k hk).2) (by omega) (by omega)).mono ?_
  rintro e w16 ⟨rfl, t16, ru, rv⟩
  have n16 : New (w5.alloc (.cells #[.slice a5 F0.length k5, .slice a5' F1.length k5'] 26)) w16 := t16.new (n14.trans b15) (by simp; omega)
  have z16 := t16.1.size
  have g16 := (t16.above (b := w8.heap.size) (o := 0) (Nat.le_refl _) (by omega)).trans ((b15.cell hw14).trans g14)
  have g16' := (t16.above (b := w8.heap.size) (o := 1) (Nat.le_refl _) (by omega)).trans ((b15.cell hw14).trans g14')
  have q16 : w16.cell? ⟨w5.heap.size, 0, none⟩ = some (.slice a5 F0.length k5) := by rw [n16.cell (by simp)]; simp
  have q16' : w16.cell? ⟨w5.heap.size, 1, none⟩ = some (.slice a5' F1.length k5') := by rw [n16.cell (by simp)]; simp
  have hB : New (w.alloc (.cells #[.int .i64 b, pv] 38)) w5 := by exact (by repeat (first | with_reducible exact New.refl _ | with_reducible assumption | with_reducible refine New.drew ?_ | with_reducible refine New.drewN ?_ _ | with_reducible refine New.alloc ?_ _ | with_reducible refine New.setCell ?_ (by first | (simp; done) | (simp; omega) | omega) _ | with_reducible refine New.trans ?_ (by with_reducible assumption)))
  have N0 : New w w5 := ((New.refl w).alloc _).trans hB
  have e16 : w16.cell? ⟨w.heap.size, 0, none⟩ = some (.int .i64 b) := by
    rw [n16.cell (by simp; omega), cell_alloc_old _ _ _ _ (by omega), hB.cell (by simp)]; simp
  have e16' : w16.cell? ⟨w.heap.size, 1, none⟩ = some pv := by
    rw [n16.cell (by simp; omega), cell_alloc_old _ _ _ _ (by omega), hB.cell (by simp)]; simp
  have N16 : New w w16 := (N0.alloc _).trans n16
  have z16_0 : w.heap.size < w16.heap.size := by omega
  have z16_1 : w5.heap.size < w16.heap.size := by omega
  have z16_2 : w8.heap.size < w16.heap.size := by omega
  clear c14 f14 c15 f15 q14 q14' g14 g14' t16 t14 t13
  go_wp2_with fail
  refine (heldReport_any _ _ 1 F0.length F1.length _ ru rv (by omega) (by omega) (by omega)).mono ?_; rintro e w17 ⟨rfl, b17⟩
  try with_reducible replace b17 := New.undrawN b17
  try with_reducible replace b17 := New.undraw b17
  obtain ⟨c17, f17⟩ := b17.rules
  have z17 := b17.size
  try simp only [World.size_alloc, World.size_drew, World.heap_drewN, World.size_setCell] at z17
  have z17_0 : w.heap.size < w17.heap.size := by omega
  have z17_1 : w5.heap.size < w17.heap.size := by omega
  have z17_2 : w8.heap.size < w17.heap.size := by omega
  go_wp2_with fail
  refine (toTraffic_any b pv ps _ (HP.out.new (N16.trans b17)) hlp).mono ?_; rintro e w18 ⟨p18, rfl, b18, o18⟩
  obtain ⟨c18, f18⟩ := b18.rules
  have z18 := b18.size
  try simp only [World.size_alloc, World.size_drew, World.heap_drewN, World.size_setCell] at z18
  have z18_0 : w.heap.size < w18.heap.size := by omega
  have z18_1 : w5.heap.size < w18.heap.size := by omega
  have z18_2 : w8.heap.size < w18.heap.size := by omega
  go_wp2_with fail
  refine (toSensorFaultS_any fv fs _ (HF.out.new ((N16.trans b17).trans b18)) hlf).mono ?_; rintro e w19 ⟨v19, rfl, b19, o19⟩
  obtain ⟨c19, f19⟩ := b19.rules
  have z19 := b19.size
  try simp only [World.size_alloc, World.size_drew, World.heap_drewN, World.size_setCell] at z19
  have z19_0 : w.heap.size < w19.heap.size := by omega
  have z19_1 : w5.heap.size < w19.heap.size := by omega
  have z19_2 : w8.heap.size < w19.heap.size := by omega
  go_wp2_with fail
  refine (HI.out _ _ _ (RdI.new (own_rd o18) b19) (own_rd o19)).mono ?_; rintro e w20 ⟨xa, xc, ya, yc, rfl, b20, o20u, B20, hB20, hu20, o20v⟩
  dsimp only at o20u hu20 o20v
  obtain ⟨c20, f20⟩ := b20.rules
  have z20 := b20.size
  try simp only [World.size_alloc, World.size_drew, World.heap_drewN, World.size_setCell] at z20
  have z20_0 : w.heap.size < w20.heap.size := by omega
  have z20_1 : w5.heap.size < w20.heap.size := by omega
  have z20_2 : w8.heap.size < w20.heap.size := by omega
  go_wp2_with fail
  have N20 : New w16 w20 := ((b17.trans b18).trans b19).trans b20
  have N520 : New w5 w20 := (((New.refl w5).alloc _).trans n16).trans N20
  refine (eqReport_any _ _ _ _ F0 F1 F0 F1 _ (RdI.new (own_rd o20u) ((New.refl _).alloc _)) (RdI.new (own_rd o20v) ((New.refl _).alloc _)) (RdI.new (own_rd o5u) (N520.alloc _)) (RdI.new (own_rd o5v) (N520.alloc _))).mono ?_; rintro e w21 ⟨rfl, b21⟩
  try with_reducible replace b21 := New.undrawN b21
  try with_reducible replace b21 := New.undraw b21
  obtain ⟨c21, f21⟩ := b21.rules
  have z21 := b21.size
  try simp only [World.size_alloc, World.size_drew, World.heap_drewN, World.size_setCell] at z21
  have z21_0 : w.heap.size < w21.heap.size := by omega
  have z21_1 : w5.heap.size < w21.heap.size := by omega
  have z21_2 : w8.heap.size < w21.heap.size := by omega
  go_wp2_with fail
  have N21 : New w16 w21 := (N20.alloc _).trans b21
  refine (heldReport_any _ _ 1 F0.length F1.length _ (RdI.new ru N21) (RdI.new rv N21) (by omega) (by omega) (by omega)).mono ?_; rintro e w22 ⟨rfl, b22⟩
  try with_reducible replace b22 := New.undrawN b22
  try with_reducible replace b22 := New.undraw b22
  obtain ⟨c22, f22⟩ := b22.rules
  have z22 := b22.size
  try simp only [World.size_alloc, World.size_drew, World.heap_drewN, World.size_setCell] at z22
  have z22_0 : w.heap.size < w22.heap.size := by omega
  have z22_1 : w5.heap.size < w22.heap.size := by omega
  have z22_2 : w8.heap.size < w22.heap.size := by omega
  go_wp2_with fail
  go_ret
  exact ⟨rfl, (N16.trans N21).trans b22⟩
namespace fnExactReportOf
theorem own : ownKnob Try.prog.godebug = none := by kernel_rfl
theorem reads : (Try.f9.params.toList.all fun t => Try.prog.readableRec t && decide (t < Try.prog.types.size)) = true := by kernel_rfl
set_option maxRecDepth 100000 in
theorem lifted (os : Os) (started : os.Started) (H : Type) (enc : TypeId × Value → H) :
    ReturnsInHanded {} Try.checked os 9 .any (Rows.fnExactReportOfSpec.pre6 enc Try.prog Try.f9 Rows.fnExactReportOfRow.domain false) (Rows.fnExactReportOfSpec.post enc Try.prog Try.f9 false true false false) := by
  refine returnsInHanded_of_change (C := Try.checked) own started (by kernel_rfl) Try.func9
    (ChangeSpec.witness6 (enc := enc) (C := Try.checked) false ⟨#[], #[.agg #[.int .i64 0, .slice none 0 0], .slice none 0 0], []⟩ 8 (by kernel_rfl) (by kernel_rfl) (by kernel_rfl) (by kernel_rfl)) ?_
  intro W base args ds gs before hval0 hW hcnd _
  have hval : ∀ (j : Nat) t v, Try.f9.params[j]? = some t → args[j]? = some v → Value.okWide Try.prog W .any base t v := hval0
  have hW' := hW
  obtain ⟨p, q, hA0, hV, rfl, hfz, hnd⟩ := hW
  have hA : DataW.TrodAll enc Try.prog W 0 (fun _ => true) true Try.f9.params.toList args.toList ds p := hA0
  rw [Try.params9] at hA hval
  obtain ⟨v0, vs0, d0, ds0, p0, q0, hargs, rfl, rfl, h0, r0⟩ := trodAll_cons hA
  obtain ⟨v1, vs1, d1, ds1, p1, q1, rfl, rfl, rfl, h1, r1⟩ := trodAll_cons r0
  obtain ⟨rfl, rfl, rfl⟩ := trodAll_nil r1
  obtain rfl : args = #[v0, v1] := by cases args; simp_all
  have o0 := hval 0 38 v0 rfl rfl
  have o1 := hval 1 62 v1 rfl rfl
  clear hA0 hval hval0
  obtain ⟨rfl, rfl⟩ := trodVars_none hV
  have walk : Calls Try.prog 9 #[v0, v1] W fun e w' => e = .returned (.bool true) ∧ New W w' := by
    obtain ⟨b, s, ps, rfl, hps⟩ := openTraffic h0 o0
    obtain ⟨fs, hfs⟩ := openSensorFaultS h1 o1
    exact lawReportOf_any b s _ ps fs W hps hfs
  refine walk.mono fun e W' ⟨he, hg⟩ => ?_
  subst he
  exact ⟨_, rfl, law_post laidOut (fun t ht => reads_of reads t ht) (fun n hn => by cases hn) rfl Try.underlying4 hW' rfl hg⟩
theorem proved : Rows.FnExactReportOfSaid :=
  OpenClaim.holds_of_wide 9 Try.f9 rfl rfl rfl rfl rfl rfl rfl ⟨rfl, rfl, rfl, rfl, rfl⟩ rfl rfl rfl rfl rfl (by kernel_rfl) Try.func9 (by kernel_rfl)
    (of_decide_eq_true (by kernel_rfl)) (by unfold Func.isWrapper; first | (rw [if_pos (by decide +kernel)]; kernel_rfl) | (rw [if_neg (by decide +kernel)]; exact ⟨rfl, rfl⟩))
    (fun os started H enc _ => lifted os started H enc)
#print axioms proved
end fnExactReportOf
end Go.Proofs.Ytinlichcbjpeaaa
