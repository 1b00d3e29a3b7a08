/- Contracts: faults and reports drawn from a code. -/
import Derived.WalkSpells
import Derived.Test.YtinlichcbjpeaaaProg
import Derived.Test.YtinlichcbjpeaaaDraw10
import Derived.Test.YtinlichcbjpeaaaFaultS
import Derived.Test.YtinlichcbjpeaaaDrawQ
namespace Go.Proofs.Ytinlichcbjpeaaa
open Go Go.Proofs Go.RowKit
set_option linter.unusedVariables false
set_option linter.unusedSimpArgs false
set_option maxRecDepth 100000
theorem alloc_rowF {w : World} {b : Nat} {cs : Array Value} {e : TypeId} (h : b = w.heap.size) (j : Nat) (u : Value) (hj : cs.toList[j]? = some u) : (w.alloc (.cells cs e)).cell? ((⟨b, 0, none⟩ : Addr).add j) = some u := by
  have : (⟨b, 0, none⟩ : Addr).add j = ⟨b, j, none⟩ := by unfold Addr.add; split <;> simp_all
  rw [this, cell_alloc_new _ _ _ _ _ h]; simpa using hj
/-- A slice that lies in blocks from M on. -/
def RdM2 (M : Nat) (w : World) (v : Value) (n : Nat) (cs : List Value) : Prop := Rd w v n cs ∧ ∀ b o k c, v = .slice (some ⟨b, o, none⟩) k c → M ≤ b
theorem own_rdM2 {base : Nat} {w : World} {e : TypeId} {sz : Nat} {v : Value} {n : Nat} {cs : List Value} (h : w.ownsRow base e sz v n cs) : RdM2 base w v n cs :=
  ⟨own_rd h, fun b o k c e => by
    subst e
    exact (own_block_lt h b (by rcases h.2 with ⟨h1, _⟩ | ⟨g, cap, cur, h1, _⟩ <;> cases h1; rfl)).1⟩
theorem RdM2.mono {M M' : Nat} {w : World} {v : Value} {n : Nat} {cs : List Value} (h : RdM2 M w v n cs) (hM : M' ≤ M) : RdM2 M' w v n cs := ⟨h.1, fun b o n c e => Nat.le_trans hM (h.2 b o n c e)⟩
theorem RdM2.kept {M : Nat} {w w' : World} {v : Value} {n : Nat} {cs : List Value} (h : RdM2 M w v n cs) (hz : w.heap.size ≤ w'.heap.size) (hb : ∀ k, M ≤ k → k < w.heap.size → w'.heap[k]? = w.heap[k]?) : RdM2 M w' v n cs := by
  obtain ⟨⟨a, cap, rfl, hn, h0, hc⟩, hS⟩ := h
  refine ⟨⟨a, cap, rfl, hn, h0, fun j u hu => ?_⟩, hS⟩
  obtain ⟨b', o, ha, hlt, hcell⟩ := hc j u hu
  subst ha
  exact ⟨b', o, rfl, Nat.lt_of_lt_of_le hlt hz, (World.cell?_of_block (hb _ (hS _ _ _ _ rfl) hlt)).trans hcell⟩
def DrawFs (S : Nat) (w : World) (e : Ending) (w' : World) : Prop := ∃ (v : Value) (xs : List ESensorFault), e = .returned v ∧ xs.length ≤ 100 ∧ RdM2 w.heap.size w' v xs.length (xs.flatMap encSensorFault) ∧ Dr S w w'
set_option maxHeartbeats 4000000 in
theorem l11DrawFaults_any {B : Nat} (S : Nat) (n : Int) (w : World) (hs : Src B S w) : Calls Try.prog 67 #[.pointer (some ⟨S, 0, none⟩), .int .i64 n] w (DrawFs S w) := by
  obtain ⟨i1, hi, hz0, hz1, hz2⟩ := info_parts infoSensorFault
  have hS := hs.lt
  have HS := Lib.hid hs; clear hs
  have own0 : (w.alloc (.cells #[] 77)).ownsRow w.heap.size 77 3 (.slice (some ⟨w.heap.size, 0, none⟩) 0 0) 0 [] := own_empty (Nat.le_refl _)
  go_enter Try.func67, Try.ntmps67
  go_wp2_with fail
  go_loopw [5, 6] (fun o b wr => ∃ (xs : List ESensorFault) (k : Int), b = .int .i64 k ∧ 0 ≤ k ∧ k ≤ 7 ∧ (xs.length : Int) ≤ 2 * k ∧ wr.ownsRow w.heap.size 77 3 o xs.length (xs.flatMap encSensorFault) ∧ Dr S w wr) (fun _ b _ => (7 - intOf b).toNat)
  case atStart => exact ⟨[], 0, rfl, by omega, by omega, by simp, own0, (by repeat (first | with_reducible refine Dr.setCell ?_ (by first | (simp; done) | (simp; omega) | omega) _ | with_reducible refine Dr.alloc ?_ _ | with_reducible exact Dr.refl _ _ | with_reducible assumption | with_reducible refine Dr.trans ?_ (by with_reducible assumption) | with_reducible refine Dr.trans ?_ (Dr.of_new (by with_reducible assumption)) | with_reducible refine Dr.drewN ?_ _ | with_reducible refine Dr.drew ?_))⟩
  case round =>
    obtain ⟨xs, k, rfl, hk0, hk7, hlen, hown, hb⟩ := hrel
    clear own0
    have hbz := hb.size
    by_cases hlt : k < n ∧ k < 7
    · obtain ⟨hlt1, hlt2⟩ := hlt
      have hd1 : decide (k < n) = true := by simpa using hlt1
      have hd2 : decide (k < 7) = true := by simpa using hlt2
      go_wp2_with fail
      refine (l01Next_n S _ _ (Dr.src ?hs11 HS.out)).mono ?_
      case hs11 => exact (by repeat (first | with_reducible refine Dr.setCell ?_ (by first | (simp; done) | (simp; omega) | omega) _ | with_reducible refine Dr.alloc ?_ _ | with_reducible exact Dr.refl _ _ | with_reducible assumption | with_reducible refine Dr.trans ?_ (by with_reducible assumption) | with_reducible refine Dr.trans ?_ (Dr.of_new (by with_reducible assumption)) | with_reducible refine Dr.drewN ?_ _ | with_reducible refine Dr.drew ?_))
      rintro e w1 ⟨r1, rfl, b1⟩
      have own1 := Lib.hid (own_dr hown b1 (by omega))
      have z1 := b1.size
      try simp only [World.size_alloc, World.size_drew, World.heap_drewN, World.size_setCell] at z1
      have y1 : S < w1.heap.size := by omega
      go_wp2_with fail
      · skip
        refine (l01Next_n S _ _ (Dr.src ?hs12 HS.out)).mono ?_
        case hs12 => exact (by repeat (first | with_reducible refine Dr.setCell ?_ (by first | (simp; done) | (simp; omega) | omega) _ | with_reducible refine Dr.alloc ?_ _ | with_reducible exact Dr.refl _ _ | with_reducible assumption | with_reducible refine Dr.trans ?_ (by with_reducible assumption) | with_reducible refine Dr.trans ?_ (Dr.of_new (by with_reducible assumption)) | with_reducible refine Dr.drewN ?_ _ | with_reducible refine Dr.drew ?_))
        rintro e w2 ⟨r2, rfl, b2⟩
        have own2 := Lib.hid (own_dr own1.out b2 (by omega))
        have z2 := b2.size
        try simp only [World.size_alloc, World.size_drew, World.heap_drewN, World.size_setCell] at z2
        try clear c1_0 f1_0 K1_0
        try clear c1_1 f1_1 K1_1
        try clear c1_2 f1_2 K1_2
        try clear c1_3 f1_3 K1_3
        try clear c1_4 f1_4 K1_4
        try clear c1_5 f1_5 K1_5
        have y2 : S < w2.heap.size := by omega
        go_wp2_with fail
        refine (l01Next_n S _ _ (Dr.src ?hs13 HS.out)).mono ?_
        case hs13 => exact (by repeat (first | with_reducible refine Dr.setCell ?_ (by first | (simp; done) | (simp; omega) | omega) _ | with_reducible refine Dr.alloc ?_ _ | with_reducible exact Dr.refl _ _ | with_reducible assumption | with_reducible refine Dr.trans ?_ (by with_reducible assumption) | with_reducible refine Dr.trans ?_ (Dr.of_new (by with_reducible assumption)) | with_reducible refine Dr.drewN ?_ _ | with_reducible refine Dr.drew ?_))
        rintro e w3 ⟨r3, rfl, b3⟩
        have z3 := b3.size
        try simp only [World.size_alloc, World.size_drew, World.heap_drewN, World.size_setCell] at z3
        try clear c2_0 f2_0 K2_0
        try clear c2_1 f2_1 K2_1
        try clear c2_2 f2_2 K2_2
        try clear c2_3 f2_3 K2_3
        try clear c2_4 f2_4 K2_4
        try clear c2_5 f2_5 K2_5
        try clear c1_0 f1_0 K1_0
        try clear c1_1 f1_1 K1_1
        try clear c1_2 f1_2 K1_2
        try clear c1_3 f1_3 K1_3
        try clear c1_4 f1_4 K1_4
        try clear c1_5 f1_5 K1_5
        have y3 : S < w3.heap.size := by omega
        go_wp2_with (first | (at_builtin; refine wpList_append_own _ rfl _ _ 66 rfl (w.heap.size) 77 i1 (Value.agg #[.int .i64 0, .int .i64 0, .int .i64 0]) 3 24 Try.underlying66 hi hz0 hz1 hz2 rfl (by decide) _ _ _ rfl (((own_dr own2.out b3 (by omega)).alloc _)) ⟨w3.heap.size, 0, none⟩ 1 1 [Value.int .i64 (k), Value.int .i64 (r2), Value.int .i64 (r3)] rfl rfl (fun j u hj => alloc_rowF (by first | rfl | simp) j u hj) (by intro u hu; simp at hu; rcases hu with rfl | rfl | rfl <;> rfl) (by unfold maxLen; omega) (by omega) (by first | (simp; done) | (simp; omega) | omega) ?_; intro va wa howna hgra _))
        have ba : Dr S w wa := Dr.grown (show Dr S w _ from by exact (by repeat (first | with_reducible refine Dr.setCell ?_ (by first | (simp; done) | (simp; omega) | omega) _ | with_reducible refine Dr.alloc ?_ _ | with_reducible exact Dr.refl _ _ | with_reducible assumption | with_reducible refine Dr.trans ?_ (by with_reducible assumption) | with_reducible refine Dr.trans ?_ (Dr.of_new (by with_reducible assumption)) | with_reducible refine Dr.drewN ?_ _ | with_reducible refine Dr.drew ?_))) hgra (fun q hq => (own_block_lt (own_dr own2.out b3 (by omega)) q hq).1)
        go_roundw
        case rel => exact ⟨xs ++ [⟨k, r2, r3⟩], k + 1, rfl, by omega, by omega, by simp; omega, by simpa [List.flatMap_append, encSensorFault, Nat.add_assoc] using howna, ba⟩
        case measure => simp [intOf]; omega
      · skip
        refine (l01Next_n S _ _ (Dr.src ?hs14 HS.out)).mono ?_
        case hs14 => exact (by repeat (first | with_reducible refine Dr.setCell ?_ (by first | (simp; done) | (simp; omega) | omega) _ | with_reducible refine Dr.alloc ?_ _ | with_reducible exact Dr.refl _ _ | with_reducible assumption | with_reducible refine Dr.trans ?_ (by with_reducible assumption) | with_reducible refine Dr.trans ?_ (Dr.of_new (by with_reducible assumption)) | with_reducible refine Dr.drewN ?_ _ | with_reducible refine Dr.drew ?_))
        rintro e w2 ⟨r2, rfl, b2⟩
        have own2 := Lib.hid (own_dr own1.out b2 (by omega))
        have z2 := b2.size
        try simp only [World.size_alloc, World.size_drew, World.heap_drewN, World.size_setCell] at z2
        try clear c1_0 f1_0 K1_0
        try clear c1_1 f1_1 K1_1
        try clear c1_2 f1_2 K1_2
        try clear c1_3 f1_3 K1_3
        try clear c1_4 f1_4 K1_4
        try clear c1_5 f1_5 K1_5
        have y2 : S < w2.heap.size := by omega
        go_wp2_with fail
        · skip
          refine (l01Next_any S _ _ (Dr.src ?hs15 HS.out)).mono ?_
          case hs15 => exact (by repeat (first | with_reducible refine Dr.setCell ?_ (by first | (simp; done) | (simp; omega) | omega) _ | with_reducible refine Dr.alloc ?_ _ | with_reducible exact Dr.refl _ _ | with_reducible assumption | with_reducible refine Dr.trans ?_ (by with_reducible assumption) | with_reducible refine Dr.trans ?_ (Dr.of_new (by with_reducible assumption)) | with_reducible refine Dr.drewN ?_ _ | with_reducible refine Dr.drew ?_))
          rintro e w3 ⟨r3, rfl, p3, q3, b3⟩
          replace q3 : r3 ≤ 2 := (by omega)
          have z3 := b3.size
          try simp only [World.size_alloc, World.size_drew, World.heap_drewN, World.size_setCell] at z3
          try clear c2_0 f2_0 K2_0
          try clear c2_1 f2_1 K2_1
          try clear c2_2 f2_2 K2_2
          try clear c2_3 f2_3 K2_3
          try clear c2_4 f2_4 K2_4
          try clear c2_5 f2_5 K2_5
          try clear c1_0 f1_0 K1_0
          try clear c1_1 f1_1 K1_1
          try clear c1_2 f1_2 K1_2
          try clear c1_3 f1_3 K1_3
          try clear c1_4 f1_4 K1_4
          try clear c1_5 f1_5 K1_5
          have y3 : S < w3.heap.size := by omega
          go_wp2_with (first | (at_builtin; refine wpList_append_own _ rfl _ _ 66 rfl (w.heap.size) 77 i1 (Value.agg #[.int .i64 0, .int .i64 0, .int .i64 0]) 3 24 Try.underlying66 hi hz0 hz1 hz2 rfl (by decide) _ _ _ rfl (((own_dr own2.out b3 (by omega)).alloc _)) ⟨w3.heap.size, 0, none⟩ 2 2 [Value.int .i64 (k), Value.int .i64 (0), Value.int .i64 (0), Value.int .i64 (k), Value.int .i64 (1), Value.int .i64 (r3 / 2)] rfl rfl (fun j u hj => alloc_rowF (by first | rfl | simp) j u hj) (by intro u hu; simp at hu; rcases hu with rfl | rfl | rfl | rfl | rfl | rfl <;> rfl) (by unfold maxLen; omega) (by omega) (by first | (simp; done) | (simp; omega) | omega) ?_; intro va wa howna hgra _))
          have ba : Dr S w wa := Dr.grown (show Dr S w _ from by exact (by repeat (first | with_reducible refine Dr.setCell ?_ (by first | (simp; done) | (simp; omega) | omega) _ | with_reducible refine Dr.alloc ?_ _ | with_reducible exact Dr.refl _ _ | with_reducible assumption | with_reducible refine Dr.trans ?_ (by with_reducible assumption) | with_reducible refine Dr.trans ?_ (Dr.of_new (by with_reducible assumption)) | with_reducible refine Dr.drewN ?_ _ | with_reducible refine Dr.drew ?_))) hgra (fun q hq => (own_block_lt (own_dr own2.out b3 (by omega)) q hq).1)
          go_roundw
          case rel => exact ⟨xs ++ [⟨k, 0, 0⟩, ⟨k, 1, r3 / 2⟩], k + 1, rfl, by omega, by omega, by simp; omega, by simpa [List.flatMap_append, encSensorFault, Nat.add_assoc] using howna, ba⟩
          case measure => simp [intOf]; omega
        · go_roundw
          case rel => exact ⟨xs, k + 1, rfl, by omega, by omega, by omega, own2.out, (by repeat (first | with_reducible refine Dr.setCell ?_ (by first | (simp; done) | (simp; omega) | omega) _ | with_reducible refine Dr.alloc ?_ _ | with_reducible exact Dr.refl _ _ | with_reducible assumption | with_reducible refine Dr.trans ?_ (by with_reducible assumption) | with_reducible refine Dr.trans ?_ (Dr.of_new (by with_reducible assumption)) | with_reducible refine Dr.drewN ?_ _ | with_reducible refine Dr.drew ?_))⟩
          case measure => simp [intOf]; omega
      · go_roundw
        case rel => exact ⟨xs, k + 1, rfl, by omega, by omega, by omega, own1.out, (by repeat (first | with_reducible refine Dr.setCell ?_ (by first | (simp; done) | (simp; omega) | omega) _ | with_reducible refine Dr.alloc ?_ _ | with_reducible exact Dr.refl _ _ | with_reducible assumption | with_reducible refine Dr.trans ?_ (by with_reducible assumption) | with_reducible refine Dr.trans ?_ (Dr.of_new (by with_reducible assumption)) | with_reducible refine Dr.drewN ?_ _ | with_reducible refine Dr.drew ?_))⟩
        case measure => simp [intOf]; omega
    · have hl14 : xs.length ≤ 14 := by omega
      replace hown := Lib.hid hown
      have hd : (decide (k < n) = true ∧ decide (k < 7) = false) ∨ (decide (k < n) = false) := by
        by_cases h1 : k < n
        · exact .inl ⟨by simpa using h1, by simp; omega⟩
        · exact .inr (by simpa using h1)
      clear hlt
      rcases hd with ⟨hd1, hd2⟩ | hd1
      all_goals
        go_wp2_with fail
        refine (l01Next_n S _ _ (Dr.src ?hs16 HS.out)).mono ?_
        case hs16 => exact (by repeat (first | with_reducible refine Dr.setCell ?_ (by first | (simp; done) | (simp; omega) | omega) _ | with_reducible refine Dr.alloc ?_ _ | with_reducible exact Dr.refl _ _ | with_reducible assumption | with_reducible refine Dr.trans ?_ (by with_reducible assumption) | with_reducible refine Dr.trans ?_ (Dr.of_new (by with_reducible assumption)) | with_reducible refine Dr.drewN ?_ _ | with_reducible refine Dr.drew ?_))
        rintro e w1 ⟨r1, rfl, b1⟩
        have own1 := Lib.hid (own_dr hown.out b1 (by omega))
        have z1 := b1.size
        try simp only [World.size_alloc, World.size_drew, World.heap_drewN, World.size_setCell] at z1
        have y1 : S < w1.heap.size := by omega
        rcases (by omega : r1 = 0 ∨ r1 = 1 ∨ (r1 ≠ 0 ∧ r1 ≠ 1)) with rfl | rfl | ⟨hn0, hn1⟩
        · go_wp2_with fail
          refine (l01PickL_n S [-1, 0, n] _ _ (Dr.src ?hs17 HS.out)).mono ?_
          case hs17 => exact (by repeat (first | with_reducible refine Dr.setCell ?_ (by first | (simp; done) | (simp; omega) | omega) _ | with_reducible refine Dr.alloc ?_ _ | with_reducible exact Dr.refl _ _ | with_reducible assumption | with_reducible refine Dr.trans ?_ (by with_reducible assumption) | with_reducible refine Dr.trans ?_ (Dr.of_new (by with_reducible assumption)) | with_reducible refine Dr.drewN ?_ _ | with_reducible refine Dr.drew ?_))
          rintro e w2 ⟨r2, rfl, b2⟩
          have own2 := Lib.hid (own_dr (own1.out.alloc (.cells #[.int .i64 (-1), .int .i64 0, .int .i64 n] 2)) b2 (by omega))
          have z2 := b2.size
          try simp only [World.size_alloc, World.size_drew, World.heap_drewN, World.size_setCell] at z2
          try clear c1_0 f1_0 K1_0
          try clear c1_1 f1_1 K1_1
          try clear c1_2 f1_2 K1_2
          try clear c1_3 f1_3 K1_3
          try clear c1_4 f1_4 K1_4
          try clear c1_5 f1_5 K1_5
          have y2 : S < w2.heap.size := by omega
          go_wp2_with fail
          refine (l01PickL_n S [0, 1, 2] _ _ (Dr.src ?hs18 HS.out)).mono ?_
          case hs18 => exact (by repeat (first | with_reducible refine Dr.setCell ?_ (by first | (simp; done) | (simp; omega) | omega) _ | with_reducible refine Dr.alloc ?_ _ | with_reducible exact Dr.refl _ _ | with_reducible assumption | with_reducible refine Dr.trans ?_ (by with_reducible assumption) | with_reducible refine Dr.trans ?_ (Dr.of_new (by with_reducible assumption)) | with_reducible refine Dr.drewN ?_ _ | with_reducible refine Dr.drew ?_))
          rintro e w3 ⟨r3, rfl, b3⟩
          have own3 := Lib.hid (own_dr (own2.out.alloc (.cells #[.int .i64 0, .int .i64 1, .int .i64 2] 2)) b3 (by omega))
          have z3 := b3.size
          try simp only [World.size_alloc, World.size_drew, World.heap_drewN, World.size_setCell] at z3
          try clear c2_0 f2_0 K2_0
          try clear c2_1 f2_1 K2_1
          try clear c2_2 f2_2 K2_2
          try clear c2_3 f2_3 K2_3
          try clear c2_4 f2_4 K2_4
          try clear c2_5 f2_5 K2_5
          try clear c1_0 f1_0 K1_0
          try clear c1_1 f1_1 K1_1
          try clear c1_2 f1_2 K1_2
          try clear c1_3 f1_3 K1_3
          try clear c1_4 f1_4 K1_4
          try clear c1_5 f1_5 K1_5
          have y3 : S < w3.heap.size := by omega
          go_wp2_with fail
          refine (l01Next_n S _ _ (Dr.src ?hs19 HS.out)).mono ?_
          case hs19 => exact (by repeat (first | with_reducible refine Dr.setCell ?_ (by first | (simp; done) | (simp; omega) | omega) _ | with_reducible refine Dr.alloc ?_ _ | with_reducible exact Dr.refl _ _ | with_reducible assumption | with_reducible refine Dr.trans ?_ (by with_reducible assumption) | with_reducible refine Dr.trans ?_ (Dr.of_new (by with_reducible assumption)) | with_reducible refine Dr.drewN ?_ _ | with_reducible refine Dr.drew ?_))
          rintro e w4 ⟨r4, rfl, b4⟩
          have z4 := b4.size
          try simp only [World.size_alloc, World.size_drew, World.heap_drewN, World.size_setCell] at z4
          try clear c3_0 f3_0 K3_0
          try clear c3_1 f3_1 K3_1
          try clear c3_2 f3_2 K3_2
          try clear c3_3 f3_3 K3_3
          try clear c3_4 f3_4 K3_4
          try clear c3_5 f3_5 K3_5
          try clear c2_0 f2_0 K2_0
          try clear c2_1 f2_1 K2_1
          try clear c2_2 f2_2 K2_2
          try clear c2_3 f2_3 K2_3
          try clear c2_4 f2_4 K2_4
          try clear c2_5 f2_5 K2_5
          try clear c1_0 f1_0 K1_0
          try clear c1_1 f1_1 K1_1
          try clear c1_2 f1_2 K1_2
          try clear c1_3 f1_3 K1_3
          try clear c1_4 f1_4 K1_4
          try clear c1_5 f1_5 K1_5
          have y4 : S < w4.heap.size := by omega
          go_wp2_with (first | (at_builtin; refine wpList_append_own _ rfl _ _ 66 rfl (w.heap.size) 77 i1 (Value.agg #[.int .i64 0, .int .i64 0, .int .i64 0]) 3 24 Try.underlying66 hi hz0 hz1 hz2 rfl (by decide) _ _ _ rfl (((own_dr own3.out b4 (by omega)).alloc _)) ⟨w4.heap.size, 0, none⟩ 1 1 [Value.int .i64 (r2), Value.int .i64 (r3), Value.int .i64 (r4)] rfl rfl (fun j u hj => alloc_rowF (by first | rfl | simp) j u hj) (by intro u hu; simp at hu; rcases hu with rfl | rfl | rfl <;> rfl) (by unfold maxLen; omega) (by omega) (by first | (simp; done) | (simp; omega) | omega) ?_; intro va wa howna hgra _))
          have ba : Dr S w wa := Dr.grown (show Dr S w _ from by exact (by repeat (first | with_reducible refine Dr.setCell ?_ (by first | (simp; done) | (simp; omega) | omega) _ | with_reducible refine Dr.alloc ?_ _ | with_reducible exact Dr.refl _ _ | with_reducible assumption | with_reducible refine Dr.trans ?_ (by with_reducible assumption) | with_reducible refine Dr.trans ?_ (Dr.of_new (by with_reducible assumption)) | with_reducible refine Dr.drewN ?_ _ | with_reducible refine Dr.drew ?_))) hgra (fun q hq => (own_block_lt (own_dr own3.out b4 (by omega)) q hq).1)
          go_ret
          refine ⟨_, xs ++ [⟨r2, r3, r4⟩], rfl, by simp; omega, own_rdM2 (e := 77) (sz := 3) ?_, ba⟩
          simpa [List.flatMap_append, encSensorFault] using howna
        · go_wp2_with fail
          have own2 : (w1.alloc (.cells #[] 77)).ownsRow w.heap.size 77 3 (.slice (some ⟨w1.heap.size, 0, none⟩) 0 0) 0 [] := own_empty (by have := b1.size; omega)
          have own2' := Lib.hid own2; clear own2 own1 hown
          go_loopw [5, 7] (fun o i wr => ∃ (ys : List ESensorFault) (j : Nat), i = .int .i64 j ∧ j ≤ 9 ∧ ys.length = j ∧ wr.ownsRow w.heap.size 77 3 o ys.length (ys.flatMap encSensorFault) ∧ Dr S w wr) (fun _ i _ => (10 - intOf i).toNat)
          case atStart => exact ⟨[], 0, rfl, by omega, rfl, own2'.out, (by repeat (first | with_reducible refine Dr.setCell ?_ (by first | (simp; done) | (simp; omega) | omega) _ | with_reducible refine Dr.alloc ?_ _ | with_reducible exact Dr.refl _ _ | with_reducible assumption | with_reducible refine Dr.trans ?_ (by with_reducible assumption) | with_reducible refine Dr.trans ?_ (Dr.of_new (by with_reducible assumption)) | with_reducible refine Dr.drewN ?_ _ | with_reducible refine Dr.drew ?_))⟩
          case round =>
            rename World => wq
            obtain ⟨ys, j, rfl, hj, hyl, hown, hq⟩ := hrel
            clear own2' b1
            have hqz := hq.size
            replace hown := Lib.hid hown
            go_wp2_with fail
            refine (l01Next_any S _ _ (Dr.src ?hs20 HS.out)).mono ?_
            case hs20 => exact (by repeat (first | with_reducible refine Dr.setCell ?_ (by first | (simp; done) | (simp; omega) | omega) _ | with_reducible refine Dr.alloc ?_ _ | with_reducible exact Dr.refl _ _ | with_reducible assumption | with_reducible refine Dr.trans ?_ (by with_reducible assumption) | with_reducible refine Dr.trans ?_ (Dr.of_new (by with_reducible assumption)) | with_reducible refine Dr.drewN ?_ _ | with_reducible refine Dr.drew ?_))
            rintro e w2 ⟨r2, rfl, p2, q2, b2⟩
            replace q2 : r2 ≤ 1 := (by omega)
            have z2 := b2.size
            try simp only [World.size_alloc, World.size_drew, World.heap_drewN, World.size_setCell] at z2
            try clear c1_0 f1_0 K1_0
            try clear c1_1 f1_1 K1_1
            try clear c1_2 f1_2 K1_2
            try clear c1_3 f1_3 K1_3
            try clear c1_4 f1_4 K1_4
            try clear c1_5 f1_5 K1_5
            have y2 : S < w2.heap.size := by omega
            have own2 := Lib.hid (own_dr hown.out b2 (by omega))
            by_cases hc : (j : Int) < 8 + r2
            · go_wp2_with (first | (at_builtin; refine wpList_append_own _ rfl _ _ 66 rfl (w.heap.size) 77 i1 (Value.agg #[.int .i64 0, .int .i64 0, .int .i64 0]) 3 24 Try.underlying66 hi hz0 hz1 hz2 rfl (by decide) _ _ _ rfl (own2.out.alloc _) ⟨w2.heap.size, 0, none⟩ 1 1 [Value.int .i64 ((j : Int) / 2), Value.int .i64 ((j : Int) % 2), Value.int .i64 (1)] rfl rfl (fun j u hj => alloc_rowF (by first | rfl | simp) j u hj) (by intro u hu; simp at hu; rcases hu with rfl | rfl | rfl <;> rfl) (by unfold maxLen; omega) (by omega) (by first | (simp; done) | (simp; omega) | omega) ?_; intro va wa howna hgra _))
              have ba : Dr S w wa := Dr.grown (show Dr S w _ from by exact (by repeat (first | with_reducible refine Dr.setCell ?_ (by first | (simp; done) | (simp; omega) | omega) _ | with_reducible refine Dr.alloc ?_ _ | with_reducible exact Dr.refl _ _ | with_reducible assumption | with_reducible refine Dr.trans ?_ (by with_reducible assumption) | with_reducible refine Dr.trans ?_ (Dr.of_new (by with_reducible assumption)) | with_reducible refine Dr.drewN ?_ _ | with_reducible refine Dr.drew ?_))) hgra (fun q hq => (own_block_lt own2.out q hq).1)
              go_roundw
              case rel => exact ⟨ys ++ [⟨(j : Int) / 2, (j : Int) % 2, 1⟩], j + 1, by go_num, by omega, by simp; omega, by simpa [List.flatMap_append, encSensorFault] using howna, ba⟩
              case measure => simp [intOf]; omega
            · go_wp2_with fail
              go_ret
              exact ⟨_, ys, rfl, by omega, own_rdM2 own2.out, (by repeat (first | with_reducible refine Dr.setCell ?_ (by first | (simp; done) | (simp; omega) | omega) _ | with_reducible refine Dr.alloc ?_ _ | with_reducible exact Dr.refl _ _ | with_reducible assumption | with_reducible refine Dr.trans ?_ (by with_reducible assumption) | with_reducible refine Dr.trans ?_ (Dr.of_new (by with_reducible assumption)) | with_reducible refine Dr.drewN ?_ _ | with_reducible refine Dr.drew ?_))⟩
        · have hb0 : (r1 == 0) = false := by simpa using hn0
          have hb1 : (r1 == 1) = false := by simpa using hn1
          go_wp2_with fail
          go_ret
          exact ⟨_, xs, rfl, by omega, own_rdM2 own1.out, (by repeat (first | with_reducible refine Dr.setCell ?_ (by first | (simp; done) | (simp; omega) | omega) _ | with_reducible refine Dr.alloc ?_ _ | with_reducible exact Dr.refl _ _ | with_reducible assumption | with_reducible refine Dr.trans ?_ (by with_reducible assumption) | with_reducible refine Dr.trans ?_ (Dr.of_new (by with_reducible assumption)) | with_reducible refine Dr.drewN ?_ _ | with_reducible refine Dr.drew ?_))⟩
def DrawRO (w : World) (e : Ending) (w' : World) : Prop := ∃ (n : Int) (v fv : Value) (xs : List Int) (fs : List ESensorFault), e = .returned (.tuple #[.agg #[.int .i64 n, v], fv]) ∧ RdI w' v xs ∧ fs.length ≤ 100 ∧ Rd w' fv fs.length (fs.flatMap encSensorFault) ∧ New w w'
set_option maxHeartbeats 4000000 in
theorem drawReportOf_any (v : Value) (bs : List Int) (w : World) (hv : Rd w v bs.length (bs.map (Value.int .u8))) (hl : bs.length ≤ 4096) (hb : ∀ c ∈ bs, 0 ≤ c ∧ c ≤ 255) :
    Calls Try.prog 51 #[v] w (DrawRO w) := by
  have HV := Lib.hid hv
  have HB := Lib.hid hb
  clear hv hb
  go_enter Try.func51, Try.ntmps51
  go_wp2_with fail
  refine (l01From_any w.heap.size v bs _ (rdB_new HV.out (by repeat (first | with_reducible exact New.refl _ | with_reducible assumption | with_reducible refine New.drew ?_ | with_reducible refine New.drewN ?_ _ | with_reducible refine New.alloc ?_ _ | with_reducible refine New.setCell ?_ (by first | (simp; done) | (simp; omega) | omega) _ | with_reducible refine New.trans ?_ (by with_reducible assumption)))) (by first | (simp; done) | (simp; omega)) hl HB.out).mono ?_
  rintro e w1 ⟨S, rfl, hS0, n1, hs⟩
  have b1 := Dr.of_new (S := S) n1; have hS := hs.lt; replace hs := Lib.hid hs; simp only [World.size_alloc] at hS0
  have z1 := b1.size
  try simp only [World.size_alloc, World.size_drew, World.heap_drewN, World.size_setCell] at z1
  have z1_0 : w.heap.size < w1.heap.size := by omega
  apply Blk.use (w := w1) (b := w.heap.size)
  · repeat (first | with_reducible assumption | with_reducible exact Blk.alloc_at (by first | rfl | (simp; done) | (simp; omega)) | with_reducible apply Blk.alloc | with_reducible apply Blk.drew | with_reducible apply Blk.drewN | with_reducible apply Blk.set | ((with_reducible apply Blk.set_ne); rotate_left; (focus omega)) | ((with_reducible apply Blk.dr); rotate_left; (focus (with_reducible assumption)); (focus omega)) | ((with_reducible apply Blk.new); rotate_left; (focus (with_reducible assumption))))
  intro K1_0
  try simp only [List.setIfInBounds_toArray, List.set_cons_succ, List.set_cons_zero] at K1_0
  obtain ⟨c1_0, f1_0⟩ := K1_0.rules
  have y1 : S < w1.heap.size := by omega
  go_wp2_with fail
  refine (l10Draw_any S _ (Dr.src ?hs21 hs.out)).mono ?_
  case hs21 => exact (by repeat (first | with_reducible refine Dr.setCell ?_ (by first | (simp; done) | (simp; omega) | omega) _ | with_reducible refine Dr.alloc ?_ _ | with_reducible exact Dr.refl _ _ | with_reducible assumption | with_reducible refine Dr.trans ?_ (by with_reducible assumption) | with_reducible refine Dr.trans ?_ (Dr.of_new (by with_reducible assumption)) | with_reducible refine Dr.drewN ?_ _ | with_reducible refine Dr.drew ?_))
  rintro e w2 ⟨n, u, xs, rfl, hx, b2⟩
  have z2 := b2.size
  try simp only [World.size_alloc, World.size_drew, World.heap_drewN, World.size_setCell] at z2
  have z2_0 : w.heap.size < w2.heap.size := by omega
  apply Blk.use (w := w2) (b := w.heap.size)
  · repeat (first | with_reducible assumption | with_reducible exact Blk.alloc_at (by first | rfl | (simp; done) | (simp; omega)) | with_reducible apply Blk.alloc | with_reducible apply Blk.drew | with_reducible apply Blk.drewN | with_reducible apply Blk.set | ((with_reducible apply Blk.set_ne); rotate_left; (focus omega)) | ((with_reducible apply Blk.dr); rotate_left; (focus (with_reducible assumption)); (focus omega)) | ((with_reducible apply Blk.new); rotate_left; (focus (with_reducible assumption))))
  intro K2_0
  try simp only [List.setIfInBounds_toArray, List.set_cons_succ, List.set_cons_zero] at K2_0
  obtain ⟨c2_0, f2_0⟩ := K2_0.rules
  try clear c1_0 f1_0 K1_0
  try clear c1_1 f1_1 K1_1
  try clear c1_2 f1_2 K1_2
  try clear c1_3 f1_3 K1_3
  try clear c1_4 f1_4 K1_4
  try clear c1_5 f1_5 K1_5
  have y2 : S < w2.heap.size := by omega
  obtain ⟨ua, un, uc, rfl⟩ : ∃ a n c, u = .slice a n c := by obtain ⟨⟨a, c, h, _⟩, _⟩ := hx; exact ⟨a, _, c, h⟩
  have hx1 := Lib.hid (hx.new ((New.refl w2).alloc (.cells #[.int .i64 n, .slice ua un uc] 32)))
  clear hx
  go_wp2_with fail
  have KX : Blk (w2.alloc (.cells #[.int .i64 n, .slice ua un uc] 32)) w2.heap.size #[.int .i64 n, .slice ua un uc] 32 := Blk.alloc_at rfl
  have KR : Blk (w2.alloc (.cells #[.int .i64 n, .slice ua un uc] 32)) w.heap.size #[.int .i64 0, .slice none 0 0] 32 := K2_0.alloc _
  have hzz : w2.heap.size < (w2.alloc (.cells #[.int .i64 n, .slice ua un uc] 32)).heap.size := by simp
  have hSW : S < (w2.alloc (.cells #[.int .i64 n, .slice ua un uc] 32)).heap.size := by omega
  have hSRC : Src w.heap.size S (w2.alloc (.cells #[.int .i64 n, .slice ua un uc] 32)) := Dr.src (Dr.alloc b2 _) hs.out
  replace hSRC := Lib.hid hSRC
  clear c2_0 f2_0
  have hL9 : LateOK S (w2.alloc (.cells #[.int .i64 n, .slice ua un uc] 32)) [(w.heap.size, #[.int .i64 n, .slice ua un uc], 32)] := ⟨⟨by omega, by omega⟩, trivial⟩
  have hM9 : ∀ x ∈ ([(w.heap.size, #[.int .i64 n, .slice ua un uc], 32)] : Late), x.1 < (w2.alloc (.cells #[.int .i64 n, .slice ua un uc] 32)).heap.size := fun x hx => (LateOK.get hL9 x hx).2
  refine RQ.wp_facts (Dq.ord S [(w.heap.size, #[.int .i64 n, .slice ua un uc], 32)]) [fun X _ => X = .agg #[.int .i64 n, .slice ua un uc], fun X _ => X = .pointer (some ⟨S, 0, none⟩), fun X _ => X = .pointer (some ⟨w2.heap.size, 0, none⟩), fun X _ => X = .int .i64 n, fun X W' => ∃ xs : List ESensorFault, xs.length ≤ 100 ∧ RdM2 (w2.alloc (.cells #[.int .i64 n, .slice ua un uc] 32)).heap.size W' X xs.length (xs.flatMap encSensorFault), fun X W' => Blk W' (w.heap.size) (#[.int .i64 n, .slice ua un uc]) (32)] (by kernel_rfl) (by kernel_rfl) ⟨RQ.stable_eq _, RQ.stable_eq _, RQ.stable_eq _, RQ.stable_eq _, fun X w0 w1 hn ⟨x14, l14, r14⟩ => ⟨x14, l14, r14.kept hn.size (fun k h1 h2 => hn.other k h2 (by omega) (fun x hx => by have := hM9 x hx; omega))⟩, fun X w0 w1 hn kb0 => Blk.kept kb0 hn (by simp), trivial⟩ ?_ ?_
  · refine ⟨?_, ?_, ?_, ?_, ?_, ?_, trivial⟩
    · intro a w9 hw ho hk
      refine .inl ⟨by rfl, ?_⟩
      have s5 := ho 5 rfl
      dsimp at s5
      have K9 := Blk.dq KX hw (by omega) ⟨by omega, trivial⟩
      obtain ⟨c9, f9⟩ := K9.rules
      go_simp
      exact Dq.refl _ _ _
    · intro a w9 hw ho hk
      refine .inl ⟨by rfl, ?_⟩
      have s4 := ho 4 rfl
      dsimp at s4
      go_simp
      exact Dq.refl _ _ _
    · intro a w9 hw ho hk
      refine .inl ⟨by rfl, ?_⟩
      have s5 := ho 5 rfl
      dsimp at s5
      go_simp
      exact Dq.refl _ _ _
    · intro a w9 hw ho hk
      refine .inl ⟨by rfl, ?_⟩
      have t12 : a.tmps[12]?.getD undef = .pointer (some ⟨w2.heap.size, 0, none⟩) := hk 2 12 (by kernel_rfl) rfl
      have K9 := Blk.dq KX hw (by omega) ⟨by omega, trivial⟩
      obtain ⟨c9, f9⟩ := K9.rules
      go_simp
      exact Dq.refl _ _ _
    · intro a w9 hw ho hk
      refine .inl ⟨by rfl, ?_⟩
      have t11 : a.tmps[11]?.getD undef = .pointer (some ⟨S, 0, none⟩) := hk 1 11 (by kernel_rfl) rfl
      have t13 : a.tmps[13]?.getD undef = .int .i64 n := hk 3 13 (by kernel_rfl) rfl
      go_simp
      refine (l11DrawFaults_any S _ _ (Dq.src hw (by intro x hx; simp at hx; subst hx; simp) hSRC.out)).mono ?_; rintro e w2 ⟨r, ys, rfl, hly, hry, hb⟩
      replace hb := Dq.of_dr hb (hL9.mono hw.size)
      exact ⟨hb, _, rfl, ys, hly, hry.mono (by have := hw.size; simp at this; omega)⟩
    · intro a w9 hw ho hk
      refine .inl ⟨by rfl, ?_⟩
      have s2 := ho 2 rfl
      dsimp at s2
      have t10 : a.tmps[10]?.getD undef = .agg #[.int .i64 n, .slice ua un uc] := hk 0 10 (by kernel_rfl) rfl
      rcases Blk.late KR hw (by simp : ((w.heap.size, #[.int .i64 n, .slice ua un uc], 32) : Nat × Array Value × TypeId) ∈ ([(w.heap.size, #[.int .i64 n, .slice ua un uc], 32)] : Late)) with K9 | K9
      all_goals obtain ⟨c9, f9⟩ := K9.rules
      all_goals go_simp
      all_goals refine Dq.stored2 (b := w.heap.size) (F := #[.int .i64 n, .slice ua un uc]) (T := 32) (by repeat (first | with_reducible exact Same1.refl _ _ | with_reducible refine Same1.set ?_ _ _)) ?_ (by simp) (by intro x hx; simp at hx; rcases hx with rfl <;> first | (intro _; rfl) | (intro h; exfalso; simp at h; done) | (intro h; exfalso; simp at h; omega)) (by omega)
      all_goals
        apply blk_cast
        · repeat (first | with_reducible exact K9 | with_reducible apply Blk.set)
        · rfl
  intro w9 b9
  rintro _ rfl
  rintro _ rfl
  rintro _ rfl
  rintro _ rfl
  rintro _ ⟨x14, l14, r14⟩
  rintro _ kb0
  obtain ⟨cl0, fl0⟩ := kb0.rules
  simp only [RQ.EndAll, List.nil_append, List.cons_append, List.length_cons, List.length_nil, Nat.zero_add, Nat.reduceAdd, List.take_succ_cons, List.take_zero, List.drop_succ_cons, List.drop_zero, RQ.putAll, Act.put, List.setIfInBounds_toArray, List.set_cons_succ, List.set_cons_zero]
  go_wp2_with fail
  have hxx := hx1.out.kept b9.size (fun k h1 h2 => b9.other k h2 (by omega) (fun x hx => by simp at hx; subst hx; first | (simp; done) | (simp; omega)))
  have n9 : New w w9 := Dq.new (w0 := w) (Dr.new (S := S) (w0 := w) (w := w1) (by repeat (first | with_reducible exact New.refl _ | with_reducible assumption | with_reducible refine New.drew ?_ | with_reducible refine New.drewN ?_ _ | with_reducible refine New.alloc ?_ _ | with_reducible refine New.setCell ?_ (by first | (simp; done) | (simp; omega) | omega) _ | with_reducible refine New.trans ?_ (by with_reducible assumption))) (Dr.alloc b2 _) (by omega)) b9 (by omega) (by intro x hx; simp at hx; subst hx; simp)
  refine bodyPost_ret (v := .tuple #[.agg #[.int .i64 n, .slice ua un uc], _]) (by simp [results, Try.results51, go_sem, cl0]) rfl ⟨n, _, _, xs, x14, rfl, hxx.1, l14, r14.1, n9⟩
end Go.Proofs.Ytinlichcbjpeaaa
