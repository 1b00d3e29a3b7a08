/- Contracts: the brakes in a run, by the reference. -/
import Derived.Test.YtinkhjjeflhagaaProg
import Derived.Test.YtinkhjjeflhagaaBrkP
import Derived.Test.YtinkhjjeflhagaaDevices3
import Derived.Test.YtinkhjjeflhagaaRets
import Derived.Test.YtinkhjjeflhagaaNum
import Derived.Test.YtinkhjjeflhagaaRegion
import Derived.Test.YtinkhjjeflhagaaCells
namespace Go.Proofs.Ytinkhjjeflhagaa
open Go Go.Proofs Go.RowKit
set_option linter.unusedVariables false
set_option linter.unusedSimpArgs false
set_option maxRecDepth 100000
theorem own_empty_atB {w : World} {base b : Nat} {e : TypeId} {sz : Nat} (h : base ≤ w.heap.size) (hb : b = w.heap.size) : (w.alloc (.cells #[] e)).ownsRow base e sz (.slice (some ⟨b, 0, none⟩) 0 0) 0 [] := by subst hb; exact own_empty h
theorem infoI64b : (Try.prog.info? 2).map (fun i => (i.zero, i.size, i.bytes)) = some (some (.int .i64 0), 1, 8) := by kernel_rfl
def rangeB (xs : List ESegment) (f c : Int) : Bool := inB f 0 ((xs.length : Int) - 1) && inB c 0 24
def runB (xs : List ESegment) (f c : Int) : Bool := rangeB xs f c && decide (c ≤ (xs.length : Int))
def brkR (xs : List ESegment) (f c : Int) : List Int × Int := if layB xs then (if runB xs f c then (brkS xs f c xs.length, 0) else ([], 2)) else ([], 1)
theorem mod_any (x b : Int) (w : World) (h0 : 0 < b) (h1 : b ≤ 1000) (h2 : -b < x) (h3 : x < b) :
    Calls Try.prog 26 #[.int .i64 x, .int .i64 b] w fun e w' => e = .returned (.int .i64 (x % b)) ∧ w = w' := by
  have e1 : x.tmod b = x := by
    rcases Int.lt_or_le x 0 with h | h
    · have : (-x).tmod b = -x := Int.tmod_eq_of_lt (by omega) (by omega)
      rw [Int.neg_tmod] at this; omega
    · exact Int.tmod_eq_of_lt h h3
  have e2 : (x + b).tmod b = x % b := by rw [Int.tmod_eq_emod_of_nonneg (by omega), Int.add_emod_right]
  have hb0 : (b == 0) = false := by simp; omega
  go_enter Try.func26, Try.ntmps26
  go_wp2_with fail
  go_ret
  refine ⟨?_, rfl⟩
  simp_all
theorem sRange_any (v : Value) (xs : List ESegment) (f c : Int) (w : World) (hv : RdG w v xs) (hn : xs.length ≤ 24) :
    Calls Try.prog 25 #[.agg #[v], .int .i64 f, .int .i64 c] w fun e w' => e = .returned (.bool (rangeB xs f c)) ∧ New w w' := by
  obtain ⟨a, cap, rfl, hm, _⟩ := hv
  go_enter Try.func25, Try.ntmps25
  go_wp2_with (first | (go_at_call 32; refine (l01In_any _ _ _ _).mono ?_; rintro e _ ⟨rfl, rfl⟩))
  all_goals (go_ret; refine ⟨ret_bool ?_, (by repeat (first | with_reducible exact New.refl _ | with_reducible assumption | with_reducible refine New.drew ?_ | with_reducible refine New.drewN ?_ _ | with_reducible refine New.alloc ?_ _ | with_reducible refine New.setCell ?_ (by first | (simp; done) | (simp; omega) | omega) _ | with_reducible refine New.trans ?_ (by with_reducible assumption)))⟩; simp_all [rangeB])
theorem sRun_any (v : Value) (xs : List ESegment) (f c : Int) (w : World) (hv : RdG w v xs) (hn : xs.length ≤ 24) :
    Calls Try.prog 15 #[.agg #[v], .int .i64 f, .int .i64 c] w fun e w' => e = .returned (.bool (runB xs f c)) ∧ New w w' := by
  have HV := Lib.hid hv
  obtain ⟨a, cap, rfl, hm, _⟩ := hv
  go_enter Try.func15, Try.ntmps15
  go_wp2_with fail
  refine (sRange_any _ xs f c _ (Rd.new HV.out (by repeat (first | with_reducible exact New.refl _ | with_reducible assumption | with_reducible refine New.drew ?_ | with_reducible refine New.drewN ?_ _ | with_reducible refine New.alloc ?_ _ | with_reducible refine New.setCell ?_ (by first | (simp; done) | (simp; omega) | omega) _ | with_reducible refine New.trans ?_ (by with_reducible assumption)))) hn).mono ?_; rintro e w1 ⟨rfl, b1⟩
  try with_reducible replace b1 := New.undrawN b1
  try with_reducible replace b1 := New.undraw b1
  obtain ⟨c1, f1⟩ := b1.rules
  have z1 := b1.size
  try simp only [World.size_alloc, World.size_drew, World.heap_drewN, World.size_setCell] at z1
  have z1_0 : w.heap.size < w1.heap.size := by omega
  go_wp2_with fail
  all_goals (go_ret; refine ⟨ret_bool ?_, (by repeat (first | with_reducible exact New.refl _ | with_reducible assumption | with_reducible refine New.drew ?_ | with_reducible refine New.drewN ?_ _ | with_reducible refine New.alloc ?_ _ | with_reducible refine New.setCell ?_ (by first | (simp; done) | (simp; omega) | omega) _ | with_reducible refine New.trans ?_ (by with_reducible assumption)))⟩; simp_all [runB])
set_option maxHeartbeats 1000000 in
theorem sBrakes_any (v : Value) (xs : List ESegment) (F C : Nat) (w : World) (hv : RdG w v xs) (hn : xs.length ≤ 24) (hF : F < xs.length) (hC : C ≤ 24) :
    Calls Try.prog 16 #[.agg #[v], .int .i64 F, .int .i64 C] w (RetSlice w 2 1 (brkS xs F C xs.length).length ((brkS xs F C xs.length).map (Value.int .i64))) := by
  obtain ⟨i0, hi, hz0, hz1, hz2⟩ := info_parts infoI64b
  obtain ⟨a, cap, rfl, hm, HC⟩ := Rd.flat encSegment_len (by omega) hv
  clear hv
  have zz : w.heap.size < w.heap.size + 1 := by omega
  go_enter Try.func16, Try.ntmps16
  go_wp2_with fail
  go_loopw [8, 9] (fun o i wr => ∃ k : Nat, k ≤ xs.length ∧ i = .int .i64 k ∧ New (w.alloc (.cells #[.slice a xs.length cap] 31)) wr ∧ wr.ownsRow (w.heap.size + 1) 2 1 o (brkS xs F C k).length ((brkS xs F C k).map (Value.int .i64))) (fun _ i _ => xs.length - (intOf i).toNat)
  case atStart => exact ⟨0, Nat.zero_le _, rfl, (by repeat (first | with_reducible exact New.refl _ | with_reducible assumption | with_reducible refine New.drew ?_ | with_reducible refine New.drewN ?_ _ | with_reducible refine New.alloc ?_ _ | with_reducible refine New.setCell ?_ (by first | (simp; done) | (simp; omega) | omega) _ | with_reducible refine New.trans ?_ (by with_reducible assumption))), by rw [show brkS xs F C 0 = [] from rfl]; exact own_empty_atB (by simp) (by simp)⟩
  case round =>
    obtain ⟨k, hk, rfl, hb, hown⟩ := hrel
    have hbz := hb.size
    simp only [World.size_alloc] at hbz
    have hb0 : New w wr := ((New.refl w).alloc _).trans hb
    obtain ⟨cc, f'⟩ := hb.rules
    by_cases hlt : k < xs.length
    · obtain ⟨b, off, rfl, hbl, hx⟩ := HC.out k hlt
      have x0 := hx 0 _ (by omega) rfl
      rw [Nat.add_zero] at x0
      replace hx := Lib.hid hx
      have hbw : b < wr.heap.size := by omega
      have hbw1 : b < w.heap.size + 1 := by omega
      have hul := brkS_len xs F C k
      rcases Bool.eq_false_or_eq_true (xs[k].kind == 3) with g0 | g0
      · rcases Bool.eq_false_or_eq_true (decide ((((k : Int) - F) % (xs.length : Int)) < (C : Int))) with g1 | g1
        · have HA := Lib.hid (brkS_yes (show brkOk xs F C k = true by rw [brkOk, brkAt_eq hlt, g0, g1]; rfl))
          go_wp2_with (first | (go_at_call 26; refine (mod_any _ _ _ (by omega) (by omega) (by omega) (by omega)).mono ?_; rintro e _ ⟨rfl, rfl⟩) | (at_builtin; refine wpList_append_own _ rfl _ _ 26 rfl (w.heap.size + 1) 2 i0 (.int .i64 0) 1 8 Try.underlying26 hi hz0 hz1 hz2 rfl (by decide) _ _ _ rfl (hown.alloc _) ⟨wr.heap.size, 0, none⟩ 1 1 [.int .i64 ((k : Int))] rfl rfl (by intro j u hj; match j, hj with | 0, hj => simp at hj; subst hj; first | (simp [Addr.add]; done) | exact alloc_one rfl) (by intro u hu; simp at hu; subst hu; rfl) (by unfold maxLen; omega) (by omega) (by first | (simp; done) | (simp; omega) | omega) ?_; intro va wa howna hgra _))
          have ba := New.grown (hb.alloc _) hgra (fun q hq => by have := (own_block_lt hown q hq).1; simpa using this)
          go_roundw
          case rel => exact ⟨k + 1, by omega, by go_num, ba, by rw [HA.out, List.length_append, List.map_append]; exact howna⟩
          case measure => simp [intOf]; omega
        · have HA := Lib.hid (brkS_no (show brkOk xs F C k = false by rw [brkOk, brkAt_eq hlt, g0, g1]; rfl))
          go_wp2_with (first | (go_at_call 26; refine (mod_any _ _ _ (by omega) (by omega) (by omega) (by omega)).mono ?_; rintro e _ ⟨rfl, rfl⟩))
          go_roundw
          case rel => exact ⟨k + 1, by omega, by go_num, hb, by rw [HA.out]; exact hown⟩
          case measure => simp [intOf]; omega
      · have HA := Lib.hid (brkS_no (show brkOk xs F C k = false by rw [brkOk, brkAt_eq hlt, g0]; rfl))
        go_wp2_with fail
        go_roundw
        case rel => exact ⟨k + 1, by omega, by go_num, hb, by rw [HA.out]; exact hown⟩
        case measure => simp [intOf]; omega
    · obtain rfl : k = xs.length := by omega
      go_wp2_with fail
      go_ret
      exact ⟨_, rfl, hb0, own_base hown (by omega)⟩
theorem sBrakesIn_any (v : Value) (xs : List ESegment) (f c : Int) (w : World) (hv : RdG w v xs) :
    Calls Try.prog 5 #[.agg #[v], .int .i64 f, .int .i64 c] w (RetIC w (brkR xs f c)) := by
  have HV := Lib.hid hv
  obtain ⟨a, cap, rfl, hm, _⟩ := hv
  rcases Bool.eq_false_or_eq_true (layB xs) with h1 | h1
  · have hn := layB_len h1
    rcases Bool.eq_false_or_eq_true (runB xs f c) with h2 | h2
    · rw [show brkR xs f c = (brkS xs f c xs.length, 0) by rw [brkR, if_pos h1, if_pos h2]]
      obtain ⟨⟨⟨g1, g2⟩, g3, g4⟩, g5⟩ : ((0 ≤ f ∧ f ≤ (xs.length : Int) - 1) ∧ 0 ≤ c ∧ c ≤ 24) ∧ c ≤ (xs.length : Int) := by
        simpa [runB, rangeB, inB] using h2
      obtain ⟨F, rfl⟩ := Int.eq_ofNat_of_zero_le g1
      obtain ⟨C, rfl⟩ := Int.eq_ofNat_of_zero_le g3
      go_enter Try.func5, Try.ntmps5
      go_wp2_with fail
      refine (sIsLayout_any _ xs _ (Rd.new HV.out (by repeat (first | with_reducible exact New.refl _ | with_reducible assumption | with_reducible refine New.drew ?_ | with_reducible refine New.drewN ?_ _ | with_reducible refine New.alloc ?_ _ | with_reducible refine New.setCell ?_ (by first | (simp; done) | (simp; omega) | omega) _ | with_reducible refine New.trans ?_ (by with_reducible assumption))))).mono ?_; rintro e w1 ⟨rfl, b1⟩
      try with_reducible replace b1 := New.undrawN b1
      try with_reducible replace b1 := New.undraw b1
      obtain ⟨c1, f1⟩ := b1.rules
      have z1 := b1.size
      try simp only [World.size_alloc, World.size_drew, World.heap_drewN, World.size_setCell] at z1
      have z1_0 : w.heap.size < w1.heap.size := by omega
      go_wp2_with fail
      refine (sRun_any _ xs F C _ (Rd.new HV.out (by repeat (first | with_reducible exact New.refl _ | with_reducible assumption | with_reducible refine New.drew ?_ | with_reducible refine New.drewN ?_ _ | with_reducible refine New.alloc ?_ _ | with_reducible refine New.setCell ?_ (by first | (simp; done) | (simp; omega) | omega) _ | with_reducible refine New.trans ?_ (by with_reducible assumption)))) hn).mono ?_; rintro e w2 ⟨rfl, b2⟩
      try with_reducible replace b2 := New.undrawN b2
      try with_reducible replace b2 := New.undraw b2
      obtain ⟨c2, f2⟩ := b2.rules
      have z2 := b2.size
      try simp only [World.size_alloc, World.size_drew, World.heap_drewN, World.size_setCell] at z2
      have z2_0 : w.heap.size < w2.heap.size := by omega
      go_wp2_with fail
      refine (sBrakes_any _ xs F C _ (Rd.new HV.out (by repeat (first | with_reducible exact New.refl _ | with_reducible assumption | with_reducible refine New.drew ?_ | with_reducible refine New.drewN ?_ _ | with_reducible refine New.alloc ?_ _ | with_reducible refine New.setCell ?_ (by first | (simp; done) | (simp; omega) | omega) _ | with_reducible refine New.trans ?_ (by with_reducible assumption)))) hn (by omega) (by omega)).mono ?_; rintro e w3 ⟨r3, rfl, b3, o3⟩
      obtain ⟨c3, f3⟩ := b3.rules
      have z3 := b3.size
      try simp only [World.size_alloc, World.size_drew, World.heap_drewN, World.size_setCell] at z3
      have z3_0 : w.heap.size < w3.heap.size := by omega
      go_wp2_with fail
      go_ret2
      exact ⟨_, rfl, (by repeat (first | with_reducible exact New.refl _ | with_reducible assumption | with_reducible refine New.drew ?_ | with_reducible refine New.drewN ?_ _ | with_reducible refine New.alloc ?_ _ | with_reducible refine New.setCell ?_ (by first | (simp; done) | (simp; omega) | omega) _ | with_reducible refine New.trans ?_ (by with_reducible assumption))), own_base o3 (by omega)⟩
    · rw [show brkR xs f c = ([], 2) by rw [brkR, if_pos h1, if_neg (by rw [h2]; simp)]]
      go_enter Try.func5, Try.ntmps5
      go_wp2_with fail
      refine (sIsLayout_any _ xs _ (Rd.new HV.out (by repeat (first | with_reducible exact New.refl _ | with_reducible assumption | with_reducible refine New.drew ?_ | with_reducible refine New.drewN ?_ _ | with_reducible refine New.alloc ?_ _ | with_reducible refine New.setCell ?_ (by first | (simp; done) | (simp; omega) | omega) _ | with_reducible refine New.trans ?_ (by with_reducible assumption))))).mono ?_; rintro e w1 ⟨rfl, b1⟩
      try with_reducible replace b1 := New.undrawN b1
      try with_reducible replace b1 := New.undraw b1
      obtain ⟨c1, f1⟩ := b1.rules
      have z1 := b1.size
      try simp only [World.size_alloc, World.size_drew, World.heap_drewN, World.size_setCell] at z1
      have z1_0 : w.heap.size < w1.heap.size := by omega
      go_wp2_with fail
      refine (sRun_any _ xs f c _ (Rd.new HV.out (by repeat (first | with_reducible exact New.refl _ | with_reducible assumption | with_reducible refine New.drew ?_ | with_reducible refine New.drewN ?_ _ | with_reducible refine New.alloc ?_ _ | with_reducible refine New.setCell ?_ (by first | (simp; done) | (simp; omega) | omega) _ | with_reducible refine New.trans ?_ (by with_reducible assumption)))) hn).mono ?_; rintro e w2 ⟨rfl, b2⟩
      try with_reducible replace b2 := New.undrawN b2
      try with_reducible replace b2 := New.undraw b2
      obtain ⟨c2, f2⟩ := b2.rules
      have z2 := b2.size
      try simp only [World.size_alloc, World.size_drew, World.heap_drewN, World.size_setCell] at z2
      have z2_0 : w.heap.size < w2.heap.size := by omega
      go_wp2_with fail
      go_ret2
      exact ⟨_, rfl, (by repeat (first | with_reducible exact New.refl _ | with_reducible assumption | with_reducible refine New.drew ?_ | with_reducible refine New.drewN ?_ _ | with_reducible refine New.alloc ?_ _ | with_reducible refine New.setCell ?_ (by first | (simp; done) | (simp; omega) | omega) _ | with_reducible refine New.trans ?_ (by with_reducible assumption))), World.ownsRow_nil _ _ _ _⟩
  · rw [show brkR xs f c = ([], 1) by rw [brkR, if_neg (by rw [h1]; simp)]]
    go_enter Try.func5, Try.ntmps5
    go_wp2_with fail
    refine (sIsLayout_any _ xs _ (Rd.new HV.out (by repeat (first | with_reducible exact New.refl _ | with_reducible assumption | with_reducible refine New.drew ?_ | with_reducible refine New.drewN ?_ _ | with_reducible refine New.alloc ?_ _ | with_reducible refine New.setCell ?_ (by first | (simp; done) | (simp; omega) | omega) _ | with_reducible refine New.trans ?_ (by with_reducible assumption))))).mono ?_; rintro e w1 ⟨rfl, b1⟩
    try with_reducible replace b1 := New.undrawN b1
    try with_reducible replace b1 := New.undraw b1
    obtain ⟨c1, f1⟩ := b1.rules
    have z1 := b1.size
    try simp only [World.size_alloc, World.size_drew, World.heap_drewN, World.size_setCell] at z1
    have z1_0 : w.heap.size < w1.heap.size := by omega
    go_wp2_with fail
    go_ret2
    exact ⟨_, rfl, (by repeat (first | with_reducible exact New.refl _ | with_reducible assumption | with_reducible refine New.drew ?_ | with_reducible refine New.drewN ?_ _ | with_reducible refine New.alloc ?_ _ | with_reducible refine New.setCell ?_ (by first | (simp; done) | (simp; omega) | omega) _ | with_reducible refine New.trans ?_ (by with_reducible assumption))), World.ownsRow_nil _ _ _ _⟩
end Go.Proofs.Ytinkhjjeflhagaa
