/- Contracts: the brakes in a run, by the program. -/
import Derived.Sort.OwnSortedInts
import Derived.Test.YtinkhjjeflhagaaProg
import Derived.Test.YtinkhjjeflhagaaBrkS
import Derived.Test.YtinkhjjeflhagaaShelf
namespace Go.Proofs.Ytinkhjjeflhagaa
open Go Go.Proofs Go.RowKit
set_option linter.unusedVariables false
set_option linter.unusedSimpArgs false
set_option maxRecDepth 100000
def sorted (zs : List Int) : List Int := zs.mergeSort fun x y => decide (x ≤ y)
theorem sorted_len (zs : List Int) : (sorted zs).length = zs.length := List.length_mergeSort _
theorem sorted_nil : sorted [] = [] := by simp [sorted]
theorem sort_any (zs : List Int) (v : Value) (base : Nat) (w : World) (hv : w.ownsRow base 2 1 v zs.length (zs.map (Value.int .i64))) (hl : zs.length ≤ 1048576) :
    Calls Try.prog 30 #[v] w fun e w' => e = .returned (.tuple #[]) ∧ w.grownBy w' v.ownBlock ∧ w'.ownsRow base 2 1 v (sorted zs).length ((sorted zs).map (Value.int .i64)) := by
  rcases hv.2 with ⟨rfl, h0⟩ | ⟨g, cap, cur, rfl, hg, hgg, hnc, hcm, hcs, htake⟩
  · obtain rfl : zs = [] := List.length_eq_zero_iff.1 h0
    refine (Try.slices_Sort_int_none none 0 w).mono ?_
    rintro e w' ⟨rfl, rfl⟩
    refine ⟨rfl, ⟨rfl, rfl, rfl, Nat.le_refl _, fun _ _ _ => rfl⟩, ?_⟩
    rw [sorted_nil]; exact World.ownsRow_nil _ _ _ _
  · have hgl : g < w.heap.size := (Array.getElem?_eq_some_iff.1 hgg).1
    rw [Nat.mul_one] at htake
    refine (Try.slices_Sort_int g 0 cap zs w (holds_of_blockI hgg htake) hgl (by omega)).mono ?_
    rintro e w' ⟨rfl, n, os, rfl⟩
    refine ⟨rfl, Go.grownBy_sortedI _, ?_⟩
    have := Go.ownsRow_sortedI (os := os) (n := n) (ts := sorted zs) (ss := zs) (sorted_len zs) hg hgg hnc hcm hcs
    rw [sorted_len]; exact this
theorem iRange_any (v : Value) (xs : List ESegment) (f c : Int) (w : World) (hv : RdG w v xs) (hn : xs.length ≤ 24) :
    Calls Try.prog 19 #[.agg #[v], .int .i64 f, .int .i64 c] w fun e w' => e = .returned (.bool (rangeB xs f c)) ∧ New w w' := by
  have HV := Lib.hid hv
  obtain ⟨a, cap, rfl, hm, _⟩ := hv
  go_enter Try.func19, Try.ntmps19
  go_wp2_with (first | (go_at_call 20; refine (lengthG_any _ xs _ (Rd.new HV.out (by repeat (first | with_reducible exact New.refl _ | with_reducible assumption | with_reducible refine New.drew ?_ | with_reducible refine New.drewN ?_ _ | with_reducible refine New.alloc ?_ _ | with_reducible refine New.setCell ?_ (by first | (simp; done) | (simp; omega) | omega) _ | with_reducible refine New.trans ?_ (by with_reducible assumption))))).mono ?_; rintro e _ ⟨rfl, rfl⟩) | (go_at_call 29; refine (within_any _ _ _ _).mono ?_; rintro e _ ⟨rfl, rfl⟩))
  all_goals (go_ret; refine ⟨ret_bool ?_, (by repeat (first | with_reducible exact New.refl _ | with_reducible assumption | with_reducible refine New.drew ?_ | with_reducible refine New.drewN ?_ _ | with_reducible refine New.alloc ?_ _ | with_reducible refine New.setCell ?_ (by first | (simp; done) | (simp; omega) | omega) _ | with_reducible refine New.trans ?_ (by with_reducible assumption)))⟩; simp_all [rangeB])
set_option maxHeartbeats 1000000 in
theorem iBrakes_any (v : Value) (xs : List ESegment) (F C : Nat) (w : World) (hv : RdG w v xs) (hn : xs.length ≤ 24) (hF : F < xs.length) (hC : C ≤ 24) (hC2 : C ≤ xs.length) :
    Calls Try.prog 21 #[.agg #[v], .int .i64 F, .int .i64 C] w (RetSlice w 2 1 (brkS xs F C xs.length).length ((brkS xs F C xs.length).map (Value.int .i64))) := by
  have HV := Lib.hid hv
  obtain ⟨i0, hi, hz0, hz1, hz2⟩ := info_parts infoI64b
  obtain ⟨a, cap, rfl, hm, HC⟩ := Rd.flat encSegment_len (by omega) hv
  clear hv
  have HE := Lib.hid (brk_same hF hC2)
  have zz : w.heap.size < w.heap.size + 1 := by omega
  go_enter Try.func21, Try.ntmps21
  go_wp2_with fail
  go_loopw [7, 11] (fun o i wr => ∃ k : Nat, k ≤ C ∧ i = .int .i64 k ∧ New (w.alloc (.cells #[.slice a xs.length cap] 31)) wr ∧ wr.ownsRow (w.heap.size + 1) 2 1 o (brkI xs F k).length ((brkI xs F k).map (Value.int .i64))) (fun _ i _ => C - (intOf i).toNat)
  case atStart => exact ⟨0, Nat.zero_le _, rfl, (by repeat (first | with_reducible exact New.refl _ | with_reducible assumption | with_reducible refine New.drew ?_ | with_reducible refine New.drewN ?_ _ | with_reducible refine New.alloc ?_ _ | with_reducible refine New.setCell ?_ (by first | (simp; done) | (simp; omega) | omega) _ | with_reducible refine New.trans ?_ (by with_reducible assumption))), by rw [show brkI xs F 0 = [] from rfl]; exact World.ownsRow_nil _ _ _ _⟩
  case round =>
    obtain ⟨k, hk, rfl, hb, hown⟩ := hrel
    have hbz := hb.size
    simp only [World.size_alloc] at hbz
    have hb0 : New w wr := ((New.refl w).alloc _).trans hb
    obtain ⟨cc, f'⟩ := hb.rules
    by_cases hlt : k < C
    · have hj : (F + k) % xs.length < xs.length := Nat.mod_lt _ (by omega)
      have hmod : ((F : Int) + (k : Int)).tmod (xs.length : Int) = (((F + k) % xs.length : Nat) : Int) := by
        rw [Int.tmod_eq_emod_of_nonneg (by omega)]; push_cast; rfl
      have HY := Lib.hid (fun h => brkI_yes (xs := xs) (f := F) (m := k) h)
      have HN := Lib.hid (fun h => brkI_no (xs := xs) (f := F) (m := k) h)
      have hul := brkI_len xs F k
      have hne : ((xs.length : Int) == 0) = false := by rw [beq_eq_false_iff_ne]; omega
      generalize (F + k) % xs.length = j at hj hmod HY HN
      have HG := Lib.hid (brkAt_eq hj)
      obtain ⟨b, off, rfl, hbl, hx⟩ := HC.out j hj
      have x0 := hx 0 _ (by omega) rfl
      rw [Nat.add_zero] at x0
      replace hx := Lib.hid hx
      have hbw : b < wr.heap.size := by omega
      have hbw1 : b < w.heap.size + 1 := by omega
      rcases Bool.eq_false_or_eq_true (xs[j].kind == 3) with g0 | g0
      · have HA := Lib.hid (HY.out (by rw [HG.out, g0]))
        go_wp2_with (first | (go_at_call 20; refine (lengthG_any _ xs _ (Rd.new HV.out hb0)).mono ?_; rintro e _ ⟨rfl, rfl⟩) | (at_builtin; refine wpList_append_own _ rfl _ _ 26 rfl (w.heap.size + 1) 2 i0 (.int .i64 0) 1 8 Try.underlying26 hi hz0 hz1 hz2 rfl (by decide) _ _ _ rfl (hown.alloc _) ⟨wr.heap.size, 0, none⟩ 1 1 [.int .i64 ((j : Int))] rfl rfl (by intro j u hj; match j, hj with | 0, hj => simp at hj; subst hj; first | (simp [Addr.add]; done) | exact alloc_one rfl) (by intro u hu; simp at hu; subst hu; rfl) (by unfold maxLen; omega) (by omega) (by first | (simp; done) | (simp; omega) | omega) ?_; intro va wa howna hgra _))
        have ba := New.grown (hb.alloc _) hgra (fun q hq => by have := (own_block_lt hown q hq).1; simpa using this)
        go_roundw
        case rel => exact ⟨k + 1, by omega, by go_num, ba, by rw [HA.out, List.length_append, List.map_append]; exact howna⟩
        case measure => simp [intOf]; omega
      · have HA := Lib.hid (HN.out (by rw [HG.out, g0]))
        go_wp2_with (first | (go_at_call 20; refine (lengthG_any _ xs _ (Rd.new HV.out hb0)).mono ?_; rintro e _ ⟨rfl, rfl⟩))
        go_roundw
        case rel => exact ⟨k + 1, by omega, by go_num, hb, by rw [HA.out]; exact hown⟩
        case measure => simp [intOf]; omega
    · obtain rfl : k = C := by omega
      have hul := brkI_len xs F k
      go_wp2_with fail
      refine (sort_any (brkI xs F k) _ (w.heap.size + 1) _ hown (by omega)).mono ?_
      rintro e w2 ⟨rfl, g2, o2⟩
      have b2 : New w w2 := New.grown hb0 g2 (fun q hq => by have := (own_block_lt hown q hq).1; omega)
      go_wp2_with fail
      go_ret
      rw [sorted, HE.out] at o2
      exact ⟨_, rfl, b2, own_base o2 (by omega)⟩
theorem iBrakesIn_any (v : Value) (xs : List ESegment) (f c : Int) (w : World) (hv : RdG w v xs) (hx20 : xs.length ≤ 1048576) :
    Calls Try.prog 7 #[.agg #[v], .int .i64 f, .int .i64 c] w (RetIC w (brkR xs f c)) := by
  have HV := Lib.hid hv
  obtain ⟨a, cap, rfl, hm, _⟩ := hv
  rcases Bool.eq_false_or_eq_true (layB xs) with h1 | h1
  · have hn := layB_len h1
    rcases Bool.eq_false_or_eq_true (rangeB xs f c) with h3 | h3
    · obtain ⟨⟨g1, g2⟩, g3, g4⟩ : (0 ≤ f ∧ f ≤ (xs.length : Int) - 1) ∧ 0 ≤ c ∧ c ≤ 24 := by
        simpa [rangeB, inB] using h3
      by_cases g5 : c ≤ (xs.length : Int)
      · rw [show brkR xs f c = (brkS xs f c xs.length, 0) by rw [brkR, if_pos h1, runB, h3, decide_eq_true g5]; rfl]
        obtain ⟨F, rfl⟩ := Int.eq_ofNat_of_zero_le g1
        obtain ⟨C, rfl⟩ := Int.eq_ofNat_of_zero_le g3
        go_enter Try.func7, Try.ntmps7
        go_wp2_with fail
        refine (iIsLayout_any _ xs _ (Rd.new HV.out (by repeat (first | with_reducible exact New.refl _ | with_reducible assumption | with_reducible refine New.drew ?_ | with_reducible refine New.drewN ?_ _ | with_reducible refine New.alloc ?_ _ | with_reducible refine New.setCell ?_ (by first | (simp; done) | (simp; omega) | omega) _ | with_reducible refine New.trans ?_ (by with_reducible assumption)))) hx20).mono ?_; rintro e w1 ⟨rfl, b1⟩
        try with_reducible replace b1 := New.undrawN b1
        try with_reducible replace b1 := New.undraw b1
        obtain ⟨c1, f1⟩ := b1.rules
        have z1 := b1.size
        try simp only [World.size_alloc, World.size_drew, World.heap_drewN, World.size_setCell] at z1
        have z1_0 : w.heap.size < w1.heap.size := by omega
        go_wp2_with fail
        refine (iRange_any _ xs F C _ (Rd.new HV.out (by repeat (first | with_reducible exact New.refl _ | with_reducible assumption | with_reducible refine New.drew ?_ | with_reducible refine New.drewN ?_ _ | with_reducible refine New.alloc ?_ _ | with_reducible refine New.setCell ?_ (by first | (simp; done) | (simp; omega) | omega) _ | with_reducible refine New.trans ?_ (by with_reducible assumption)))) hn).mono ?_; rintro e w2 ⟨rfl, b2⟩
        try with_reducible replace b2 := New.undrawN b2
        try with_reducible replace b2 := New.undraw b2
        obtain ⟨c2, f2⟩ := b2.rules
        have z2 := b2.size
        try simp only [World.size_alloc, World.size_drew, World.heap_drewN, World.size_setCell] at z2
        have z2_0 : w.heap.size < w2.heap.size := by omega
        go_wp2_with (first | (go_at_call 20; refine (lengthG_any _ xs _ (Rd.new HV.out (by repeat (first | with_reducible exact New.refl _ | with_reducible assumption | with_reducible refine New.drew ?_ | with_reducible refine New.drewN ?_ _ | with_reducible refine New.alloc ?_ _ | with_reducible refine New.setCell ?_ (by first | (simp; done) | (simp; omega) | omega) _ | with_reducible refine New.trans ?_ (by with_reducible assumption))))).mono ?_; rintro e _ ⟨rfl, rfl⟩))
        refine (iBrakes_any _ xs F C _ (Rd.new HV.out (by repeat (first | with_reducible exact New.refl _ | with_reducible assumption | with_reducible refine New.drew ?_ | with_reducible refine New.drewN ?_ _ | with_reducible refine New.alloc ?_ _ | with_reducible refine New.setCell ?_ (by first | (simp; done) | (simp; omega) | omega) _ | with_reducible refine New.trans ?_ (by with_reducible assumption)))) hn (by omega) (by omega) (by omega)).mono ?_; rintro e w3 ⟨r3, rfl, b3, o3⟩
        obtain ⟨c3, f3⟩ := b3.rules
        have z3 := b3.size
        try simp only [World.size_alloc, World.size_drew, World.heap_drewN, World.size_setCell] at z3
        have z3_0 : w.heap.size < w3.heap.size := by omega
        go_wp2_with fail
        go_ret2
        exact ⟨_, rfl, (by repeat (first | with_reducible exact New.refl _ | with_reducible assumption | with_reducible refine New.drew ?_ | with_reducible refine New.drewN ?_ _ | with_reducible refine New.alloc ?_ _ | with_reducible refine New.setCell ?_ (by first | (simp; done) | (simp; omega) | omega) _ | with_reducible refine New.trans ?_ (by with_reducible assumption))), own_base o3 (by omega)⟩
      · rw [show brkR xs f c = ([], 2) by rw [brkR, if_pos h1, runB, h3, decide_eq_false g5]; rfl]
        go_enter Try.func7, Try.ntmps7
        go_wp2_with fail
        refine (iIsLayout_any _ xs _ (Rd.new HV.out (by repeat (first | with_reducible exact New.refl _ | with_reducible assumption | with_reducible refine New.drew ?_ | with_reducible refine New.drewN ?_ _ | with_reducible refine New.alloc ?_ _ | with_reducible refine New.setCell ?_ (by first | (simp; done) | (simp; omega) | omega) _ | with_reducible refine New.trans ?_ (by with_reducible assumption)))) hx20).mono ?_; rintro e w1 ⟨rfl, b1⟩
        try with_reducible replace b1 := New.undrawN b1
        try with_reducible replace b1 := New.undraw b1
        obtain ⟨c1, f1⟩ := b1.rules
        have z1 := b1.size
        try simp only [World.size_alloc, World.size_drew, World.heap_drewN, World.size_setCell] at z1
        have z1_0 : w.heap.size < w1.heap.size := by omega
        go_wp2_with fail
        refine (iRange_any _ xs f c _ (Rd.new HV.out (by repeat (first | with_reducible exact New.refl _ | with_reducible assumption | with_reducible refine New.drew ?_ | with_reducible refine New.drewN ?_ _ | with_reducible refine New.alloc ?_ _ | with_reducible refine New.setCell ?_ (by first | (simp; done) | (simp; omega) | omega) _ | with_reducible refine New.trans ?_ (by with_reducible assumption)))) hn).mono ?_; rintro e w2 ⟨rfl, b2⟩
        try with_reducible replace b2 := New.undrawN b2
        try with_reducible replace b2 := New.undraw b2
        obtain ⟨c2, f2⟩ := b2.rules
        have z2 := b2.size
        try simp only [World.size_alloc, World.size_drew, World.heap_drewN, World.size_setCell] at z2
        have z2_0 : w.heap.size < w2.heap.size := by omega
        go_wp2_with (first | (go_at_call 20; refine (lengthG_any _ xs _ (Rd.new HV.out (by repeat (first | with_reducible exact New.refl _ | with_reducible assumption | with_reducible refine New.drew ?_ | with_reducible refine New.drewN ?_ _ | with_reducible refine New.alloc ?_ _ | with_reducible refine New.setCell ?_ (by first | (simp; done) | (simp; omega) | omega) _ | with_reducible refine New.trans ?_ (by with_reducible assumption))))).mono ?_; rintro e _ ⟨rfl, rfl⟩))
        go_ret2
        exact ⟨_, rfl, (by repeat (first | with_reducible exact New.refl _ | with_reducible assumption | with_reducible refine New.drew ?_ | with_reducible refine New.drewN ?_ _ | with_reducible refine New.alloc ?_ _ | with_reducible refine New.setCell ?_ (by first | (simp; done) | (simp; omega) | omega) _ | with_reducible refine New.trans ?_ (by with_reducible assumption))), World.ownsRow_nil _ _ _ _⟩
    · rw [show brkR xs f c = ([], 2) by rw [brkR, if_pos h1, runB, h3]; rfl]
      go_enter Try.func7, Try.ntmps7
      go_wp2_with fail
      refine (iIsLayout_any _ xs _ (Rd.new HV.out (by repeat (first | with_reducible exact New.refl _ | with_reducible assumption | with_reducible refine New.drew ?_ | with_reducible refine New.drewN ?_ _ | with_reducible refine New.alloc ?_ _ | with_reducible refine New.setCell ?_ (by first | (simp; done) | (simp; omega) | omega) _ | with_reducible refine New.trans ?_ (by with_reducible assumption)))) hx20).mono ?_; rintro e w1 ⟨rfl, b1⟩
      try with_reducible replace b1 := New.undrawN b1
      try with_reducible replace b1 := New.undraw b1
      obtain ⟨c1, f1⟩ := b1.rules
      have z1 := b1.size
      try simp only [World.size_alloc, World.size_drew, World.heap_drewN, World.size_setCell] at z1
      have z1_0 : w.heap.size < w1.heap.size := by omega
      go_wp2_with fail
      refine (iRange_any _ xs f c _ (Rd.new HV.out (by repeat (first | with_reducible exact New.refl _ | with_reducible assumption | with_reducible refine New.drew ?_ | with_reducible refine New.drewN ?_ _ | with_reducible refine New.alloc ?_ _ | with_reducible refine New.setCell ?_ (by first | (simp; done) | (simp; omega) | omega) _ | with_reducible refine New.trans ?_ (by with_reducible assumption)))) hn).mono ?_; rintro e w2 ⟨rfl, b2⟩
      try with_reducible replace b2 := New.undrawN b2
      try with_reducible replace b2 := New.undraw b2
      obtain ⟨c2, f2⟩ := b2.rules
      have z2 := b2.size
      try simp only [World.size_alloc, World.size_drew, World.heap_drewN, World.size_setCell] at z2
      have z2_0 : w.heap.size < w2.heap.size := by omega
      go_wp2_with fail
      go_ret2
      exact ⟨_, rfl, (by repeat (first | with_reducible exact New.refl _ | with_reducible assumption | with_reducible refine New.drew ?_ | with_reducible refine New.drewN ?_ _ | with_reducible refine New.alloc ?_ _ | with_reducible refine New.setCell ?_ (by first | (simp; done) | (simp; omega) | omega) _ | with_reducible refine New.trans ?_ (by with_reducible assumption))), World.ownsRow_nil _ _ _ _⟩
  · rw [show brkR xs f c = ([], 1) by rw [brkR, if_neg (by rw [h1]; simp)]]
    go_enter Try.func7, Try.ntmps7
    go_wp2_with fail
    refine (iIsLayout_any _ xs _ (Rd.new HV.out (by repeat (first | with_reducible exact New.refl _ | with_reducible assumption | with_reducible refine New.drew ?_ | with_reducible refine New.drewN ?_ _ | with_reducible refine New.alloc ?_ _ | with_reducible refine New.setCell ?_ (by first | (simp; done) | (simp; omega) | omega) _ | with_reducible refine New.trans ?_ (by with_reducible assumption)))) hx20).mono ?_; rintro e w1 ⟨rfl, b1⟩
    try with_reducible replace b1 := New.undrawN b1
    try with_reducible replace b1 := New.undraw b1
    obtain ⟨c1, f1⟩ := b1.rules
    have z1 := b1.size
    try simp only [World.size_alloc, World.size_drew, World.heap_drewN, World.size_setCell] at z1
    have z1_0 : w.heap.size < w1.heap.size := by omega
    go_wp2_with fail
    go_ret2
    exact ⟨_, rfl, (by repeat (first | with_reducible exact New.refl _ | with_reducible assumption | with_reducible refine New.drew ?_ | with_reducible refine New.drewN ?_ _ | with_reducible refine New.alloc ?_ _ | with_reducible refine New.setCell ?_ (by first | (simp; done) | (simp; omega) | omega) _ | with_reducible refine New.trans ?_ (by with_reducible assumption))), World.ownsRow_nil _ _ _ _⟩
end Go.Proofs.Ytinkhjjeflhagaa
