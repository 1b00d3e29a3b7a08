/- Contracts: the blocks that trains use: the reference. -/
import Derived.Test.YtinlichcbjpeaaaProg
import Derived.Test.YtinlichcbjpeaaaTraffic
import Derived.Test.YtinlichcbjpeaaaRets
import Derived.Test.YtinlichcbjpeaaaCells
namespace Go.Proofs.Ytinlichcbjpeaaa
open Go Go.Proofs Go.RowKit
set_option linter.unusedVariables false
set_option linter.unusedSimpArgs false
set_option maxRecDepth 100000
def usesQ (n p b : Int) : Bool := (p / 3 == b) || ((p % 3 == 2) && ((p / 3 + 1) % n == b))
def countQ (n : Int) (ps : List Int) (b : Int) : Nat := (ps.filter fun p => usesQ n p b).length
def loadsTo (n : Int) (ps : List Int) (k : Nat) : List Int := (List.range k).map fun (b : Nat) => (countQ n ps b : Int)
def loadsQ (n : Int) (ps : List Int) : List Int := loadsTo n ps n.toNat
def usedTo (n p : Int) (k : Nat) : List Int := ((List.range k).filter fun (b : Nat) => usesQ n p b).map Int.ofNat
def usedQ (n p : Int) : List Int := usedTo n p n.toNat
def safeTo (n : Int) (ps : List Int) (k : Nat) : Bool := (List.range k).all fun (b : Nat) => decide (countQ n ps b ≤ 1)
def safeQ (n : Int) (ps : List Int) : Bool := safeTo n ps n.toNat
theorem countQ_next {n b : Int} {ps : List Int} {k : Nat} (h : k < ps.length) : countQ n (ps.take (k + 1)) b = countQ n (ps.take k) b + (if usesQ n ps[k] b = true then 1 else 0) := by
  rw [countQ, List.take_succ_eq_append_getElem h, List.filter_append, List.length_append, countQ]
  by_cases hu : usesQ n ps[k] b = true
  · simp [hu]
  · simp [hu]
theorem countQ_le (n b : Int) (ps : List Int) : countQ n ps b ≤ ps.length := List.length_filter_le _ _
theorem loadsTo_next (n : Int) (ps : List Int) (k : Nat) : loadsTo n ps (k + 1) = loadsTo n ps k ++ [(countQ n ps k : Int)] := by
  rw [loadsTo, List.range_succ, List.map_append]; rfl
theorem loadsTo_len (n : Int) (ps : List Int) (k : Nat) : (loadsTo n ps k).length = k := by simp [loadsTo]
theorem usedTo_yes {n p : Int} {k : Nat} (h : usesQ n p k = true) : usedTo n p (k + 1) = usedTo n p k ++ [(k : Int)] := by
  rw [usedTo, List.range_succ, List.filter_append, List.map_append]; simp [usedTo, h]
theorem usedTo_no {n p : Int} {k : Nat} (h : usesQ n p k = false) : usedTo n p (k + 1) = usedTo n p k := by
  rw [usedTo, List.range_succ, List.filter_append, List.map_append]; simp [usedTo, h]
theorem usedTo_len (n p : Int) (k : Nat) : (usedTo n p k).length ≤ k := by
  rw [usedTo, List.length_map]; exact Nat.le_trans (List.length_filter_le _ _) (by simp)
def PlacesOk (n : Int) (ps : List Int) : Prop := ∀ p ∈ ps, 0 ≤ p ∧ p ≤ 3 * n - 1
theorem isTraf_ok {n : Int} {ps : List Int} (h : isTraf n ps = true) : (2 ≤ n ∧ n ≤ 8) ∧ (1 ≤ ps.length ∧ ps.length ≤ 4) ∧ PlacesOk n ps := by
  simp only [isTraf, Bool.and_eq_true, inB, decide_eq_true_eq, Bool.not_eq_true', List.any_eq_false] at h
  refine ⟨⟨h.1.1.1, h.1.1.2⟩, ⟨by omega, by omega⟩, fun p hp => ?_⟩
  have := h.2 p hp
  simpa [Bool.and_eq_true] using this
theorem sUsesQ_any (n p b : Int) (w : World) (hn : 2 ≤ n ∧ n ≤ 8) (hp : 0 ≤ p ∧ p ≤ 3 * n - 1) :
    Calls Try.prog 80 #[.int .i64 n, .int .i64 p, .int .i64 b] w fun e w' => e = .returned (.bool (usesQ n p b)) ∧ w = w' := by
  obtain ⟨hn1, hn2⟩ := hn
  obtain ⟨hp1, hp2⟩ := hp
  have e1 : IntKind.i64.wrap (p / 3 + 1) = p / 3 + 1 := IntWalk.i64_in _ (by omega)
  rcases Bool.eq_false_or_eq_true (p / 3 == b) with h1 | h1
  · go_enter Try.func80, Try.ntmps80
    go_wp2_with fail
    go_ret
    exact ⟨ret_bool (by rw [usesQ, h1]; rfl), rfl⟩
  · rcases Bool.eq_false_or_eq_true (p % 3 == 2) with h2 | h2
    · go_enter Try.func80, Try.ntmps80
      go_wp2_with fail
      go_ret
      exact ⟨ret_bool (by rw [usesQ, h1, h2]; rfl), rfl⟩
    · go_enter Try.func80, Try.ntmps80
      go_wp2_with fail
      go_ret
      exact ⟨ret_bool (by rw [usesQ, h1, h2]; rfl), rfl⟩
set_option maxHeartbeats 800000 in
theorem sCountQ_any (n : Int) (s : Value) (ps : List Int) (b : Int) (w : World) (hv : RdI w s ps) (hn : 2 ≤ n ∧ n ≤ 8) (hl : ps.length ≤ 4) (hp : PlacesOk n ps) :
    Calls Try.prog 76 #[.agg #[.int .i64 n, s], .int .i64 b] w fun e w' => e = .returned (.int .i64 (countQ n ps b)) ∧ New w w' := by
  obtain ⟨a, cap, rfl, hm, HC⟩ := hv.open
  clear hv
  have HP := Lib.hid hp; clear hp
  have HN := Lib.hid hn; clear hn
  have zz : w.heap.size < w.heap.size + 1 := by omega
  go_enter Try.func76, Try.ntmps76
  go_wp2_with fail
  go_loopw [5, 6] (fun c i wr => ∃ k : Nat, k ≤ ps.length ∧ i = .int .i64 k ∧ c = .int .i64 (countQ n (ps.take k) b) ∧ New (w.alloc (.cells #[.int .i64 n, .slice a ps.length cap] 32)) wr) (fun _ i _ => ps.length - (intOf i).toNat)
  case atStart => exact ⟨0, Nat.zero_le _, rfl, rfl, New.refl _⟩
  case round =>
    obtain ⟨k, hk, rfl, rfl, hb⟩ := hrel
    obtain ⟨cc, f'⟩ := hb.rules
    have hbz := hb.size
    simp only [World.size_alloc] at hbz
    have hb0 : New w wr := ((New.refl w).alloc _).trans hb
    have hww : w.heap.size < wr.heap.size := by omega
    have hcl := countQ_le n b (ps.take k)
    have hcl2 : (ps.take k).length ≤ 4 := by rw [List.length_take]; omega
    by_cases hlt : k < ps.length
    · obtain ⟨b', off, rfl, hbl, hx⟩ := HC.out w (New.refl w) k hlt
      have hbw : b' < wr.heap.size := by omega
      have hbw1 : b' < w.heap.size + 1 := by omega
      have HX := Lib.hid (countQ_next (n := n) (b := b) hlt)
      have HK := Lib.hid (HP.out ps[k] (List.getElem_mem hlt))
      have hq := fun (m : NewOf wr) b o => NewOf.cell m b o
      generalize ps[k] = x at *
      rcases Bool.eq_false_or_eq_true (usesQ n x b) with g1 | g1
      · have HCR := Lib.hid (fun w0 => show Calls Try.prog 80 #[.int .i64 n, .int .i64 x, .int .i64 b] w0 fun e w' => e = .returned (.bool true) ∧ w0 = w' by have := sUsesQ_any n x b w0 HN.out HK.out; rwa [g1] at this)
        have HA := Lib.hid (show countQ n (ps.take (k + 1)) b = countQ n (ps.take k) b + 1 by rw [HX.out, if_pos g1])
        clear g1
        go_wp2_with fail
        refine wp_region_new (by kernel_rfl) (by kernel_rfl) ?_
        repeat (first | go_big_quiet_skip | go_big_quiet_step ((first | exact newq_eq (HCR.out _))) | quiet_step ((first | exact newq_eq (HCR.out _))))
        refine wpQuiet_nil ?_
        rintro ⟨w3, b3⟩
        dsimp only
        try with_reducible replace b3 := New.undrawN b3
        try with_reducible replace b3 := New.undraw b3
        obtain ⟨c3, f3⟩ := b3.rules
        have z3 := b3.size
        try simp only [World.size_alloc, World.size_drew, World.heap_drewN, World.size_setCell] at z3
        have z3_0 : w.heap.size < w3.heap.size := by omega
        go_wp2_with fail
        go_roundw
        case rel => exact ⟨k + 1, by omega, by go_num, by rw [HA.out]; go_num, hb.trans b3⟩
        case measure => simp [intOf]; omega
      · have HCR := Lib.hid (fun w0 => show Calls Try.prog 80 #[.int .i64 n, .int .i64 x, .int .i64 b] w0 fun e w' => e = .returned (.bool false) ∧ w0 = w' by have := sUsesQ_any n x b w0 HN.out HK.out; rwa [g1] at this)
        have HA := Lib.hid (show countQ n (ps.take (k + 1)) b = countQ n (ps.take k) b by rw [HX.out, if_neg (by simp [g1])]; rfl)
        clear g1
        go_wp2_with fail
        refine wp_region_new (by kernel_rfl) (by kernel_rfl) ?_
        repeat (first | go_big_quiet_skip | go_big_quiet_step ((first | exact newq_eq (HCR.out _))) | quiet_step ((first | exact newq_eq (HCR.out _))))
        refine wpQuiet_nil ?_
        rintro ⟨w3, b3⟩
        dsimp only
        try with_reducible replace b3 := New.undrawN b3
        try with_reducible replace b3 := New.undraw b3
        obtain ⟨c3, f3⟩ := b3.rules
        have z3 := b3.size
        try simp only [World.size_alloc, World.size_drew, World.heap_drewN, World.size_setCell] at z3
        have z3_0 : w.heap.size < w3.heap.size := by omega
        go_wp2_with fail
        go_roundw
        case rel => exact ⟨k + 1, by omega, by go_num, by rw [HA.out], hb.trans b3⟩
        case measure => simp [intOf]; omega
    · obtain rfl : k = ps.length := by omega
      go_wp2_with fail
      go_ret
      exact ⟨by rw [List.take_length]; rfl, hb0⟩
set_option maxHeartbeats 800000 in
theorem sIsSafe_any (n : Int) (s : Value) (ps : List Int) (w : World) (hv : RdI w s ps) :
    Calls Try.prog 23 #[.agg #[.int .i64 n, s]] w fun e w' => e = .returned (.bool (isTraf n ps && safeQ n ps)) ∧ New w w' := by
  have HV := Lib.hid hv; clear hv
  have zz : w.heap.size < w.heap.size + 1 := by omega
  rcases Bool.eq_false_or_eq_true (isTraf n ps) with h1 | h1
  · obtain ⟨hn, hl, hp⟩ := isTraf_ok h1
    have HP := Lib.hid hp; clear hp
    have hl4 := hl.2
    obtain ⟨hn1, hn2⟩ := hn
    have HS := Lib.hid (show safeQ n ps = safeTo n ps n.toNat from rfl)
    have hnn : n = (n.toNat : Int) := by omega
    generalize n.toNat = m at *
    subst hnn
    go_enter Try.func23, Try.ntmps23
    go_wp2_with fail
    refine (sIsTraffic_any _ s ps _ (HV.out.new (by repeat (first | with_reducible exact New.refl _ | with_reducible assumption | with_reducible refine New.drew ?_ | with_reducible refine New.drewN ?_ _ | with_reducible refine New.alloc ?_ _ | with_reducible refine New.setCell ?_ (by first | (simp; done) | (simp; omega) | omega) _ | with_reducible refine New.trans ?_ (by with_reducible assumption))))).mono ?_; rintro e w1 ⟨rfl, b1⟩
    try with_reducible replace b1 := New.undrawN b1
    try with_reducible replace b1 := New.undraw b1
    obtain ⟨c1, f1⟩ := b1.rules
    have z1 := b1.size
    try simp only [World.size_alloc, World.size_drew, World.heap_drewN, World.size_setCell] at z1
    have z1_0 : w.heap.size < w1.heap.size := by omega
    go_wp2_with fail
    go_loopw [3] (fun i wr => ∃ k : Nat, k ≤ m ∧ i = .int .i64 k ∧ Hid (safeTo m ps k = true) ∧ New (w.alloc (.cells #[.int .i64 (m : Int), s] 32)) wr) (fun i _ => m - (intOf i).toNat)
    case atStart => exact ⟨0, Nat.zero_le _, rfl, rfl, (by repeat (first | with_reducible exact New.refl _ | with_reducible assumption | with_reducible refine New.drew ?_ | with_reducible refine New.drewN ?_ _ | with_reducible refine New.alloc ?_ _ | with_reducible refine New.setCell ?_ (by first | (simp; done) | (simp; omega) | omega) _ | with_reducible refine New.trans ?_ (by with_reducible assumption)))⟩
    case round =>
      obtain ⟨k, hk, rfl, hpre, hb⟩ := hrel
      clear c1 f1 b1
      obtain ⟨cc, f'⟩ := hb.rules
      have hbz := hb.size
      simp only [World.size_alloc] at hbz
      have hb0 : New w wr := ((New.refl w).alloc _).trans hb
      have hww : w.heap.size < wr.heap.size := by omega
      by_cases hlt : k < m
      · have HN := Lib.hid (show safeTo m ps (k + 1) = (safeTo m ps k && decide (countQ m ps k ≤ 1)) by rw [safeTo, List.range_succ, List.all_append]; simp [safeTo])
        by_cases hc : 1 < countQ m ps k
        · have HA := Lib.hid (show safeQ m ps = false by rw [HS.out, safeTo, List.all_eq_false]; exact ⟨k, List.mem_range.2 hlt, by simp; omega⟩)
          go_wp2_with fail
          refine (sCountQ_any _ s ps k _ (HV.out.new (by repeat (first | with_reducible exact New.refl _ | with_reducible assumption | with_reducible refine New.drew ?_ | with_reducible refine New.drewN ?_ _ | with_reducible refine New.alloc ?_ _ | with_reducible refine New.setCell ?_ (by first | (simp; done) | (simp; omega) | omega) _ | with_reducible refine New.trans ?_ (by with_reducible assumption)))) ⟨hn1, hn2⟩ hl4 HP.out).mono ?_; rintro e w2 ⟨rfl, b2⟩
          try with_reducible replace b2 := New.undrawN b2
          try with_reducible replace b2 := New.undraw b2
          obtain ⟨c2, f2⟩ := b2.rules
          have z2 := b2.size
          try simp only [World.size_alloc, World.size_drew, World.heap_drewN, World.size_setCell] at z2
          have z2_0 : w.heap.size < w2.heap.size := by omega
          go_wp2_with fail
          go_ret
          exact ⟨ret_bool (by rw [HA.out, h1]; rfl), hb0.trans b2⟩
        · have HA := Lib.hid (show safeTo m ps (k + 1) = true by rw [HN.out, hpre.out]; simp; omega)
          go_wp2_with fail
          refine (sCountQ_any _ s ps k _ (HV.out.new (by repeat (first | with_reducible exact New.refl _ | with_reducible assumption | with_reducible refine New.drew ?_ | with_reducible refine New.drewN ?_ _ | with_reducible refine New.alloc ?_ _ | with_reducible refine New.setCell ?_ (by first | (simp; done) | (simp; omega) | omega) _ | with_reducible refine New.trans ?_ (by with_reducible assumption)))) ⟨hn1, hn2⟩ hl4 HP.out).mono ?_; rintro e w2 ⟨rfl, b2⟩
          try with_reducible replace b2 := New.undrawN b2
          try with_reducible replace b2 := New.undraw b2
          obtain ⟨c2, f2⟩ := b2.rules
          have z2 := b2.size
          try simp only [World.size_alloc, World.size_drew, World.heap_drewN, World.size_setCell] at z2
          have z2_0 : w.heap.size < w2.heap.size := by omega
          go_wp2_with fail
          go_roundw
          case rel => exact ⟨k + 1, by omega, by go_num, HA, hb.trans b2⟩
          case measure => simp [intOf]; omega
      · obtain rfl : k = m := by omega
        go_wp2_with fail
        go_ret
        exact ⟨ret_bool (by rw [h1, HS.out, hpre.out]; rfl), hb0⟩
  · go_enter Try.func23, Try.ntmps23
    go_wp2_with fail
    refine (sIsTraffic_any _ s ps _ (HV.out.new (by repeat (first | with_reducible exact New.refl _ | with_reducible assumption | with_reducible refine New.drew ?_ | with_reducible refine New.drewN ?_ _ | with_reducible refine New.alloc ?_ _ | with_reducible refine New.setCell ?_ (by first | (simp; done) | (simp; omega) | omega) _ | with_reducible refine New.trans ?_ (by with_reducible assumption))))).mono ?_; rintro e w1 ⟨rfl, b1⟩
    try with_reducible replace b1 := New.undrawN b1
    try with_reducible replace b1 := New.undraw b1
    obtain ⟨c1, f1⟩ := b1.rules
    have z1 := b1.size
    try simp only [World.size_alloc, World.size_drew, World.heap_drewN, World.size_setCell] at z1
    have z1_0 : w.heap.size < w1.heap.size := by omega
    go_wp2_with fail
    go_ret
    exact ⟨ret_bool (by rw [h1]; rfl), (by repeat (first | with_reducible exact New.refl _ | with_reducible assumption | with_reducible refine New.drew ?_ | with_reducible refine New.drewN ?_ _ | with_reducible refine New.alloc ?_ _ | with_reducible refine New.setCell ?_ (by first | (simp; done) | (simp; omega) | omega) _ | with_reducible refine New.trans ?_ (by with_reducible assumption)))⟩
end Go.Proofs.Ytinlichcbjpeaaa
