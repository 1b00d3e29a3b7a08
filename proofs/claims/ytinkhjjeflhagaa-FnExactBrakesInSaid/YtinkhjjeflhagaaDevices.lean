/- Contracts: layouts and devices. -/
import Derived.Test.YtinkhjjeflhagaaProg
import Derived.Test.YtinkhjjeflhagaaSegS
import Derived.Test.YtinkhjjeflhagaaFunc
import Derived.Test.YtinkhjjeflhagaaCells
namespace Go.Proofs.Ytinkhjjeflhagaa
open Go Go.Proofs Go.RowKit
set_option linter.unusedVariables false
set_option linter.unusedSimpArgs false
set_option maxRecDepth 100000
abbrev RdG (w : World) (v : Value) (xs : List ESegment) : Prop := Rd w v xs.length (xs.flatMap encSegment)
def segE (x : ESegment) : Bool := isSeg x.kind x.len x.rise x.rl x.rh x.fl x.fh
theorem segE_bd {x : ESegment} (h : segE x = true) : -100000 ≤ x.rise ∧ x.rise ≤ 100000 := by
  rw [segE, isSeg] at h
  simp only [Bool.and_eq_true] at h
  have := inB_iff.1 h.1.1.1.2
  omega
def sumRise : List ESegment → Int
  | [] => 0
  | x :: xs => x.rise + sumRise xs
theorem sumRise_app (xs ys : List ESegment) : sumRise (xs ++ ys) = sumRise xs + sumRise ys := by
  induction xs with
  | nil => simp [sumRise]
  | cons x xs ih => simp [sumRise, ih]; omega
theorem sumRise_next {xs : List ESegment} {k : Nat} (h : k < xs.length) : sumRise (xs.take (k + 1)) = sumRise (xs.take k) + xs[k].rise := by
  rw [List.take_succ_eq_append_getElem h, sumRise_app]; simp [sumRise]
def layB (xs : List ESegment) : Bool := inB xs.length 3 24 && !(xs.any fun x => !segE x) && (sumRise xs == 0 && (xs.getD (xs.length - 1) ⟨0, 0, 0, 0, 0, 0, 0⟩).kind == 4)
theorem layB_len {xs : List ESegment} (h : layB xs = true) : xs.length ≤ 24 := by
  rw [layB] at h; simp [inB] at h; omega
set_option maxHeartbeats 1000000 in
theorem sIsLayout_any (v : Value) (xs : List ESegment) (w : World) (hv : RdG w v xs) :
    Calls Try.prog 14 #[.agg #[v]] w fun e w' => e = .returned (.bool (layB xs)) ∧ New w w' := by
  obtain ⟨a, cap, rfl, hm, HC⟩ := Rd.flat encSegment_len (by omega) hv
  clear hv
  by_cases hn : 3 ≤ xs.length ∧ xs.length ≤ 24
  · obtain ⟨hn1, hn2⟩ := hn
    have hin : inB xs.length 3 24 = true := by simp [inB]; omega
    have HL := Lib.hid (show layB xs = (!(xs.any fun x => !segE x) && (sumRise xs == 0 && (xs.getD (xs.length - 1) ⟨0, 0, 0, 0, 0, 0, 0⟩).kind == 4)) by rw [layB, hin]; rfl)
    go_enter Try.func14, Try.ntmps14
    go_wp2_with fail
    go_loopw [4, 5] (fun s i wr => ∃ (k : Nat) (m : Int), k ≤ xs.length ∧ i = .int .i64 k ∧ s = .int .i64 m ∧ -100000 * (k : Int) ≤ m ∧ m ≤ 100000 * (k : Int) ∧ Hid (m = sumRise (xs.take k)) ∧ Hid ((xs.take k).findIdx? (fun x => !segE x) = none) ∧ New (w.alloc (.cells #[.slice a xs.length cap] 31)) wr) (fun _ i _ => xs.length - (intOf i).toNat)
    case atStart => exact ⟨0, 0, Nat.zero_le _, rfl, rfl, by omega, by omega, rfl, rfl, (by repeat (first | with_reducible exact New.refl _ | with_reducible assumption | with_reducible refine New.drew ?_ | with_reducible refine New.drewN ?_ _ | with_reducible refine New.alloc ?_ _ | with_reducible refine New.setCell ?_ (by first | (simp; done) | (simp; omega) | omega) _ | with_reducible refine New.trans ?_ (by with_reducible assumption)))⟩
    case round =>
      obtain ⟨k, m, hk, rfl, rfl, hm1, hm2, hs, hpre, hb⟩ := hrel
      obtain ⟨cc, f'⟩ := hb.rules
      have hbz := hb.size
      simp only [World.size_alloc] at hbz
      have hw0 : w.heap.size < wr.heap.size := by omega
      by_cases hlt : k < xs.length
      · obtain ⟨b, off, rfl, hbl, hx⟩ := HC.out k hlt
        have x0 := hx 0 _ (by omega) rfl
        have x1 := hx 1 _ (by omega) rfl
        have x2 := hx 2 _ (by omega) rfl
        have x3 := hx 3 _ (by omega) rfl
        have x4 := hx 4 _ (by omega) rfl
        have x5 := hx 5 _ (by omega) rfl
        have x6 := hx 6 _ (by omega) rfl
        rw [Nat.add_zero] at x0
        replace hx := Lib.hid hx
        have hbw : b < wr.heap.size := by omega
        have hbw1 : b < w.heap.size + 1 := by omega
        have HT := Lib.hid (take_find hlt hpre.out)
        have HN := Lib.hid (sumRise_next hlt)
        rcases Bool.eq_false_or_eq_true (segE xs[k]) with h1 | h1
        · have hr := segE_bd h1
          have HA := Lib.hid (HT.out.2 (by rw [h1]; rfl))
          rw [segE] at h1
          go_wp2_with fail
          refine (sIsSegment_any _ _ _ _ _ _ _ _).mono ?_; rintro e w3 ⟨rfl, b3⟩
          try with_reducible replace b3 := New.undrawN b3
          try with_reducible replace b3 := New.undraw b3
          obtain ⟨c3, f3⟩ := b3.rules
          have z3 := b3.size
          try simp only [World.size_alloc, World.size_drew, World.heap_drewN, World.size_setCell] at z3
          have z3_0 : w.heap.size < w3.heap.size := by omega
          have z3_1 : b < w3.heap.size := by omega
          go_wp2_with fail
          go_roundw
          case rel => exact ⟨k + 1, m + xs[k].rise, by omega, by go_num, rfl, by omega, by omega, Lib.hid (by rw [HN.out, ← hs.out]), HA, hb.trans b3⟩
          case measure => simp [intOf]; omega
        · have HA := Lib.hid (HT.out.1 (by rw [h1]; rfl))
          rw [segE] at h1
          go_wp2_with fail
          refine (sIsSegment_any _ _ _ _ _ _ _ _).mono ?_; rintro e w3 ⟨rfl, b3⟩
          try with_reducible replace b3 := New.undrawN b3
          try with_reducible replace b3 := New.undraw b3
          obtain ⟨c3, f3⟩ := b3.rules
          have z3 := b3.size
          try simp only [World.size_alloc, World.size_drew, World.heap_drewN, World.size_setCell] at z3
          go_wp2_with fail
          go_ret
          refine ⟨ret_bool ?_, (by repeat (first | with_reducible exact New.refl _ | with_reducible assumption | with_reducible refine New.drew ?_ | with_reducible refine New.drewN ?_ _ | with_reducible refine New.alloc ?_ _ | with_reducible refine New.setCell ?_ (by first | (simp; done) | (simp; omega) | omega) _ | with_reducible refine New.trans ?_ (by with_reducible assumption)))⟩
          have : (xs.any fun x => !segE x) = true := by rw [← idx_any, idx_some HA.out]; simp
          rw [HL.out, this]; rfl
      · obtain rfl : k = xs.length := by omega
        have HA := Lib.hid (show (xs.any fun x => !segE x) = false by rw [← idx_any, idx_none (by have := hpre.out; rwa [List.take_length] at this)]; rfl)
        have HS := Lib.hid (show m = sumRise xs by have := hs.out; rwa [List.take_length] at this)
        obtain ⟨j, hj⟩ : ∃ j, xs.length = j + 1 := ⟨xs.length - 1, by omega⟩
        have hlj : j < xs.length := by omega
        obtain ⟨b, off, rfl, hbl, hx⟩ := HC.out j hlj
        have x0 := hx 0 _ (by omega) rfl
        rw [Nat.add_zero] at x0
        replace hx := Lib.hid hx
        have hbw : b < wr.heap.size := by omega
        have hbw1 : b < w.heap.size + 1 := by omega
        have HG := Lib.hid (show (xs.getD (xs.length - 1) ⟨0, 0, 0, 0, 0, 0, 0⟩) = xs[j] by rw [hj]; simp [List.getD, hlj])
        have hji : (xs.length : Int) - 1 = (j : Int) := by omega
        go_wp2_with fail
        all_goals go_ret
        all_goals (refine ⟨ret_bool ?_, (by repeat (first | with_reducible exact New.refl _ | with_reducible assumption | with_reducible refine New.drew ?_ | with_reducible refine New.drewN ?_ _ | with_reducible refine New.alloc ?_ _ | with_reducible refine New.setCell ?_ (by first | (simp; done) | (simp; omega) | omega) _ | with_reducible refine New.trans ?_ (by with_reducible assumption)))⟩; rw [HL.out, HA.out, HG.out, ← HS.out]; simp_all)
  · have hin : inB xs.length 3 24 = false := by simp [inB]; omega
    have HL := Lib.hid (show layB xs = false by rw [layB, hin]; rfl)
    go_enter Try.func14, Try.ntmps14
    go_wp2_with fail
    all_goals first | (go_ret; exact ⟨ret_bool HL.out.symm, (by repeat (first | with_reducible exact New.refl _ | with_reducible assumption | with_reducible refine New.drew ?_ | with_reducible refine New.drewN ?_ _ | with_reducible refine New.alloc ?_ _ | with_reducible refine New.setCell ?_ (by first | (simp; done) | (simp; omega) | omega) _ | with_reducible refine New.trans ?_ (by with_reducible assumption)))⟩) | (exfalso; omega)
set_option maxHeartbeats 1000000 in
theorem iIsLayout_any (v : Value) (xs : List ESegment) (w : World) (hv : RdG w v xs) (hx20 : xs.length ≤ 1048576) :
    Calls Try.prog 18 #[.agg #[v]] w fun e w' => e = .returned (.bool (layB xs)) ∧ New w w' := by
  obtain ⟨a, cap, rfl, hm, HC⟩ := Rd.flat encSegment_len (by omega) hv
  clear hv
  go_enter Try.func18, Try.ntmps18
  go_wp2_with fail
  go_loopw [3, 10] (fun s i wr => ∃ (k : Nat) (m : Int), k ≤ xs.length ∧ i = .int .i64 k ∧ s = .int .i64 m ∧ -100000 * (k : Int) ≤ m ∧ m ≤ 100000 * (k : Int) ∧ Hid (m = sumRise (xs.take k)) ∧ Hid ((xs.take k).findIdx? (fun x => !segE x) = none) ∧ New (w.alloc (.cells #[.slice a xs.length cap] 31)) wr) (fun _ i _ => xs.length - (intOf i).toNat)
  case atStart => exact ⟨0, 0, Nat.zero_le _, rfl, rfl, by omega, by omega, rfl, rfl, (by repeat (first | with_reducible exact New.refl _ | with_reducible assumption | with_reducible refine New.drew ?_ | with_reducible refine New.drewN ?_ _ | with_reducible refine New.alloc ?_ _ | with_reducible refine New.setCell ?_ (by first | (simp; done) | (simp; omega) | omega) _ | with_reducible refine New.trans ?_ (by with_reducible assumption)))⟩
  case round =>
    obtain ⟨k, m, hk, rfl, rfl, hm1, hm2, hs, hpre, hb⟩ := hrel
    obtain ⟨cc, f'⟩ := hb.rules
    have hbz := hb.size
    simp only [World.size_alloc] at hbz
    have hw0 : w.heap.size < wr.heap.size := by omega
    by_cases hlt : k < xs.length
    · obtain ⟨b, off, rfl, hbl, hx⟩ := HC.out k hlt
      have x0 := hx 0 _ (by omega) rfl
      have x1 := hx 1 _ (by omega) rfl
      have x2 := hx 2 _ (by omega) rfl
      have x3 := hx 3 _ (by omega) rfl
      have x4 := hx 4 _ (by omega) rfl
      have x5 := hx 5 _ (by omega) rfl
      have x6 := hx 6 _ (by omega) rfl
      rw [Nat.add_zero] at x0
      replace hx := Lib.hid hx
      have hbw : b < wr.heap.size := by omega
      have hbw1 : b < w.heap.size + 1 := by omega
      have HT := Lib.hid (take_find hlt hpre.out)
      have HN := Lib.hid (sumRise_next hlt)
      rcases Bool.eq_false_or_eq_true (segE xs[k]) with h1 | h1
      · have hr := segE_bd h1
        have HA := Lib.hid (HT.out.2 (by rw [h1]; rfl))
        rw [segE] at h1
        go_wp2_with fail
        refine (iIsSegment_any _ _ _ _ _ _ _ _).mono ?_; rintro e w3 ⟨rfl, b3⟩
        try with_reducible replace b3 := New.undrawN b3
        try with_reducible replace b3 := New.undraw b3
        obtain ⟨c3, f3⟩ := b3.rules
        have z3 := b3.size
        try simp only [World.size_alloc, World.size_drew, World.heap_drewN, World.size_setCell] at z3
        have z3_0 : wr.heap.size < w3.heap.size := by omega
        go_wp2_with fail
        go_roundw
        case rel => exact ⟨k + 1, m + xs[k].rise, by omega, by go_num, rfl, by omega, by omega, Lib.hid (by rw [HN.out, ← hs.out]), HA, (hb.alloc _).trans b3⟩
        case measure => simp [intOf]; omega
      · have HA := Lib.hid (HT.out.1 (by rw [h1]; rfl))
        rw [segE] at h1
        go_wp2_with fail
        refine (iIsSegment_any _ _ _ _ _ _ _ _).mono ?_; rintro e w3 ⟨rfl, b3⟩
        try with_reducible replace b3 := New.undrawN b3
        try with_reducible replace b3 := New.undraw b3
        obtain ⟨c3, f3⟩ := b3.rules
        have z3 := b3.size
        try simp only [World.size_alloc, World.size_drew, World.heap_drewN, World.size_setCell] at z3
        go_wp2_with fail
        go_ret
        refine ⟨ret_bool ?_, (by repeat (first | with_reducible exact New.refl _ | with_reducible assumption | with_reducible refine New.drew ?_ | with_reducible refine New.drewN ?_ _ | with_reducible refine New.alloc ?_ _ | with_reducible refine New.setCell ?_ (by first | (simp; done) | (simp; omega) | omega) _ | with_reducible refine New.trans ?_ (by with_reducible assumption)))⟩
        have : (xs.any fun x => !segE x) = true := by rw [← idx_any, idx_some HA.out]; simp
        rw [layB, this]; simp
    · obtain rfl : k = xs.length := by omega
      have HA := Lib.hid (show (xs.any fun x => !segE x) = false by rw [← idx_any, idx_none (by have := hpre.out; rwa [List.take_length] at this)]; rfl)
      have HS := Lib.hid (show m = sumRise xs by have := hs.out; rwa [List.take_length] at this)
      rcases Bool.eq_false_or_eq_true (inB xs.length 3 24) with hin | hin
      · have hn : 3 ≤ xs.length ∧ xs.length ≤ 24 := by have := inB_iff.1 hin; omega
        obtain ⟨j, hj⟩ : ∃ j, xs.length = j + 1 := ⟨xs.length - 1, by omega⟩
        have hlj : j < xs.length := by omega
        obtain ⟨b, off, rfl, hbl, hx⟩ := HC.out j hlj
        have x0 := hx 0 _ (by omega) rfl
        rw [Nat.add_zero] at x0
        replace hx := Lib.hid hx
        have hbw : b < wr.heap.size := by omega
        have hbw1 : b < w.heap.size + 1 := by omega
        have HG := Lib.hid (show (xs.getD (xs.length - 1) ⟨0, 0, 0, 0, 0, 0, 0⟩) = xs[j] by rw [hj]; simp [List.getD, hlj])
        have hji : (xs.length : Int) - 1 = (j : Int) := by omega
        go_wp2_with (first | (go_at_call 29; refine (within_any _ _ _ _).mono ?_; rintro e _ ⟨rfl, rfl⟩))
        all_goals go_ret
        all_goals (refine ⟨ret_bool ?_, (by repeat (first | with_reducible exact New.refl _ | with_reducible assumption | with_reducible refine New.drew ?_ | with_reducible refine New.drewN ?_ _ | with_reducible refine New.alloc ?_ _ | with_reducible refine New.setCell ?_ (by first | (simp; done) | (simp; omega) | omega) _ | with_reducible refine New.trans ?_ (by with_reducible assumption)))⟩; rw [layB, hin, HA.out, HG.out, ← HS.out]; simp_all)
      · go_wp2_with (first | (go_at_call 29; refine (within_any _ _ _ _).mono ?_; rintro e _ ⟨rfl, rfl⟩))
        go_ret
        exact ⟨ret_bool (by rw [layB, hin]; rfl), (by repeat (first | with_reducible exact New.refl _ | with_reducible assumption | with_reducible refine New.drew ?_ | with_reducible refine New.drewN ?_ _ | with_reducible refine New.alloc ?_ _ | with_reducible refine New.setCell ?_ (by first | (simp; done) | (simp; omega) | omega) _ | with_reducible refine New.trans ?_ (by with_reducible assumption)))⟩
end Go.Proofs.Ytinkhjjeflhagaa
