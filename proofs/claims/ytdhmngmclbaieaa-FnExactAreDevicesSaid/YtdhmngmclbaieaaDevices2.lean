/- Contracts: devices of a layout. -/
import Derived.Test.YtdhmngmclbaieaaProg
import Derived.Test.YtdhmngmclbaieaaDevices
namespace Go.Proofs.Ytdhmngmclbaieaa
open Go Go.Proofs Go.RowKit
set_option linter.unusedVariables false
set_option linter.unusedSimpArgs false
set_option maxRecDepth 100000
def risesAt (on : List Int) (n : Int) (k : Nat) : Bool := decide (0 ≤ on.getD k 0) && decide (on.getD k 0 < n) && (decide (k = 0) || decide (on.getD (k - 1) 0 < on.getD k 0))
def risesB (on : List Int) (n : Int) : Bool := allUp (risesAt on n) on.length
theorem risesB_in {on : List Int} {n : Int} (h : risesB on n = true) : ∀ x ∈ on, 0 ≤ x ∧ x < n := by
  intro x hx
  obtain ⟨k, hk, rfl⟩ := List.mem_iff_getElem.1 hx
  rw [risesB, allUp] at h
  have := List.all_eq_true.1 h k (List.mem_range.2 hk)
  rw [risesAt] at this
  simp [List.getD, hk] at this
  exact this.1
theorem getD_at {xs : List Int} {k : Nat} (h : k < xs.length) : xs.getD k 0 = xs[k] := by simp [List.getD, h]
set_option maxHeartbeats 2000000 in
theorem sRises_any (v : Value) (on : List Int) (n : Int) (w : World) (hv : RdI w v on) (hl : on.length ≤ 1048576) :
    Calls Try.prog 114 #[v, .int .i64 n] w fun e w' => e = .returned (.bool (risesB on n)) ∧ New w w' := by
  obtain ⟨a, cap, rfl, hm, HC⟩ := hv.open
  clear hv
  go_enter Try.func114, Try.ntmps114
  go_wp2_with fail
  go_loopw [5] (fun i wr => ∃ k : Nat, k ≤ on.length ∧ i = .int .i64 k ∧ Hid (allUp (risesAt on n) k = true) ∧ New w wr) (fun i _ => on.length - (intOf i).toNat)
  case atStart => exact ⟨0, Nat.zero_le _, rfl, rfl, (by repeat (first | with_reducible exact New.refl _ | with_reducible assumption | with_reducible refine New.drew ?_ | with_reducible refine New.drewN ?_ _ | with_reducible refine New.alloc ?_ _ | with_reducible refine New.setCell ?_ (by first | (simp; done) | (simp; omega) | omega) _ | with_reducible refine New.trans ?_ (by with_reducible assumption)))⟩
  case round =>
    obtain ⟨k, hk, rfl, hpre, hb⟩ := hrel
    obtain ⟨cc, f'⟩ := hb.rules
    have hbz := hb.size
    by_cases hlt : k < on.length
    · obtain ⟨b, off, rfl, hbl, hx⟩ := HC.out w (New.refl w) k hlt
      have hbw : b < wr.heap.size := by omega
      have g0 := Lib.hid (getD_at hlt)
      by_cases h1 : on[k] < 0
      · have hd1 : decide (on[k] < 0) = true := decide_eq_true h1
        have HA := Lib.hid (allUp_not (p := risesAt on n) (n := on.length) hlt (by rw [risesAt, g0.out]; simp; omega))
        go_wp2_with fail
        go_quiet (fail)
        go_wp2_with fail
        go_ret
        exact ⟨ret_bool (by rw [risesB, HA.out]), (by repeat (first | with_reducible exact New.refl _ | with_reducible assumption | with_reducible refine New.drew ?_ | with_reducible refine New.drewN ?_ _ | with_reducible refine New.alloc ?_ _ | with_reducible refine New.setCell ?_ (by first | (simp; done) | (simp; omega) | omega) _ | with_reducible refine New.trans ?_ (by with_reducible assumption)))⟩
      · have hd1 : decide (on[k] < 0) = false := decide_eq_false h1
        by_cases h2 : n ≤ on[k]
        · have hd2 : decide (n ≤ on[k]) = true := decide_eq_true h2
          have HA := Lib.hid (allUp_not (p := risesAt on n) (n := on.length) hlt (by rw [risesAt, g0.out]; simp; omega))
          go_wp2_with fail
          go_quiet (fail)
          go_wp2_with fail
          go_ret
          exact ⟨ret_bool (by rw [risesB, HA.out]), (by repeat (first | with_reducible exact New.refl _ | with_reducible assumption | with_reducible refine New.drew ?_ | with_reducible refine New.drewN ?_ _ | with_reducible refine New.alloc ?_ _ | with_reducible refine New.setCell ?_ (by first | (simp; done) | (simp; omega) | omega) _ | with_reducible refine New.trans ?_ (by with_reducible assumption)))⟩
        · have hd2 : decide (n ≤ on[k]) = false := decide_eq_false h2
          by_cases h3 : k = 0
          · subst h3
            rw [Nat.add_zero] at hx
            have hd3 : decide ((0 : Int) < ((0 : Nat) : Int)) = false := by decide
            have hd4 : decide ((0 : Int) < 0) = false := by decide
            have HA := Lib.hid (allUp_next hpre.out (show risesAt on n 0 = true by rw [risesAt, g0.out]; simp; omega))
            go_wp2_with fail
            go_quiet (fail)
            go_wp2_with fail
            go_roundw
            case rel => exact ⟨0 + 1, by omega, by go_num, HA, (by repeat (first | with_reducible exact New.refl _ | with_reducible assumption | with_reducible refine New.drew ?_ | with_reducible refine New.drewN ?_ _ | with_reducible refine New.alloc ?_ _ | with_reducible refine New.setCell ?_ (by first | (simp; done) | (simp; omega) | omega) _ | with_reducible refine New.trans ?_ (by with_reducible assumption)))⟩
            case measure => simp [intOf]; omega
          · obtain ⟨j, rfl⟩ : ∃ j, k = j + 1 := ⟨k - 1, by omega⟩
            have hlj : j < on.length := by omega
            obtain ⟨b', off', hae, hbl', hx'⟩ := HC.out w (New.refl w) j hlj
            obtain ⟨rfl, rfl⟩ : b' = b ∧ off' = off := by cases hae; exact ⟨rfl, rfl⟩
            have g1 := Lib.hid (getD_at hlj)
            have hji : (j : Int) + 1 - 1 = (j : Int) := by omega
            have hjp : decide (0 < (j : Int) + 1) = true := decide_eq_true (by omega)
            rcases Int.lt_or_le on[j] on[j + 1] with h4 | h4
            · have HA := Lib.hid (allUp_next hpre.out (show risesAt on n (j + 1) = true by rw [risesAt, g0.out, Nat.add_sub_cancel, g1.out]; simp; omega))
              have h4' : decide (on[j + 1] ≤ on[j]) = false := decide_eq_false (by omega)
              go_wp2_with fail
              go_quiet (fail)
              go_wp2_with fail
              go_roundw
              case rel => exact ⟨j + 1 + 1, by omega, by go_num, HA, (by repeat (first | with_reducible exact New.refl _ | with_reducible assumption | with_reducible refine New.drew ?_ | with_reducible refine New.drewN ?_ _ | with_reducible refine New.alloc ?_ _ | with_reducible refine New.setCell ?_ (by first | (simp; done) | (simp; omega) | omega) _ | with_reducible refine New.trans ?_ (by with_reducible assumption)))⟩
              case measure => simp [intOf]; omega
            · have h4' : decide (on[j + 1] ≤ on[j]) = true := decide_eq_true h4
              have HA := Lib.hid (allUp_not (p := risesAt on n) (n := on.length) hlt (by rw [risesAt, g0.out, Nat.add_sub_cancel, g1.out]; simp; omega))
              go_wp2_with fail
              go_quiet (fail)
              go_wp2_with fail
              go_ret
              exact ⟨ret_bool (by rw [risesB, HA.out]), (by repeat (first | with_reducible exact New.refl _ | with_reducible assumption | with_reducible refine New.drew ?_ | with_reducible refine New.drewN ?_ _ | with_reducible refine New.alloc ?_ _ | with_reducible refine New.setCell ?_ (by first | (simp; done) | (simp; omega) | omega) _ | with_reducible refine New.trans ?_ (by with_reducible assumption)))⟩
    · obtain rfl : k = on.length := by omega
      go_wp2_with fail
      go_ret
      exact ⟨ret_bool (by rw [risesB, hpre.out]), (by repeat (first | with_reducible exact New.refl _ | with_reducible assumption | with_reducible refine New.drew ?_ | with_reducible refine New.drewN ?_ _ | with_reducible refine New.alloc ?_ _ | with_reducible refine New.setCell ?_ (by first | (simp; done) | (simp; omega) | omega) _ | with_reducible refine New.trans ?_ (by with_reducible assumption)))⟩
set_option maxHeartbeats 1000000 in
theorem iRises_any (v : Value) (on : List Int) (n : Int) (w : World) (hv : RdI w v on) (hl : on.length ≤ 1048576) :
    Calls Try.prog 115 #[v, .int .i64 n] w fun e w' => e = .returned (.bool (risesB on n)) ∧ New w w' := by
  obtain ⟨a, cap, rfl, hm, HC⟩ := hv.open
  clear hv
  go_enter Try.func115, Try.ntmps115
  go_wp2_with fail
  go_loopw [9] (fun i wr => ∃ k : Nat, k ≤ on.length ∧ i = .int .i64 k ∧ Hid (allUp (risesAt on n) k = true) ∧ New w wr) (fun i _ => on.length - (intOf i).toNat)
  case atStart => exact ⟨0, Nat.zero_le _, rfl, rfl, (by repeat (first | with_reducible exact New.refl _ | with_reducible assumption | with_reducible refine New.drew ?_ | with_reducible refine New.drewN ?_ _ | with_reducible refine New.alloc ?_ _ | with_reducible refine New.setCell ?_ (by first | (simp; done) | (simp; omega) | omega) _ | with_reducible refine New.trans ?_ (by with_reducible assumption)))⟩
  case round =>
    obtain ⟨k, hk, rfl, hpre, hb⟩ := hrel
    obtain ⟨cc, f'⟩ := hb.rules
    have hbz := hb.size
    by_cases hlt : k < on.length
    · obtain ⟨b, off, rfl, hbl, hx⟩ := HC.out w (New.refl w) k hlt
      have hbw : b < wr.heap.size := by omega
      have g0 := Lib.hid (getD_at hlt)
      by_cases h1 : on[k] < 0
      · have HA := Lib.hid (allUp_not (p := risesAt on n) (n := on.length) hlt (by rw [risesAt, g0.out]; simp; omega))
        go_wp2_with fail
        go_ret
        exact ⟨ret_bool (by rw [risesB, HA.out]), (by repeat (first | with_reducible exact New.refl _ | with_reducible assumption | with_reducible refine New.drew ?_ | with_reducible refine New.drewN ?_ _ | with_reducible refine New.alloc ?_ _ | with_reducible refine New.setCell ?_ (by first | (simp; done) | (simp; omega) | omega) _ | with_reducible refine New.trans ?_ (by with_reducible assumption)))⟩
      · by_cases h2 : n ≤ on[k]
        · have HA := Lib.hid (allUp_not (p := risesAt on n) (n := on.length) hlt (by rw [risesAt, g0.out]; simp; omega))
          go_wp2_with fail
          go_ret
          exact ⟨ret_bool (by rw [risesB, HA.out]), (by repeat (first | with_reducible exact New.refl _ | with_reducible assumption | with_reducible refine New.drew ?_ | with_reducible refine New.drewN ?_ _ | with_reducible refine New.alloc ?_ _ | with_reducible refine New.setCell ?_ (by first | (simp; done) | (simp; omega) | omega) _ | with_reducible refine New.trans ?_ (by with_reducible assumption)))⟩
        · by_cases h3 : k = 0
          · subst h3
            rw [Nat.add_zero] at hx
            have HA := Lib.hid (allUp_next hpre.out (show risesAt on n 0 = true by rw [risesAt, g0.out]; simp; omega))
            go_wp2_with fail
            go_roundw
            case rel => exact ⟨0 + 1, by omega, by go_num, HA, (by repeat (first | with_reducible exact New.refl _ | with_reducible assumption | with_reducible refine New.drew ?_ | with_reducible refine New.drewN ?_ _ | with_reducible refine New.alloc ?_ _ | with_reducible refine New.setCell ?_ (by first | (simp; done) | (simp; omega) | omega) _ | with_reducible refine New.trans ?_ (by with_reducible assumption)))⟩
            case measure => simp [intOf]; omega
          · obtain ⟨j, rfl⟩ : ∃ j, k = j + 1 := ⟨k - 1, by omega⟩
            have hlj : j < on.length := by omega
            obtain ⟨b', off', hae, hbl', hx'⟩ := HC.out w (New.refl w) j hlj
            obtain ⟨rfl, rfl⟩ : b' = b ∧ off' = off := by cases hae; exact ⟨rfl, rfl⟩
            have g1 := Lib.hid (getD_at hlj)
            have hji : (j : Int) + 1 - 1 = (j : Int) := by omega
            have hjp : 0 < (j : Int) + 1 := by omega
            rcases Int.lt_or_le on[j] on[j + 1] with h4 | h4
            · have HA := Lib.hid (allUp_next hpre.out (show risesAt on n (j + 1) = true by rw [risesAt, g0.out, Nat.add_sub_cancel, g1.out]; simp; omega))
              have h4' : ¬ on[j + 1] ≤ on[j] := by omega
              go_wp2_with fail
              go_roundw
              case rel => exact ⟨j + 1 + 1, by omega, by go_num, HA, (by repeat (first | with_reducible exact New.refl _ | with_reducible assumption | with_reducible refine New.drew ?_ | with_reducible refine New.drewN ?_ _ | with_reducible refine New.alloc ?_ _ | with_reducible refine New.setCell ?_ (by first | (simp; done) | (simp; omega) | omega) _ | with_reducible refine New.trans ?_ (by with_reducible assumption)))⟩
              case measure => simp [intOf]; omega
            · have HA := Lib.hid (allUp_not (p := risesAt on n) (n := on.length) hlt (by rw [risesAt, g0.out, Nat.add_sub_cancel, g1.out]; simp; omega))
              go_wp2_with fail
              go_ret
              exact ⟨ret_bool (by rw [risesB, HA.out]), (by repeat (first | with_reducible exact New.refl _ | with_reducible assumption | with_reducible refine New.drew ?_ | with_reducible refine New.drewN ?_ _ | with_reducible refine New.alloc ?_ _ | with_reducible refine New.setCell ?_ (by first | (simp; done) | (simp; omega) | omega) _ | with_reducible refine New.trans ?_ (by with_reducible assumption)))⟩
    · obtain rfl : k = on.length := by omega
      go_wp2_with fail
      go_ret
      exact ⟨ret_bool (by rw [risesB, hpre.out]), (by repeat (first | with_reducible exact New.refl _ | with_reducible assumption | with_reducible refine New.drew ?_ | with_reducible refine New.drewN ?_ _ | with_reducible refine New.alloc ?_ _ | with_reducible refine New.setCell ?_ (by first | (simp; done) | (simp; omega) | omega) _ | with_reducible refine New.trans ?_ (by with_reducible assumption)))⟩
end Go.Proofs.Ytdhmngmclbaieaa
