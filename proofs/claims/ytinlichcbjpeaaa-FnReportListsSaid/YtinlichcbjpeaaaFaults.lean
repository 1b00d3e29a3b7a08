/- Contracts: faults. -/
import Derived.Test.YtinlichcbjpeaaaProg
import Derived.Test.YtinlichcbjpeaaaNum
import Derived.Test.YtinlichcbjpeaaaFunc
import Derived.Test.YtinlichcbjpeaaaFaultS
namespace Go.Proofs.Ytinlichcbjpeaaa
open Go Go.Proofs Go.RowKit
set_option linter.unusedVariables false
set_option linter.unusedSimpArgs false
set_option maxRecDepth 100000
set_option maxHeartbeats 800000 in
theorem indexFuncSensorFault_any (F : FuncId) (caps : Array Value) (p : ESensorFault → Bool) (v : Value) (xs : List ESensorFault) (w : World) (hv : Rd w v xs.length (xs.flatMap encSensorFault))
    (hF : ∀ args w, Sem.run Try.prog (callFunc F args) w = .ok (.enter F args) w)
    (hp : ∀ x w1, x ∈ xs → New w w1 → Calls Try.prog F (#[.agg #[.int .i64 x.blk, .int .i64 x.chan, .int .i64 x.val]] ++ caps) w1 fun e w' => e = .returned (.bool (p x)) ∧ New w1 w') :
    Calls Try.prog 130 #[v, .func (.func F) #[] caps] w (RetVal w (.int .i64 (idx p xs))) := by
  obtain ⟨a, cap, rfl, hm, HC⟩ := Rd.flat encSensorFault_len (by omega) hv
  have HP := Lib.hid hp; clear hp
  go_enter Try.func130, Try.ntmps130
  go_wp2_with fail
  go_loopw [8] (fun i wr => ∃ k : Nat, k ≤ xs.length ∧ i = .int .i64 k ∧ Hid ((xs.take k).findIdx? p = none) ∧ New w wr) (fun i _ => xs.length - (intOf i).toNat)
  case atStart => exact ⟨0, Nat.zero_le _, rfl, rfl, New.refl _⟩
  case round =>
    obtain ⟨k, hk, rfl, hpre, hb⟩ := hrel
    obtain ⟨c, f⟩ := hb.rules
    by_cases hlt : k < xs.length
    · obtain ⟨b, off, rfl, hbl, hx⟩ := HC.out k hlt
      have x0 := hx 0 _ (by omega) rfl
      have x1 := hx 1 _ (by omega) rfl
      have x2 := hx 2 _ (by omega) rfl
      rw [Nat.add_zero] at x0
      replace hx := Lib.hid hx
      have HT := Lib.hid (take_find hlt hpre.out)
      clear hv
      go_wp2_with fail
      refine (HP.out xs[k] _ (by simp) hb).mono ?_
      rintro e w2 ⟨rfl, hb2⟩
      go_wp2_with fail
      · have hh : p xs[k] = true := by assumption
        go_ret
        exact ⟨by rw [idx_some (HT.out.1 hh)]; rfl, hb.trans hb2⟩
      · have hh : p xs[k] = false := by assumption
        go_roundw
        case rel => exact ⟨k + 1, by omega, by go_num, Lib.hid (HT.out.2 hh), hb.trans hb2⟩
        case measure => simp [intOf]; omega
    · obtain rfl : k = xs.length := by omega
      go_wp2_with fail
      go_ret
      exact ⟨by rw [idx_none (by simpa using hpre.out)]; rfl, hb⟩
theorem containsFuncSensorFault_any (F : FuncId) (caps : Array Value) (p : ESensorFault → Bool) (v : Value) (xs : List ESensorFault) (w : World) (hv : Rd w v xs.length (xs.flatMap encSensorFault))
    (hF : ∀ args w, Sem.run Try.prog (callFunc F args) w = .ok (.enter F args) w)
    (hp : ∀ x w1, x ∈ xs → New w w1 → Calls Try.prog F (#[.agg #[.int .i64 x.blk, .int .i64 x.chan, .int .i64 x.val]] ++ caps) w1 fun e w' => e = .returned (.bool (p x)) ∧ New w1 w') :
    Calls Try.prog 118 #[v, .func (.func F) #[] caps] w (RetVal w (.bool (xs.any p))) := by
  have HV := Lib.hid hv; clear hv
  have HP := Lib.hid hp; clear hp
  have HI := Lib.hid (idx_any p xs)
  go_enter Try.func118, Try.ntmps118
  go_wp2_with fail
  refine (indexFuncSensorFault_any F caps p v xs w HV.out hF HP.out).mono ?_
  rintro e w2 ⟨rfl, hb2⟩
  go_wp2_with fail
  go_ret
  exact ⟨ret_bool HI.out, hb2⟩
def okF (hi : Int) (x : ESensorFault) : Bool := inB x.blk 0 hi && inB x.chan 0 1 && inB x.val 0 1
def sameF (x o : ESensorFault) : Bool := (o.blk == x.blk) && (o.chan == x.chan)
def pF (hi : Int) (xs : List ESensorFault) (i : Nat) : Bool := match xs[i]? with | some x => okF hi x && !((xs.take i).any (sameF x)) | none => true
theorem pF_at {hi : Int} {xs : List ESensorFault} {k : Nat} (hk : k < xs.length) : pF hi xs k = (okF hi xs[k] && !((xs.take k).any (sameF xs[k]))) := by
  simp [pF, hk]
def faultsOk (b : Int) (xs : List ESensorFault) : Bool := allUp (pF (wrap64 (b - 1)) xs) xs.length && decide (xs.length ≤ 8)
theorem isReportValue_any (x : Int) (w : World) : Calls Try.prog 109 #[.int .i64 x] w fun e w' => e = .returned (.bool (inB x 0 1)) ∧ w = w' := by
  go_enter Try.func109, Try.ntmps109
  go_wp2_with fail
  all_goals (go_ret; exact ⟨ret_bool (by rw [Bool.eq_iff_iff]; simp [inB]; omega), rfl⟩)
theorem areFaults1_any (x o : ESensorFault) (blk : Nat) (w : World) (h0 : w.cell? ⟨blk, 0, none⟩ = some (.int .i64 x.blk)) (h1 : w.cell? ⟨blk, 1, none⟩ = some (.int .i64 x.chan)) :
    Calls Try.prog 119 #[.agg #[.int .i64 o.blk, .int .i64 o.chan, .int .i64 o.val], .pointer (some ⟨blk, 0, none⟩)] w fun e w' => e = .returned (.bool (sameF x o)) ∧ New w w' := by
  have hblk : blk < w.heap.size := World.block_lt_of_cell? w _ h0
  rcases Bool.eq_false_or_eq_true (o.blk == x.blk) with h | h
  all_goals
    go_enter Try.func119, Try.ntmps119
    go_wp2_with fail
    go_ret
    exact ⟨ret_bool (by simp [sameF, h]), (by repeat (first | with_reducible exact New.refl _ | with_reducible assumption | with_reducible refine New.drew ?_ | with_reducible refine New.drewN ?_ _ | with_reducible refine New.alloc ?_ _ | with_reducible refine New.setCell ?_ (by first | (simp; done) | (simp; omega) | omega) _ | with_reducible refine New.trans ?_ (by with_reducible assumption)))⟩
set_option maxHeartbeats 800000 in
theorem areFaultsIn_any (nb : Int) (v : Value) (xs : List ESensorFault) (w : World) (hv : Rd w v xs.length (xs.flatMap encSensorFault)) :
    Calls Try.prog 97 #[.int .i64 nb, v] w fun e w' => e = .returned (.bool (faultsOk nb xs)) ∧ New w w' := by
  have hmf : ∀ (fn : Fn) (first cap : Array Value) (w : World), (Instr.makeFunc fn first cap).run Try.prog w = .ok (.func fn first cap) w := fun _ _ _ _ => rfl
  have HV := Lib.hid hv
  obtain ⟨a, cap, rfl, hm, HC⟩ := Rd.flat encSensorFault_len (by omega) hv
  have hcap := hv.cap
  clear hv
  go_enter Try.func97, Try.ntmps97
  go_wp2_with fail
  go_loopw [9] (fun i wr => ∃ k : Nat, k ≤ xs.length ∧ i = .int .i64 k ∧ Hid (allUp (pF (wrap64 (nb - 1)) xs) k = true) ∧ New w wr) (fun i _ => xs.length - (intOf i).toNat)
  case atStart => exact ⟨0, Nat.zero_le _, rfl, rfl, New.refl _⟩
  case round =>
    obtain ⟨k, hk, rfl, hpre, hb⟩ := hrel
    obtain ⟨c, f⟩ := hb.rules
    have hsz := hb.size
    by_cases hlt : k < xs.length
    · obtain ⟨b, off, rfl, hbl, hx⟩ := HC.out k hlt
      have x0 := hx 0 _ (by omega) rfl
      rw [Nat.add_zero] at x0
      have x1 := hx 1 _ (by omega) rfl
      have x2 := hx 2 _ (by omega) rfl
      replace hx := Lib.hid hx
      rcases Bool.eq_false_or_eq_true (inB xs[k].blk 0 (wrap64 (nb - 1))) with h1 | h1; rotate_left
      · have HA := Lib.hid (allUp_not (p := pF (wrap64 (nb - 1)) xs) hlt (by rw [pF_at hlt]; simp [okF, h1]))
        go_wp2_with (first | (go_at_call 105; refine (within_any _ _ _ _).mono ?_; rintro e w' ⟨rfl, rfl⟩) | (go_at_call 109; refine (isReportValue_any _ _).mono ?_; rintro e w' ⟨rfl, rfl⟩))
        go_ret
        exact ⟨ret_bool (by simp [faultsOk, HA.out]), (by repeat (first | with_reducible exact New.refl _ | with_reducible assumption | with_reducible refine New.drew ?_ | with_reducible refine New.drewN ?_ _ | with_reducible refine New.alloc ?_ _ | with_reducible refine New.setCell ?_ (by first | (simp; done) | (simp; omega) | omega) _ | with_reducible refine New.trans ?_ (by with_reducible assumption)))⟩
      rcases Bool.eq_false_or_eq_true (inB xs[k].chan 0 1) with h2 | h2; rotate_left
      · have HA := Lib.hid (allUp_not (p := pF (wrap64 (nb - 1)) xs) hlt (by rw [pF_at hlt]; simp [okF, h2]))
        have n0 : (xs[k].chan != 0) = true := by simp; rw [inB_not] at h2; omega
        have n1 : (xs[k].chan != 1) = true := by simp; rw [inB_not] at h2; omega
        go_wp2_with (first | (go_at_call 105; refine (within_any _ _ _ _).mono ?_; rintro e w' ⟨rfl, rfl⟩) | (go_at_call 109; refine (isReportValue_any _ _).mono ?_; rintro e w' ⟨rfl, rfl⟩))
        go_ret
        exact ⟨ret_bool (by simp [faultsOk, HA.out]), (by repeat (first | with_reducible exact New.refl _ | with_reducible assumption | with_reducible refine New.drew ?_ | with_reducible refine New.drewN ?_ _ | with_reducible refine New.alloc ?_ _ | with_reducible refine New.setCell ?_ (by first | (simp; done) | (simp; omega) | omega) _ | with_reducible refine New.trans ?_ (by with_reducible assumption)))⟩
      rcases (show (xs[k].chan != 0) = false ∨ ((xs[k].chan != 0) = true ∧ (xs[k].chan != 1) = false) by simp; rw [inB_iff] at h2; omega) with n0 | ⟨n0, n1⟩
      all_goals
        rcases Bool.eq_false_or_eq_true (inB xs[k].val 0 1) with h3 | h3; rotate_left
        · have HA := Lib.hid (allUp_not (p := pF (wrap64 (nb - 1)) xs) hlt (by rw [pF_at hlt]; simp [okF, h3]))
          go_wp2_with (first | (go_at_call 105; refine (within_any _ _ _ _).mono ?_; rintro e w' ⟨rfl, rfl⟩) | (go_at_call 109; refine (isReportValue_any _ _).mono ?_; rintro e w' ⟨rfl, rfl⟩))
          go_ret
          exact ⟨ret_bool (by simp [faultsOk, HA.out]), (by repeat (first | with_reducible exact New.refl _ | with_reducible assumption | with_reducible refine New.drew ?_ | with_reducible refine New.drewN ?_ _ | with_reducible refine New.alloc ?_ _ | with_reducible refine New.setCell ?_ (by first | (simp; done) | (simp; omega) | omega) _ | with_reducible refine New.trans ?_ (by with_reducible assumption)))⟩
        go_wp2_with (first | (go_at_call 105; refine (within_any _ _ _ _).mono ?_; rintro e w' ⟨rfl, rfl⟩) | (go_at_call 109; refine (isReportValue_any _ _).mono ?_; rintro e w' ⟨rfl, rfl⟩))
        refine (containsFuncSensorFault_any 119 #[.pointer (some ⟨wr.heap.size, 0, none⟩)] (sameF xs[k]) _ (xs.take k) _ ?_ (fun _ _ => rfl) (fun o w1 ho hn => ?_)).mono ?_
        · exact (Rd.takeE encSensorFault_len (by omega) HV.out).new (by repeat (first | with_reducible exact New.refl _ | with_reducible assumption | with_reducible refine New.drew ?_ | with_reducible refine New.drewN ?_ _ | with_reducible refine New.alloc ?_ _ | with_reducible refine New.setCell ?_ (by first | (simp; done) | (simp; omega) | omega) _ | with_reducible refine New.trans ?_ (by with_reducible assumption)))
        · exact areFaults1_any xs[k] o wr.heap.size w1 (by rw [hn.cell (by simp)]; simp) (by rw [hn.cell (by simp)]; simp)
        rintro e w3 ⟨rfl, b3⟩
        go_wp2_with fail
        · have hh : (xs.take k).any (sameF xs[k]) = true := by assumption
          have HA := Lib.hid (allUp_not (p := pF (wrap64 (nb - 1)) xs) hlt (by rw [pF_at hlt, hh]; simp))
          go_ret
          exact ⟨ret_bool (by simp [faultsOk, HA.out]), (by repeat (first | with_reducible exact New.refl _ | with_reducible assumption | with_reducible refine New.drew ?_ | with_reducible refine New.drewN ?_ _ | with_reducible refine New.alloc ?_ _ | with_reducible refine New.setCell ?_ (by first | (simp; done) | (simp; omega) | omega) _ | with_reducible refine New.trans ?_ (by with_reducible assumption)))⟩
        · have hh : (xs.take k).any (sameF xs[k]) = false := by assumption
          have HA := Lib.hid (allUp_next hpre.out (by rw [pF_at hlt, hh]; simp [okF, h1, h2, h3]))
          go_roundw
          case rel => exact ⟨k + 1, by omega, by go_num, HA, (by repeat (first | with_reducible exact New.refl _ | with_reducible assumption | with_reducible refine New.drew ?_ | with_reducible refine New.drewN ?_ _ | with_reducible refine New.alloc ?_ _ | with_reducible refine New.setCell ?_ (by first | (simp; done) | (simp; omega) | omega) _ | with_reducible refine New.trans ?_ (by with_reducible assumption)))⟩
          case measure => simp [intOf]; omega
    · obtain rfl : k = xs.length := by omega
      go_wp2_with fail
      go_ret
      exact ⟨ret_bool (by rw [faultsOk, hpre.out]; simp; try omega), (by repeat (first | with_reducible exact New.refl _ | with_reducible assumption | with_reducible refine New.drew ?_ | with_reducible refine New.drewN ?_ _ | with_reducible refine New.alloc ?_ _ | with_reducible refine New.setCell ?_ (by first | (simp; done) | (simp; omega) | omega) _ | with_reducible refine New.trans ?_ (by with_reducible assumption)))⟩
def areFaultsL (nb : Int) (xs : List ESensorFault) : Bool := inB nb 2 8 && faultsOk nb xs
theorem iAreFaults_any (nb : Int) (v : Value) (xs : List ESensorFault) (w : World) (hv : Rd w v xs.length (xs.flatMap encSensorFault)) :
    Calls Try.prog 53 #[.int .i64 nb, v] w fun e w' => e = .returned (.bool (areFaultsL nb xs)) ∧ New w w' := by
  rcases Bool.eq_false_or_eq_true (inB nb 2 8) with h1 | h1; rotate_left
  · go_enter Try.func53, Try.ntmps53
    go_wp2_with (go_at_call 100; refine (isBlockCount_any _ _).mono ?_; rintro e w' ⟨rfl, rfl⟩)
    go_ret
    exact ⟨ret_bool (by simp [areFaultsL, h1]), (by repeat (first | with_reducible exact New.refl _ | with_reducible assumption | with_reducible refine New.drew ?_ | with_reducible refine New.drewN ?_ _ | with_reducible refine New.alloc ?_ _ | with_reducible refine New.setCell ?_ (by first | (simp; done) | (simp; omega) | omega) _ | with_reducible refine New.trans ?_ (by with_reducible assumption)))⟩
  go_enter Try.func53, Try.ntmps53
  go_wp2_with (go_at_call 100; refine (isBlockCount_any _ _).mono ?_; rintro e w' ⟨rfl, rfl⟩)
  refine (areFaultsIn_any _ _ xs _ hv).mono ?_; rintro e w1 ⟨rfl, b1⟩
  try with_reducible replace b1 := New.undrawN b1
  try with_reducible replace b1 := New.undraw b1
  obtain ⟨c1, f1⟩ := b1.rules
  have z1 := b1.size
  try simp only [World.size_alloc, World.size_drew, World.heap_drewN, World.size_setCell] at z1
  go_wp2_with fail
  go_ret
  exact ⟨ret_bool (by simp [areFaultsL, h1]), (by repeat (first | with_reducible exact New.refl _ | with_reducible assumption | with_reducible refine New.drew ?_ | with_reducible refine New.drewN ?_ _ | with_reducible refine New.alloc ?_ _ | with_reducible refine New.setCell ?_ (by first | (simp; done) | (simp; omega) | omega) _ | with_reducible refine New.trans ?_ (by with_reducible assumption)))⟩
theorem l11Number_any (x : Int) (w : World) : Calls Try.prog 102 #[.int .i64 x] w fun e w' => e = .returned (.bool (inB x 2 8)) ∧ w = w' := by
  go_enter Try.func102, Try.ntmps102
  go_wp2_with (go_at_call 101; refine (l01In_any _ _ _ _).mono ?_; rintro e w' ⟨rfl, rfl⟩)
  go_ret
  exact ⟨rfl, rfl⟩
set_option maxHeartbeats 800000 in
theorem sAreFaults_any (nb : Int) (v : Value) (xs : List ESensorFault) (w : World) (hv : Rd w v xs.length (xs.flatMap encSensorFault)) :
    Calls Try.prog 54 #[.int .i64 nb, v] w fun e w' => e = .returned (.bool (areFaultsL nb xs)) ∧ New w w' := by
  obtain ⟨a, cap, rfl, hm, HC⟩ := Rd.flat encSensorFault_len (by omega) hv
  clear hv
  go_enter Try.func54, Try.ntmps54
  go_wp2_with fail
  go_loopw [5] (fun i wr => ∃ k : Nat, k ≤ xs.length ∧ i = .int .i64 k ∧ Hid (allUp (pF (wrap64 (nb - 1)) xs) k = true) ∧ New w wr) (fun i _ => xs.length - (intOf i).toNat)
  case atStart => exact ⟨0, Nat.zero_le _, rfl, rfl, New.refl _⟩
  case round =>
    obtain ⟨k, hk, rfl, hpre, hb⟩ := hrel
    obtain ⟨c, f⟩ := hb.rules
    have hsz := hb.size
    by_cases hlt : k < xs.length
    · obtain ⟨b, off, rfl, hbl, hx⟩ := HC.out k hlt
      have x0 := hx 0 _ (by omega) rfl
      rw [Nat.add_zero] at x0
      have x1 := hx 1 _ (by omega) rfl
      have x2 := hx 2 _ (by omega) rfl
      replace hx := Lib.hid hx
      rcases Bool.eq_false_or_eq_true (inB xs[k].blk 0 (wrap64 (nb - 1))) with h1 | h1; rotate_left
      · have HA := Lib.hid (allUp_not (p := pF (wrap64 (nb - 1)) xs) hlt (by rw [pF_at hlt]; simp [okF, h1]))
        go_wp2_with (go_at_call 101; refine (l01In_any _ _ _ _).mono ?_; rintro e w' ⟨rfl, rfl⟩)
        go_ret
        exact ⟨ret_bool (by simp [areFaultsL, faultsOk, HA.out]), (by repeat (first | with_reducible exact New.refl _ | with_reducible assumption | with_reducible refine New.drew ?_ | with_reducible refine New.drewN ?_ _ | with_reducible refine New.alloc ?_ _ | with_reducible refine New.setCell ?_ (by first | (simp; done) | (simp; omega) | omega) _ | with_reducible refine New.trans ?_ (by with_reducible assumption)))⟩
      rcases Bool.eq_false_or_eq_true (inB xs[k].chan 0 1) with h2 | h2; rotate_left
      · have HA := Lib.hid (allUp_not (p := pF (wrap64 (nb - 1)) xs) hlt (by rw [pF_at hlt]; simp [okF, h2]))
        go_wp2_with (go_at_call 101; refine (l01In_any _ _ _ _).mono ?_; rintro e w' ⟨rfl, rfl⟩)
        go_ret
        exact ⟨ret_bool (by simp [areFaultsL, faultsOk, HA.out]), (by repeat (first | with_reducible exact New.refl _ | with_reducible assumption | with_reducible refine New.drew ?_ | with_reducible refine New.drewN ?_ _ | with_reducible refine New.alloc ?_ _ | with_reducible refine New.setCell ?_ (by first | (simp; done) | (simp; omega) | omega) _ | with_reducible refine New.trans ?_ (by with_reducible assumption)))⟩
      rcases Bool.eq_false_or_eq_true (inB xs[k].val 0 1) with h3 | h3; rotate_left
      · have HA := Lib.hid (allUp_not (p := pF (wrap64 (nb - 1)) xs) hlt (by rw [pF_at hlt]; simp [okF, h3]))
        go_wp2_with (go_at_call 101; refine (l01In_any _ _ _ _).mono ?_; rintro e w' ⟨rfl, rfl⟩)
        go_ret
        exact ⟨ret_bool (by simp [areFaultsL, faultsOk, HA.out]), (by repeat (first | with_reducible exact New.refl _ | with_reducible assumption | with_reducible refine New.drew ?_ | with_reducible refine New.drewN ?_ _ | with_reducible refine New.alloc ?_ _ | with_reducible refine New.setCell ?_ (by first | (simp; done) | (simp; omega) | omega) _ | with_reducible refine New.trans ?_ (by with_reducible assumption)))⟩
      go_wp2_with (go_at_call 101; refine (l01In_any _ _ _ _).mono ?_; rintro e w' ⟨rfl, rfl⟩)
      obtain ⟨wo, hwo⟩ : ∃ x, x = wr := ⟨_, rfl⟩
      subst hwo
      go_loopw [7] (fun i ws => ∃ m : Nat, m ≤ k ∧ i = .int .i64 m ∧ Hid ((xs.take m).any (sameF xs[k]) = false) ∧ New (wo.alloc (.cells #[.int .i64 xs[k].blk, .int .i64 xs[k].chan, .int .i64 xs[k].val] 77)) ws) (fun i _ => k - (intOf i).toNat)
      case atStart => exact ⟨0, Nat.zero_le _, rfl, rfl, New.refl _⟩
      case round =>
        obtain ⟨m, hmk, rfl, hpm, hb2⟩ := hrel
        obtain ⟨c2, f2⟩ := hb2.rules
        have hsz2 := hb2.size
        simp only [World.size_alloc] at hsz2
        by_cases hlm : m < k
        · have hlm' : m < xs.length := by omega
          obtain ⟨b, off, he, hbl, hx⟩ := HC.out m hlm'
          cases he
          have y0 := hx 0 _ (by omega) rfl
          rw [Nat.add_zero] at y0
          have y1 := hx 1 _ (by omega) rfl
          replace hx := Lib.hid hx
          have d0 : wr.cell? ⟨wo.heap.size, 0, none⟩ = some (.int .i64 xs[k].blk) := by rw [c2 _ _ (by simp)]; simp
          have d1 : wr.cell? ⟨wo.heap.size, 1, none⟩ = some (.int .i64 xs[k].chan) := by rw [c2 _ _ (by simp)]; simp
          have hbl2 : b < wo.heap.size := by omega
          rcases Bool.eq_false_or_eq_true (xs[m].blk == xs[k].blk) with h4 | h4
          · rcases Bool.eq_false_or_eq_true (xs[m].chan == xs[k].chan) with h5 | h5
            · have HA := Lib.hid (allUp_not (p := pF (wrap64 (nb - 1)) xs) hlt (by
                rw [pF_at hlt]
                have : (xs.take k).any (sameF xs[k]) = true := List.any_eq_true.2 ⟨xs[m], List.mem_iff_getElem.2 ⟨m, by simp; omega, by simp⟩, by simp [sameF, h4, h5]⟩
                rw [this]; simp))
              go_wp2_with fail
              go_quiet (fail)
              go_wp2_with fail
              go_ret
              exact ⟨ret_bool (by simp [areFaultsL, faultsOk, HA.out]), (by repeat (first | with_reducible exact New.refl _ | with_reducible assumption | with_reducible refine New.drew ?_ | with_reducible refine New.drewN ?_ _ | with_reducible refine New.alloc ?_ _ | with_reducible refine New.setCell ?_ (by first | (simp; done) | (simp; omega) | omega) _ | with_reducible refine New.trans ?_ (by with_reducible assumption)))⟩
            · have HA := Lib.hid (any_take hlm' hpm.out (by simp [sameF, h5]))
              go_wp2_with fail
              go_quiet (fail)
              go_wp2_with fail
              go_roundw
              case rel => exact ⟨m + 1, by omega, by go_num, HA, (by repeat (first | with_reducible exact New.refl _ | with_reducible assumption | with_reducible refine New.drew ?_ | with_reducible refine New.drewN ?_ _ | with_reducible refine New.alloc ?_ _ | with_reducible refine New.setCell ?_ (by first | (simp; done) | (simp; omega) | omega) _ | with_reducible refine New.trans ?_ (by with_reducible assumption)))⟩
              case measure => simp [intOf]; omega
          · have HA := Lib.hid (any_take hlm' hpm.out (by simp [sameF, h4]))
            go_wp2_with fail
            go_quiet (fail)
            go_wp2_with fail
            go_roundw
            case rel => exact ⟨m + 1, by omega, by go_num, HA, (by repeat (first | with_reducible exact New.refl _ | with_reducible assumption | with_reducible refine New.drew ?_ | with_reducible refine New.drewN ?_ _ | with_reducible refine New.alloc ?_ _ | with_reducible refine New.setCell ?_ (by first | (simp; done) | (simp; omega) | omega) _ | with_reducible refine New.trans ?_ (by with_reducible assumption)))⟩
            case measure => simp [intOf]; omega
        · obtain rfl : m = k := by omega
          have HA := Lib.hid (allUp_next hpre.out (by rw [pF_at hlt, hpm.out]; simp [okF, h1, h2, h3]))
          have hb3 := hb
          go_wp2_with fail
          go_roundw
          case rel => exact ⟨m + 1, by omega, by go_num, HA, (hb.alloc _).trans hb2⟩
          case measure => simp [intOf]; omega
    · obtain rfl : k = xs.length := by omega
      have HP := hpre.out
      rcases Bool.eq_false_or_eq_true (inB nb 2 8) with h1 | h1; rotate_left
      · go_wp2_with (go_at_call 102; refine (l11Number_any _ _).mono ?_; rintro e w' ⟨rfl, rfl⟩)
        go_ret
        exact ⟨ret_bool (by rw [areFaultsL, faultsOk, HP, h1]; simp; try omega), (by repeat (first | with_reducible exact New.refl _ | with_reducible assumption | with_reducible refine New.drew ?_ | with_reducible refine New.drewN ?_ _ | with_reducible refine New.alloc ?_ _ | with_reducible refine New.setCell ?_ (by first | (simp; done) | (simp; omega) | omega) _ | with_reducible refine New.trans ?_ (by with_reducible assumption)))⟩
      go_wp2_with (go_at_call 102; refine (l11Number_any _ _).mono ?_; rintro e w' ⟨rfl, rfl⟩)
      go_ret
      exact ⟨ret_bool (by rw [areFaultsL, faultsOk, HP, h1]; simp; try omega), (by repeat (first | with_reducible exact New.refl _ | with_reducible assumption | with_reducible refine New.drew ?_ | with_reducible refine New.drewN ?_ _ | with_reducible refine New.alloc ?_ _ | with_reducible refine New.setCell ?_ (by first | (simp; done) | (simp; omega) | omega) _ | with_reducible refine New.trans ?_ (by with_reducible assumption)))⟩
end Go.Proofs.Ytinlichcbjpeaaa
