/- Contracts: faults that are tolerated. -/
import Derived.Test.YtinlichcbjpeaaaProg
import Derived.Test.YtinlichcbjpeaaaFunc
import Derived.Test.YtinlichcbjpeaaaFaults
namespace Go.Proofs.Ytinlichcbjpeaaa
open Go Go.Proofs Go.RowKit
set_option linter.unusedVariables false
set_option linter.unusedSimpArgs false
set_option maxRecDepth 100000
def clash (x o : ESensorFault) : Bool := (o.blk == x.blk) && (o.val == 0) && (x.val == 0)
def pT (xs : List ESensorFault) (i : Nat) : Bool := match xs[i]? with | some x => !((xs.take i).any (clash x)) | none => true
theorem pT_at {xs : List ESensorFault} {k : Nat} (hk : k < xs.length) : pT xs k = !((xs.take k).any (clash xs[k])) := by simp [pT, hk]
def stuckL (xs : List ESensorFault) : List Int := (xs.filter fun x => x.val == 0).map (·.blk)
theorem stuck_any (xs : List ESensorFault) (x : ESensorFault) (h : (x.val == 0) = true) : ((stuckL xs).any fun y => x.blk == y) = xs.any (clash x) := by
  unfold stuckL
  rw [List.any_map, List.any_filter]
  congr 1
  funext o
  simp only [clash, h, Function.comp, Bool.and_true]
  rw [Bool.and_comm, show (x.blk == o.blk) = (o.blk == x.blk) from Bool.eq_iff_iff.2 ⟨fun h => by simp_all, fun h => by simp_all⟩]
theorem clash_no (xs : List ESensorFault) (x : ESensorFault) (h : (x.val == 0) = false) : xs.any (clash x) = false := by
  rw [List.any_eq_false]; intro o _; simp [clash, h]
theorem stuck_in {xs : List ESensorFault} {k : Nat} (hk : k < xs.length) (h : (xs[k].val == 0) = true) : stuckL (xs.take (k + 1)) = stuckL (xs.take k) ++ [xs[k].blk] := by
  unfold stuckL
  rw [List.take_succ_eq_append_getElem hk, List.filter_append, List.map_append]; simp [h]
theorem stuck_out {xs : List ESensorFault} {k : Nat} (hk : k < xs.length) (h : (xs[k].val == 0) = false) : stuckL (xs.take (k + 1)) = stuckL (xs.take k) := by
  unfold stuckL
  rw [List.take_succ_eq_append_getElem hk, List.filter_append, List.map_append]; simp [h]
theorem stuck_le (xs : List ESensorFault) (k : Nat) : (stuckL (xs.take k)).length ≤ k := by
  unfold stuckL
  rw [List.length_map]
  exact Nat.le_trans (List.length_filter_le _ _) (by simp; omega)
theorem infoI64 : (Try.prog.info? 2).map (fun i => (i.zero, i.size, i.bytes)) = some (some (.int .i64 0), 1, 8) := by kernel_rfl
set_option maxHeartbeats 800000 in
theorem areToleratedIn_any (v : Value) (xs : List ESensorFault) (w : World) (hv : Rd w v xs.length (xs.flatMap encSensorFault)) (hn : xs.length ≤ 1048576) :
    Calls Try.prog 103 #[v] w fun e w' => e = .returned (.bool (allUp (pT xs) xs.length)) ∧ New w w' := by
  obtain ⟨a, cap, rfl, hm, HC⟩ := Rd.flat encSensorFault_len (by omega) hv
  clear hv
  obtain ⟨i0, hi, hz0, hz1, hz2⟩ := info_parts infoI64
  go_enter Try.func103, Try.ntmps103
  go_wp2_with fail
  go_loopw [3, 8] (fun s i wr => ∃ k : Nat, k ≤ xs.length ∧ i = .int .i64 k ∧ wr.ownsRow w.heap.size 2 1 s (stuckL (xs.take k)).length ((stuckL (xs.take k)).map (Value.int .i64)) ∧ Hid (allUp (pT xs) k = true) ∧ New w wr) (fun _ i _ => xs.length - (intOf i).toNat)
  case atStart => exact ⟨0, Nat.zero_le _, rfl, World.ownsRow_nil _ _ _ _, rfl, New.refl _⟩
  case round =>
    obtain ⟨k, hk, rfl, hown, hpre, hb⟩ := hrel
    obtain ⟨c, f⟩ := hb.rules
    have hsz := hb.size
    by_cases hlt : k < xs.length
    · obtain ⟨b, off, rfl, hbl, hx⟩ := HC.out k hlt
      have x0 := hx 0 _ (by omega) rfl
      rw [Nat.add_zero] at x0
      have x1 := hx 1 _ (by omega) rfl
      have x2 := hx 2 _ (by omega) rfl
      replace hx := Lib.hid hx
      have hsl := stuck_le xs k
      rcases Bool.eq_false_or_eq_true (xs[k].val == 0) with h1 | h1
      · have HE := Lib.hid (stuck_any (xs.take k) xs[k] h1)
        have HS := Lib.hid (stuck_in hlt h1)
        go_wp2_with fail
        refine (containsI_any xs[k].blk _ (stuckL (xs.take k)) _ ((own_rd hown).new (by repeat (first | with_reducible exact New.refl _ | with_reducible assumption | with_reducible refine New.drew ?_ | with_reducible refine New.drewN ?_ _ | with_reducible refine New.alloc ?_ _ | with_reducible refine New.setCell ?_ (by first | (simp; done) | (simp; omega) | omega) _ | with_reducible refine New.trans ?_ (by with_reducible assumption))))).mono ?_
        rintro e w2 ⟨rfl, rfl⟩
        rcases Bool.eq_false_or_eq_true ((stuckL (xs.take k)).any fun y => xs[k].blk == y) with h2 | h2
        · have HA := Lib.hid (allUp_not (p := pT xs) hlt (by rw [pT_at hlt, ← HE.out, h2]; rfl))
          go_wp2_with fail
          go_ret
          exact ⟨ret_bool HA.out.symm, (by repeat (first | with_reducible exact New.refl _ | with_reducible assumption | with_reducible refine New.drew ?_ | with_reducible refine New.drewN ?_ _ | with_reducible refine New.alloc ?_ _ | with_reducible refine New.setCell ?_ (by first | (simp; done) | (simp; omega) | omega) _ | with_reducible refine New.trans ?_ (by with_reducible assumption)))⟩
        · have HA := Lib.hid (allUp_next hpre.out (by rw [pT_at hlt, ← HE.out, h2]; rfl))
          go_wp2_with (at_builtin; refine wpList_append_own _ rfl _ _ 24 rfl (w.heap.size) 2 i0 (.int .i64 0) 1 8 Try.underlying24 hi hz0 hz1 hz2 rfl (by decide) _ _ _ rfl ((hown.alloc _).alloc _) ⟨wr.heap.size + 1, 0, none⟩ 1 1 [.int .i64 (xs[k].blk)] rfl rfl (by intro j u hj; match j, hj with | 0, hj => simp at hj; subst hj; first | (simp [Addr.add]; done) | exact alloc_one rfl) (by intro u hu; simp at hu; subst hu; rfl) (by unfold maxLen; omega) (by omega) (by first | (simp; done) | (simp; omega) | omega) ?_; intro va wa howna hgra _)
          have ba : New w wa := New.grown ((hb.alloc _).alloc _) hgra (fun q hq => (own_block_lt hown q hq).1)
          go_roundw
          case rel => exact ⟨k + 1, by omega, by go_num, (by rw [HS.out]; simpa using howna), HA, ba⟩
          case measure => simp [intOf]; omega
      · have HA := Lib.hid (allUp_next hpre.out (by rw [pT_at hlt, clash_no _ _ h1]; rfl))
        have HS := Lib.hid (stuck_out hlt h1)
        go_wp2_with fail
        go_roundw
        case rel => exact ⟨k + 1, by omega, by go_num, (by rw [HS.out]; exact hown.alloc _), HA, (by repeat (first | with_reducible exact New.refl _ | with_reducible assumption | with_reducible refine New.drew ?_ | with_reducible refine New.drewN ?_ _ | with_reducible refine New.alloc ?_ _ | with_reducible refine New.setCell ?_ (by first | (simp; done) | (simp; omega) | omega) _ | with_reducible refine New.trans ?_ (by with_reducible assumption)))⟩
        case measure => simp [intOf]; omega
    · obtain rfl : k = xs.length := by omega
      go_wp2_with fail
      go_ret
      exact ⟨ret_bool hpre.out.symm, (by repeat (first | with_reducible exact New.refl _ | with_reducible assumption | with_reducible refine New.drew ?_ | with_reducible refine New.drewN ?_ _ | with_reducible refine New.alloc ?_ _ | with_reducible refine New.setCell ?_ (by first | (simp; done) | (simp; omega) | omega) _ | with_reducible refine New.trans ?_ (by with_reducible assumption)))⟩
def areTolL (nb : Int) (xs : List ESensorFault) : Bool := areFaultsL nb xs && allUp (pT xs) xs.length
theorem iAreTolerated_any (nb : Int) (v : Value) (xs : List ESensorFault) (w : World) (hv : Rd w v xs.length (xs.flatMap encSensorFault)) (hn : xs.length ≤ 1048576) :
    Calls Try.prog 55 #[.int .i64 nb, v] w fun e w' => e = .returned (.bool (areTolL nb xs)) ∧ New w w' := by
  rcases Bool.eq_false_or_eq_true (areFaultsL nb xs) with h1 | h1; rotate_left
  · go_enter Try.func55, Try.ntmps55
    go_wp2_with fail
    refine (iAreFaults_any _ _ xs _ hv).mono ?_; rintro e w1 ⟨rfl, b1⟩
    try with_reducible replace b1 := New.undrawN b1
    try with_reducible replace b1 := New.undraw b1
    obtain ⟨c1, f1⟩ := b1.rules
    have z1 := b1.size
    try simp only [World.size_alloc, World.size_drew, World.heap_drewN, World.size_setCell] at z1
    go_wp2_with fail
    go_ret
    exact ⟨ret_bool (by simp [areTolL, h1]), (by repeat (first | with_reducible exact New.refl _ | with_reducible assumption | with_reducible refine New.drew ?_ | with_reducible refine New.drewN ?_ _ | with_reducible refine New.alloc ?_ _ | with_reducible refine New.setCell ?_ (by first | (simp; done) | (simp; omega) | omega) _ | with_reducible refine New.trans ?_ (by with_reducible assumption)))⟩
  go_enter Try.func55, Try.ntmps55
  go_wp2_with fail
  refine (iAreFaults_any _ _ xs _ hv).mono ?_; rintro e w1 ⟨rfl, b1⟩
  try with_reducible replace b1 := New.undrawN b1
  try with_reducible replace b1 := New.undraw b1
  obtain ⟨c1, f1⟩ := b1.rules
  have z1 := b1.size
  try simp only [World.size_alloc, World.size_drew, World.heap_drewN, World.size_setCell] at z1
  go_wp2_with fail
  refine (areToleratedIn_any _ xs _ (hv.new b1) hn).mono ?_; rintro e w2 ⟨rfl, b2⟩
  try with_reducible replace b2 := New.undrawN b2
  try with_reducible replace b2 := New.undraw b2
  obtain ⟨c2, f2⟩ := b2.rules
  have z2 := b2.size
  try simp only [World.size_alloc, World.size_drew, World.heap_drewN, World.size_setCell] at z2
  go_wp2_with fail
  go_ret
  exact ⟨ret_bool (by simp [areTolL, h1]), (by repeat (first | with_reducible exact New.refl _ | with_reducible assumption | with_reducible refine New.drew ?_ | with_reducible refine New.drewN ?_ _ | with_reducible refine New.alloc ?_ _ | with_reducible refine New.setCell ?_ (by first | (simp; done) | (simp; omega) | omega) _ | with_reducible refine New.trans ?_ (by with_reducible assumption)))⟩
set_option maxHeartbeats 800000 in
theorem sAreTolerated_any (nb : Int) (v : Value) (xs : List ESensorFault) (w : World) (hv : Rd w v xs.length (xs.flatMap encSensorFault)) :
    Calls Try.prog 56 #[.int .i64 nb, v] w fun e w' => e = .returned (.bool (areTolL nb xs)) ∧ New w w' := by
  have HV := Lib.hid hv
  obtain ⟨a, cap, rfl, hm, HC⟩ := Rd.flat encSensorFault_len (by omega) hv
  clear hv
  go_enter Try.func56, Try.ntmps56
  go_wp2_with fail
  go_loopw [5] (fun i wr => ∃ k : Nat, k ≤ xs.length ∧ i = .int .i64 k ∧ Hid (allUp (pT xs) k = true) ∧ ∃ n, wr = w.drewN n) (fun i _ => xs.length - (intOf i).toNat)
  case atStart => exact ⟨0, Nat.zero_le _, rfl, rfl, 0, rfl⟩
  case round =>
    obtain ⟨k, hk, rfl, hpre, n, rfl⟩ := hrel
    by_cases hlt : k < xs.length
    · obtain ⟨b, off, rfl, hbl, hx⟩ := HC.out k hlt
      have x0 := hx 0 _ (by omega) rfl
      rw [Nat.add_zero] at x0
      have x2 := hx 2 _ (by omega) rfl
      replace hx := Lib.hid hx
      go_wp2_with fail
      go_loopw [6] (fun i ws => ∃ m : Nat, m ≤ k ∧ i = .int .i64 m ∧ Hid ((xs.take m).any (clash xs[k]) = false) ∧ ∃ n, ws = w.drewN n) (fun i _ => k - (intOf i).toNat)
      case atStart => exact ⟨0, Nat.zero_le _, rfl, rfl, _, rfl⟩
      case round =>
        obtain ⟨m, hmk, rfl, hpm, n2, rfl⟩ := hrel
        by_cases hlm : m < k
        · have hlm' : m < xs.length := by omega
          obtain ⟨b, off, he, hbl, hx⟩ := HC.out m hlm'
          cases he
          have y0 := hx 0 _ (by omega) rfl
          rw [Nat.add_zero] at y0
          have y2 := hx 2 _ (by omega) rfl
          replace hx := Lib.hid hx
          rcases Bool.eq_false_or_eq_true ((xs[m].blk == xs[k].blk)) with h4 | h4; rotate_left
          · have HA := Lib.hid (any_take hlm' hpm.out (by simp [clash, h4]))
            go_wp2_with fail
            go_quiet (fail)
            go_wp2_with fail
            go_roundw
            case rel => exact ⟨m + 1, by omega, by go_num, HA, by first | exact ⟨_, rfl⟩ | exact ⟨_, by rw [World.drewN_drewN]⟩⟩
            case measure => simp [intOf]; omega
          rcases Bool.eq_false_or_eq_true ((xs[m].val == 0)) with h5 | h5; rotate_left
          · have HA := Lib.hid (any_take hlm' hpm.out (by simp [clash, h5]))
            go_wp2_with fail
            go_quiet (fail)
            go_wp2_with fail
            go_roundw
            case rel => exact ⟨m + 1, by omega, by go_num, HA, by first | exact ⟨_, rfl⟩ | exact ⟨_, by rw [World.drewN_drewN]⟩⟩
            case measure => simp [intOf]; omega
          rcases Bool.eq_false_or_eq_true ((xs[k].val == 0)) with h6 | h6; rotate_left
          · have HA := Lib.hid (any_take hlm' hpm.out (by simp [clash, h6]))
            go_wp2_with fail
            go_quiet (fail)
            go_wp2_with fail
            go_roundw
            case rel => exact ⟨m + 1, by omega, by go_num, HA, by first | exact ⟨_, rfl⟩ | exact ⟨_, by rw [World.drewN_drewN]⟩⟩
            case measure => simp [intOf]; omega
          have HA := Lib.hid (allUp_not (p := pT xs) hlt (by
            rw [pT_at hlt]
            have : (xs.take k).any (clash xs[k]) = true := List.any_eq_true.2 ⟨xs[m], List.mem_iff_getElem.2 ⟨m, by simp; omega, by simp⟩, by simp [clash, h4, h5, h6]⟩
            rw [this]; simp))
          go_wp2_with fail
          go_quiet (fail)
          go_wp2_with fail
          go_ret
          exact ⟨ret_bool (by simp [areTolL, HA.out]), (by repeat (first | with_reducible exact New.refl _ | with_reducible assumption | with_reducible refine New.drew ?_ | with_reducible refine New.drewN ?_ _ | with_reducible refine New.alloc ?_ _ | with_reducible refine New.setCell ?_ (by first | (simp; done) | (simp; omega) | omega) _ | with_reducible refine New.trans ?_ (by with_reducible assumption)))⟩
        · obtain rfl : m = k := by omega
          have HA := Lib.hid (allUp_next hpre.out (by rw [pT_at hlt, hpm.out]; rfl))
          go_wp2_with fail
          go_roundw
          case rel => exact ⟨m + 1, by omega, by go_num, HA, _, rfl⟩
          case measure => simp [intOf]; omega
    · obtain rfl : k = xs.length := by omega
      go_wp2_with fail
      refine (sAreFaults_any nb _ xs _ (HV.out.new (by repeat (first | with_reducible exact New.refl _ | with_reducible assumption | with_reducible refine New.drew ?_ | with_reducible refine New.drewN ?_ _ | with_reducible refine New.alloc ?_ _ | with_reducible refine New.setCell ?_ (by first | (simp; done) | (simp; omega) | omega) _ | with_reducible refine New.trans ?_ (by with_reducible assumption))))).mono ?_
      rintro e w2 ⟨rfl, b2⟩
      replace b2 := New.undrawN b2
      go_wp2_with fail
      go_ret
      exact ⟨ret_bool (by rw [areTolL, hpre.out]; simp), (by repeat (first | with_reducible exact New.refl _ | with_reducible assumption | with_reducible refine New.drew ?_ | with_reducible refine New.drewN ?_ _ | with_reducible refine New.alloc ?_ _ | with_reducible refine New.setCell ?_ (by first | (simp; done) | (simp; omega) | omega) _ | with_reducible refine New.trans ?_ (by with_reducible assumption)))⟩
end Go.Proofs.Ytinlichcbjpeaaa
