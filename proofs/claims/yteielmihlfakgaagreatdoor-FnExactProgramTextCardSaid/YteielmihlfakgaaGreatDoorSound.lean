/- Contracts: the rules of programs: small functions. -/
import Derived.Test.YteielmihlfakgaaGreatDoorProg
import Derived.Test.YteielmihlfakgaaGreatDoorVC
import Derived.Test.YteielmihlfakgaaGreatDoorUF
namespace Go.Proofs.YteielmihlfakgaaGreatDoor
open Go Go.Proofs Go.RowKit
set_option linter.unusedVariables false
set_option linter.unusedSimpArgs false
set_option maxRecDepth 100000
set_option maxHeartbeats 400000 in
theorem sIndex14_any (x : ByteArray) (v : Value) (xs : List ByteArray) (w : World) (hv : RdS w v xs) :
    Calls Tryz.prog 108 #[v, .string x] w fun e w' => e = .returned (.int .i64 (idx (fun y => x.toList == y.toList) xs)) ∧ w = w' := by
  obtain ⟨a, cap, rfl, hm, HC⟩ := hv.open
  clear hv
  go_enter Tryz.func108, Tryz.ntmps108
  go_wp2_with fail
  go_loop [5] (fun i => ∃ k : Nat, k ≤ xs.length ∧ i = .int .i64 k ∧ Hid ((xs.take k).findIdx? (fun y => x.toList == y.toList) = none)) (fun i => xs.length - (intOf i).toNat)
  case atStart => exact ⟨0, Nat.zero_le _, rfl, rfl⟩
  case round =>
    obtain ⟨k, hk, rfl, hpre⟩ := hrel
    by_cases hlt : k < xs.length
    · obtain ⟨b, off, rfl, hbl, hx⟩ := HC.out w (New.refl w) k hlt
      have HT := Lib.hid (take_find hlt hpre.out)
      rcases Bool.eq_false_or_eq_true (xs[k].toList == x.toList) with h1 | h1
      · have HA := Lib.hid (idx_some (HT.out.1 (by rwa [Bool.beq_comm])))
        go_wp2_with fail
        go_ret
        exact ⟨ret_int HA.out.symm, rfl⟩
      · have HA := Lib.hid (HT.out.2 (by rwa [Bool.beq_comm]))
        go_wp2_with fail
        go_round
        case rel => exact ⟨k + 1, by omega, by go_num, HA⟩
        case measure => simp [intOf]; omega
    · obtain rfl : k = xs.length := by omega
      have HA := Lib.hid (idx_none (p := fun y => x.toList == y.toList) (xs := xs) (by have := hpre.out; rwa [List.take_length] at this))
      go_wp2_with fail
      go_ret
      exact ⟨ret_int HA.out.symm, rfl⟩
theorem idx_mem (x : ByteArray) (xs : List ByteArray) : decide (0 ≤ idx (fun y => x.toList == y.toList) xs) = memS xs x := idx_any _ _
theorem idx_memN (x : ByteArray) (xs : List ByteArray) : decide (idx (fun y => x.toList == y.toList) xs < 0) = !memS xs x := by
  rw [← idx_mem, ← decide_not]; congr 1; rw [eq_iff_iff]; omega
end Go.Proofs.YteielmihlfakgaaGreatDoor
