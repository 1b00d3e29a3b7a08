/- Contracts: the rules of programs: small functions. -/
import Derived.Test.YteielmihlfakgaaDoorProg
import Derived.Test.YteielmihlfakgaaDoorVC
import Derived.Test.YteielmihlfakgaaDoorUF
namespace Go.Proofs.YteielmihlfakgaaDoor
open Go Go.Proofs Go.RowKit
set_option linter.unusedVariables false
set_option linter.unusedSimpArgs false
set_option maxRecDepth 100000
set_option maxHeartbeats 400000 in
theorem sIndex14_any (x : ByteArray) (v : Value) (xs : List ByteArray) (w : World) (hv : RdS w v xs) :
    Calls Tryd.prog 107 #[v, .string x] w fun e w' => e = .returned (.int .i64 (idx (fun y => x.toList == y.toList) xs)) ∧ w = w' := by
  obtain ⟨a, cap, rfl, hm, HC⟩ := hv.open
  clear hv
  go_enter Tryd.func107, Tryd.ntmps107
  go_wp2_with fail
  go_loop [5] (fun i => ∃ k : Nat, k ≤ xs.length ∧ i = .int .i64 k ∧ Hid ((xs.take k).findIdx? (fun y => x.toList == y.toList) = none)) (fun i => xs.length - (intOf i).toNat)
  case atStart => exact ⟨0, Nat.zero_le _, rfl, rfl⟩
  case round =>
    obtain ⟨k, hk, rfl, hpre⟩ := hrel
    by_cases hlt : k < xs.length
    · obtain ⟨b, off, rfl, hbl, hx⟩ := HC.out w (New.refl w) k hlt
      have HT := Lib.hid (take_find hlt hpre.out)
      rcases Bool.eq_false_or_eq_true (xs[k].toList == x.toList) with h1 | h1
      · have HA := Lib.hid (idx_some (HT.out.1 (by rwa [Bool.beq_comm])))
        go_wp2_with fail
        go_ret
        exact ⟨ret_int HA.out.symm, rfl⟩
      · have HA := Lib.hid (HT.out.2 (by rwa [Bool.beq_comm]))
        go_wp2_with fail
        go_round
        case rel => exact ⟨k + 1, by omega, by go_num, HA⟩
        case measure => simp [intOf]; omega
    · obtain rfl : k = xs.length := by omega
      have HA := Lib.hid (idx_none (p := fun y => x.toList == y.toList) (xs := xs) (by have := hpre.out; rwa [List.take_length] at this))
      go_wp2_with fail
      go_ret
      exact ⟨ret_int HA.out.symm, rfl⟩
theorem idx_mem (x : ByteArray) (xs : List ByteArray) : decide (0 ≤ idx (fun y => x.toList == y.toList) xs) = memS xs x := idx_any _ _
theorem idx_memN (x : ByteArray) (xs : List ByteArray) : decide (idx (fun y => x.toList == y.toList) xs < 0) = !memS xs x := by
  rw [← idx_mem, ← decide_not]; congr 1; rw [eq_iff_iff]; omega
theorem sRead_any (p : ProgD) (iv vv ov lv : Value) (x : ByteArray) (w : World) (hp : RdP w p iv vv ov lv) :
    Calls Tryd.prog 106 #[valP p iv vv ov lv, .string x] w fun e w' => e = .returned (.bool (readB p x)) ∧ New w w' := by
  have HP := Lib.hid hp; clear hp
  have HI := Lib.hid (idx_mem x p.inputs)
  have HV := Lib.hid (idx_mem x p.vars)
  rcases Bool.eq_false_or_eq_true (decide (0 ≤ idx (fun y => x.toList == y.toList) p.inputs)) with h1 | h1
  · go_enter Tryd.func106, Tryd.ntmps106
    go_wp2_with fail
    refine (sIndex14_any x _ p.inputs _ (Rd.new HP.out.ins (by repeat (first | with_reducible exact New.refl _ | with_reducible assumption | with_reducible refine New.drew ?_ | with_reducible refine New.drewN ?_ _ | with_reducible refine New.alloc ?_ _ | with_reducible refine New.setCell ?_ (by first | (simp; done) | (simp; omega) | omega) _ | with_reducible refine New.trans ?_ (by with_reducible assumption))))).mono ?_; rintro e w1 ⟨rfl, rfl⟩
    go_wp2_with fail
    go_ret
    exact ⟨ret_bool (by rw [readB, ← HI.out, h1]; rfl), (by repeat (first | with_reducible exact New.refl _ | with_reducible assumption | with_reducible refine New.drew ?_ | with_reducible refine New.drewN ?_ _ | with_reducible refine New.alloc ?_ _ | with_reducible refine New.setCell ?_ (by first | (simp; done) | (simp; omega) | omega) _ | with_reducible refine New.trans ?_ (by with_reducible assumption)))⟩
  · go_enter Tryd.func106, Tryd.ntmps106
    go_wp2_with fail
    refine (sIndex14_any x _ p.inputs _ (Rd.new HP.out.ins (by repeat (first | with_reducible exact New.refl _ | with_reducible assumption | with_reducible refine New.drew ?_ | with_reducible refine New.drewN ?_ _ | with_reducible refine New.alloc ?_ _ | with_reducible refine New.setCell ?_ (by first | (simp; done) | (simp; omega) | omega) _ | with_reducible refine New.trans ?_ (by with_reducible assumption))))).mono ?_; rintro e w1 ⟨rfl, rfl⟩
    go_wp2_with fail
    refine (sIndex14_any x _ p.vars _ (Rd.new HP.out.vars (by repeat (first | with_reducible exact New.refl _ | with_reducible assumption | with_reducible refine New.drew ?_ | with_reducible refine New.drewN ?_ _ | with_reducible refine New.alloc ?_ _ | with_reducible refine New.setCell ?_ (by first | (simp; done) | (simp; omega) | omega) _ | with_reducible refine New.trans ?_ (by with_reducible assumption))))).mono ?_; rintro e w1 ⟨rfl, rfl⟩
    go_wp2_with fail
    go_ret
    exact ⟨ret_bool (by rw [readB, ← HI.out, h1, HV.out]; rfl), (by repeat (first | with_reducible exact New.refl _ | with_reducible assumption | with_reducible refine New.drew ?_ | with_reducible refine New.drewN ?_ _ | with_reducible refine New.alloc ?_ _ | with_reducible refine New.setCell ?_ (by first | (simp; done) | (simp; omega) | omega) _ | with_reducible refine New.trans ?_ (by with_reducible assumption)))⟩
set_option maxHeartbeats 800000 in
theorem sTwice_any (v : Value) (xs : List ByteArray) (w : World) (hv : RdS w v xs) :
    Calls Tryd.prog 105 #[v] w fun e w' => e = .returned (.bool (twB xs)) ∧ New w w' := by
  have HV := Lib.hid hv
  obtain ⟨a, cap, rfl, hm, HC⟩ := hv.open
  have hcap := hv.cap
  clear hv
  go_enter Tryd.func105, Tryd.ntmps105
  go_wp2_with fail
  go_loopw [3] (fun i wr => ∃ k : Nat, k ≤ xs.length ∧ i = .int .i64 k ∧ Hid (twUp xs k = false) ∧ New w wr) (fun i _ => xs.length - (intOf i).toNat)
  case atStart => exact ⟨0, Nat.zero_le _, rfl, rfl, New.refl _⟩
  case round =>
    obtain ⟨k, hk, rfl, hpre, hb⟩ := hrel
    by_cases hlt : k < xs.length
    · obtain ⟨b, off, rfl, hbl, hx⟩ := HC.out wr hb k hlt
      have HT := Lib.hid (twUp_next hlt hpre.out)
      have hbw : b < wr.heap.size := by have := hb.size; omega
      have hq := fun (n : NewOf wr) b o => NewOf.cell n b o
      have HM := Lib.hid (idx_mem xs[k] (xs.take k))
      have HR := Lib.hid (fun wr' (n : New wr wr') => show RdS wr' (.slice (some ⟨b, off, none⟩) k cap) (xs.take k) by
        have := ((HV.out.new hb).new n).take 1 (k := k) (by omega)
        rw [Nat.mul_one] at this
        rw [RdS, List.map_take, show (xs.take k).length = k by simp; omega]; exact this)
      rcases Bool.eq_false_or_eq_true (decide (0 ≤ idx (fun y => xs[k].toList == y.toList) (xs.take k))) with h1 | h1
      · have HA := Lib.hid (HT.out.1 (by rw [← HM.out]; exact h1))
        go_wp2_with fail
        refine wp_region_new (by kernel_rfl) (by kernel_rfl) ?_
        repeat (first | go_big_quiet_skip | go_big_quiet_step ((first | exact newq_eq (sIndex14_any _ _ (xs.take k) _ (HR.out _ (NewOf.property _))))) | quiet_step ((first | exact newq_eq (sIndex14_any _ _ (xs.take k) _ (HR.out _ (NewOf.property _))))))
        refine wpQuiet_nil ?_
        rintro ⟨w3, b3⟩
        dsimp only
        try with_reducible replace b3 := New.undrawN b3
        try with_reducible replace b3 := New.undraw b3
        obtain ⟨c3, f3⟩ := b3.rules
        have z3 := b3.size
        try simp only [World.size_alloc, World.size_drew, World.heap_drewN, World.size_setCell] at z3
        go_wp2_with fail
        go_ret
        exact ⟨ret_bool HA.out.symm, hb.trans b3⟩
      · have HA := Lib.hid (HT.out.2 (by rw [← HM.out]; exact h1))
        go_wp2_with fail
        refine wp_region_new (by kernel_rfl) (by kernel_rfl) ?_
        repeat (first | go_big_quiet_skip | go_big_quiet_step ((first | exact newq_eq (sIndex14_any _ _ (xs.take k) _ (HR.out _ (NewOf.property _))))) | quiet_step ((first | exact newq_eq (sIndex14_any _ _ (xs.take k) _ (HR.out _ (NewOf.property _))))))
        refine wpQuiet_nil ?_
        rintro ⟨w3, b3⟩
        dsimp only
        try with_reducible replace b3 := New.undrawN b3
        try with_reducible replace b3 := New.undraw b3
        obtain ⟨c3, f3⟩ := b3.rules
        have z3 := b3.size
        try simp only [World.size_alloc, World.size_drew, World.heap_drewN, World.size_setCell] at z3
        go_wp2_with fail
        go_roundw
        case rel => exact ⟨k + 1, by omega, by go_num, HA, hb.trans b3⟩
        case measure => simp [intOf]; omega
    · obtain rfl : k = xs.length := by omega
      have HA := Lib.hid (show twB xs = false from hpre.out)
      go_wp2_with fail
      go_ret
      exact ⟨ret_bool HA.out.symm, hb⟩
set_option maxHeartbeats 800000 in
theorem iTwice_any (v : Value) (xs : List ByteArray) (w : World) (hv : RdS w v xs) :
    Calls Tryd.prog 98 #[v] w fun e w' => e = .returned (.bool (twB xs)) ∧ New w w' := by
  have HV := Lib.hid hv
  obtain ⟨a, cap, rfl, hm, HC⟩ := hv.open
  have hcap := hv.cap
  clear hv
  go_enter Tryd.func98, Tryd.ntmps98
  go_wp2_with fail
  go_loopw [7] (fun i wr => ∃ k : Nat, k ≤ xs.length ∧ i = .int .i64 k ∧ Hid (twUp xs k = false) ∧ New w wr) (fun i _ => xs.length - (intOf i).toNat)
  case atStart => exact ⟨0, Nat.zero_le _, rfl, rfl, New.refl _⟩
  case round =>
    obtain ⟨k, hk, rfl, hpre, hb⟩ := hrel
    by_cases hlt : k < xs.length
    · obtain ⟨b, off, rfl, hbl, hx⟩ := HC.out wr hb k hlt
      have HT := Lib.hid (twUp_next hlt hpre.out)
      have HR := Lib.hid (fun wr' (n : New wr wr') => show RdS wr' (.slice (some ⟨b, off, none⟩) k cap) (xs.take k) by
        have := ((HV.out.new hb).new n).take 1 (k := k) (by omega)
        rw [Nat.mul_one] at this
        rw [RdS, List.map_take, show (xs.take k).length = k by simp; omega]; exact this)
      rcases Bool.eq_false_or_eq_true ((xs.take k).any fun y => xs[k].toList == y.toList) with h1 | h1
      · have HA := Lib.hid (HT.out.1 h1)
        go_wp2_with fail
        refine (containsS_any xs[k] _ (xs.take k) _ (HR.out _ (by repeat (first | with_reducible exact New.refl _ | with_reducible assumption | with_reducible refine New.drew ?_ | with_reducible refine New.drewN ?_ _ | with_reducible refine New.alloc ?_ _ | with_reducible refine New.setCell ?_ (by first | (simp; done) | (simp; omega) | omega) _ | with_reducible refine New.trans ?_ (by with_reducible assumption))))).mono ?_; rintro e w1 ⟨rfl, rfl⟩
        go_wp2_with fail
        go_ret
        exact ⟨ret_bool HA.out.symm, (by repeat (first | with_reducible exact New.refl _ | with_reducible assumption | with_reducible refine New.drew ?_ | with_reducible refine New.drewN ?_ _ | with_reducible refine New.alloc ?_ _ | with_reducible refine New.setCell ?_ (by first | (simp; done) | (simp; omega) | omega) _ | with_reducible refine New.trans ?_ (by with_reducible assumption)))⟩
      · have HA := Lib.hid (HT.out.2 h1)
        go_wp2_with fail
        refine (containsS_any xs[k] _ (xs.take k) _ (HR.out _ (by repeat (first | with_reducible exact New.refl _ | with_reducible assumption | with_reducible refine New.drew ?_ | with_reducible refine New.drewN ?_ _ | with_reducible refine New.alloc ?_ _ | with_reducible refine New.setCell ?_ (by first | (simp; done) | (simp; omega) | omega) _ | with_reducible refine New.trans ?_ (by with_reducible assumption))))).mono ?_; rintro e w1 ⟨rfl, rfl⟩
        go_wp2_with fail
        go_roundw
        case rel => exact ⟨k + 1, by omega, by go_num, HA, (by repeat (first | with_reducible exact New.refl _ | with_reducible assumption | with_reducible refine New.drew ?_ | with_reducible refine New.drewN ?_ _ | with_reducible refine New.alloc ?_ _ | with_reducible refine New.setCell ?_ (by first | (simp; done) | (simp; omega) | omega) _ | with_reducible refine New.trans ?_ (by with_reducible assumption)))⟩
        case measure => simp [intOf]; omega
    · obtain rfl : k = xs.length := by omega
      have HA := Lib.hid (show twB xs = false from hpre.out)
      go_wp2_with fail
      go_ret
      exact ⟨ret_bool HA.out.symm, hb⟩
end Go.Proofs.YteielmihlfakgaaDoor
