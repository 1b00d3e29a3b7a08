/- Contracts: the library's functions on slices of strings. -/
import Derived.Test.YteielmihlfakgaaDoorProg
import Derived.Test.YteielmihlfakgaaDoorFunc
namespace Go.Proofs.YteielmihlfakgaaDoor
open Go Go.Proofs Go.RowKit
set_option linter.unusedVariables false
set_option linter.unusedSimpArgs false
set_option maxRecDepth 100000
abbrev RdS (w : World) (v : Value) (xs : List ByteArray) : Prop := Rd w v xs.length (xs.map Value.string)
theorem RdS.open {w : World} {v : Value} {xs : List ByteArray} (h : RdS w v xs) : ∃ (a : Option Addr) (cap : Nat), v = .slice a xs.length cap ∧ xs.length ≤ 9223372036854775807 ∧
    Hid (∀ (w' : World), New w w' → ∀ k (hk : k < xs.length), ∃ b off, a = some ⟨b, off, none⟩ ∧ b < w.heap.size ∧ w'.cell? ⟨b, off + k, none⟩ = some (.string xs[k])) := by
  obtain ⟨a, cap, rfl, hn, h0, hc⟩ := h
  refine ⟨a, cap, rfl, hn, Lib.hid fun w' hb k hk => ?_⟩
  obtain ⟨b, off, ha, hlt, hcell⟩ := hc k (.string xs[k]) (by simp [hk])
  exact ⟨b, off, ha, hlt, (hb.cell hlt).trans hcell⟩
set_option maxHeartbeats 400000 in
theorem indexS_any (x : ByteArray) (v : Value) (xs : List ByteArray) (w : World) (hv : RdS w v xs) :
    Calls Tryd.prog 140 #[v, .string x] w fun e w' => e = .returned (.int .i64 (idx (fun y => x.toList == y.toList) xs)) ∧ w = w' := by
  obtain ⟨a, cap, rfl, hm, HC⟩ := hv.open
  clear hv
  go_enter Tryd.func140, Tryd.ntmps140
  go_wp2_with fail
  go_loop [8] (fun i => ∃ k : Nat, k ≤ xs.length ∧ i = .int .i64 k ∧ Hid ((xs.take k).findIdx? (fun y => x.toList == y.toList) = none)) (fun i => xs.length - (intOf i).toNat)
  case atStart => exact ⟨0, Nat.zero_le _, rfl, rfl⟩
  case round =>
    obtain ⟨k, hk, rfl, hpre⟩ := hrel
    by_cases hlt : k < xs.length
    · obtain ⟨b, off, rfl, hbl, hx⟩ := HC.out w (New.refl w) k hlt
      have HT := Lib.hid (take_find hlt hpre.out)
      rcases Bool.eq_false_or_eq_true (x.toList == xs[k].toList) with h1 | h1
      · have HA := Lib.hid (idx_some (HT.out.1 h1))
        go_wp2_with fail
        go_ret
        exact ⟨ret_int HA.out.symm, rfl⟩
      · have HA := Lib.hid (HT.out.2 h1)
        go_wp2_with fail
        go_round
        case rel => exact ⟨k + 1, by omega, by go_num, HA⟩
        case measure => simp [intOf]; omega
    · obtain rfl : k = xs.length := by omega
      have HA := Lib.hid (idx_none (p := fun y => x.toList == y.toList) (xs := xs) (by have := hpre.out; rwa [List.take_length] at this))
      go_wp2_with fail
      go_ret
      exact ⟨ret_int HA.out.symm, rfl⟩
theorem containsS_any (x : ByteArray) (v : Value) (xs : List ByteArray) (w : World) (hv : RdS w v xs) :
    Calls Tryd.prog 100 #[v, .string x] w fun e w' => e = .returned (.bool (xs.any fun y => x.toList == y.toList)) ∧ w = w' := by
  have HV := Lib.hid hv; clear hv
  have HI := Lib.hid (idx_any (fun y => x.toList == y.toList) xs)
  go_enter Tryd.func100, Tryd.ntmps100
  go_wp2_with fail
  refine (indexS_any x v xs _ HV.out).mono ?_
  rintro e w2 ⟨rfl, rfl⟩
  go_wp2_with fail
  go_ret
  exact ⟨ret_bool HI.out, rfl⟩
end Go.Proofs.YteielmihlfakgaaDoor
