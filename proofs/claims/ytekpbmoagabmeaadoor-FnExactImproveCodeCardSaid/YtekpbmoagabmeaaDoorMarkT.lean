/- Contracts: the laws' marks that are texts. -/
import Derived.Laws.BytesArg
import Derived.Test.YtekpbmoagabmeaaDoorProg
import Derived.Test.YtekpbmoagabmeaaDoorBase
import Derived.Test.YtekpbmoagabmeaaDoorCells
namespace Go.Proofs.YtekpbmoagabmeaaDoor
open Go Go.Proofs Go.RowKit
set_option linter.unusedVariables false
set_option linter.unusedSimpArgs false
set_option maxRecDepth 100000
def digB (j : Nat) : ByteArray := strOfNums [48 + (j : Int) % 10]
theorem digB_size (j : Nat) : (digB j).size = 1 := by rw [digB, strOfNums_size]; rfl
def markGo (j : Nat) (acc : ByteArray) : ByteArray := if h : j = 0 then acc else markGo (j / 10) (digB j ++ acc)
termination_by j
decreasing_by omega
theorem markGo_zero (acc : ByteArray) : markGo 0 acc = acc := by rw [markGo]; simp
theorem markGo_pos {j : Nat} (h : ¬ j = 0) (acc : ByteArray) : markGo j acc = markGo (j / 10) (digB j ++ acc) := by rw [markGo]; simp [h]
def markS (k : Nat) : ByteArray := if k = 0 then ⟨#[109, 48]⟩ else ⟨#[109]⟩ ++ markGo k ⟨#[]⟩
theorem pow_bd {j s k : Nat} (hj : 1 ≤ j) (h : j * 10 ^ s ≤ k) (hk : k ≤ 1000000000000) : s ≤ 12 := by
  rcases Nat.lt_or_ge 12 s with hs | hs
  · have h1 : 10 ^ 13 ≤ 10 ^ s := Nat.pow_le_pow_right (by omega) hs
    have h2 : 10 ^ s ≤ j * 10 ^ s := Nat.le_mul_of_pos_left _ hj
    have h3 : (10 : Nat) ^ 13 = 10000000000000 := by decide
    omega
  · exact hs
theorem pow_next {j s k : Nat} (h : j * 10 ^ s ≤ k) : j / 10 * 10 ^ (s + 1) ≤ k := by
  have h1 : j / 10 * 10 ≤ j := Nat.div_mul_le_self j 10
  have h2 : j / 10 * 10 ^ (s + 1) = (j / 10 * 10) * 10 ^ s := by rw [Nat.pow_succ, Nat.mul_assoc, Nat.mul_comm (10 ^ s) 10]
  rw [h2]
  exact Nat.le_trans (Nat.mul_le_mul_right _ h1) h
set_option maxHeartbeats 1000000 in
theorem markText_any (k : Nat) (w : World) (hk : k ≤ 1000000000000) :
    Calls Tryd.prog 65 #[.int .i64 k] w fun e w' => e = .returned (.string (markS k)) ∧ New w w' := by
  by_cases h0 : k = 0
  · subst h0
    go_enter Tryd.func65, Tryd.ntmps65
    go_wp2_with fail
    go_ret
    exact ⟨by rw [markS]; rfl, New.refl _⟩
  · have h1 : ¬ (k : Int) ≤ 0 := by omega
    go_enter Tryd.func65, Tryd.ntmps65
    go_wp2_with fail
    go_loopw [0, 3] (fun i s wr => ∃ (j : Nat) (t : ByteArray), i = .int .i64 j ∧ s = .string t ∧ j * 10 ^ t.size ≤ k ∧ j ≤ k ∧ t.size ≤ 13 ∧ Hid (markGo k ⟨#[]⟩ = markGo j t) ∧ New w wr) (fun i _ _ => (intOf i).toNat)
    case atStart => exact ⟨k, ⟨#[]⟩, rfl, rfl, by rw [show (ByteArray.size ⟨#[]⟩) = 0 from rfl]; omega, Nat.le_refl _, by decide, rfl, New.refl _⟩
    case round =>
      obtain ⟨j, t, rfl, rfl, hj, hjk, ht, hg, hb⟩ := hrel
      by_cases hz : j = 0
      · subst hz
        have HA := Lib.hid (hg.out.trans (markGo_zero t))
        go_wp2_with fail
        go_ret
        exact ⟨by rw [markS, if_neg h0, HA.out]; rfl, hb⟩
      · have hz' : 0 < (j : Int) := by omega
        have hs12 := pow_bd (by omega) hj hk
        have HN := Lib.hid (pow_next hj)
        have HA := Lib.hid (hg.out.trans (markGo_pos hz t))
        have hds := digB_size j
        have hsz : (digB j ++ t).size = t.size + 1 := by rw [ByteArray.size_append, hds]; omega
        clear hj
        have kc := run_convert_bytes_arg (P := Tryd.prog) (wr.alloc (.cells #[.int .u8 (48 + (j : Int) % 10)] 5)) 37 5 Tryd.underlying37 Tryd.underlying5 wr.heap.size 0 1 1 [48 + (j : Int) % 10] rfl (by intro i hi; obtain rfl : i = 0 := (by omega); exact alloc_one rfl) 9 Tryd.underlying9
        have kd : strOfNums [48 + (j : Int) % 10] = digB j := rfl
        rw [kd] at kc
        clear kd
        go_wp2_with fail
        go_roundw
        case rel => exact ⟨j / 10, digB j ++ t, by go_num, rfl, by rw [hsz]; exact HN.out, by omega, by omega, HA, (by repeat (first | with_reducible exact New.refl _ | with_reducible assumption | with_reducible refine New.drew ?_ | with_reducible refine New.drewN ?_ _ | with_reducible refine New.alloc ?_ _ | with_reducible refine New.setCell ?_ (by first | (simp; done) | (simp; omega) | omega) _ | with_reducible refine New.trans ?_ (by with_reducible assumption)))⟩
        case measure => simp [intOf]; omega
end Go.Proofs.YtekpbmoagabmeaaDoor
