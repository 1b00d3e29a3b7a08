/- Contracts: keywords. -/
import Derived.Test.YteielmihlfakgaaDoorProg
import Derived.Test.YteielmihlfakgaaDoorFunc
import Derived.Test.YteielmihlfakgaaDoorStrs
import Derived.Test.YteielmihlfakgaaDoorKeys
import Derived.Test.YteielmihlfakgaaDoorCells
namespace Go.Proofs.YteielmihlfakgaaDoor
open Go Go.Proofs Go.RowKit
set_option linter.unusedVariables false
set_option linter.unusedSimpArgs false
set_option maxRecDepth 100000
/-- The keyword's index, or -1. -/
def keyOf (s : ByteArray) : Int := idx (fun y => s.toList == y.toList) keys
def isKey (s : ByteArray) : Bool := keys.any fun y => s.toList == y.toList
theorem keyOf_isKey (s : ByteArray) : decide (0 ≤ keyOf s) = isKey s := idx_any _ _
theorem iIsKeyword_any (s : ByteArray) (w : World) (hk : KW w) :
    Calls Tryd.prog 133 #[.string s] w fun e w' => e = .returned (.bool (isKey s)) ∧ w = w' := by
  go_enter Tryd.func133, Tryd.ntmps133
  go_wp2_with fail
  refine (containsS_any s _ keys _ hk).mono ?_
  rintro e w2 ⟨rfl, rfl⟩
  go_wp2_with fail
  go_ret
  exact ⟨rfl, rfl⟩
theorem sKeywords_any (w : World) :
    Calls Tryd.prog 146 #[] w fun e w' => ∃ r, e = .returned r ∧ New w w' ∧ RdS w' r keys := by
  go_enter Tryd.func146, Tryd.ntmps146
  go_wp2_with fail
  go_ret
  refine ⟨_, rfl, (by repeat (first | with_reducible exact New.refl _ | with_reducible assumption | with_reducible refine New.drew ?_ | with_reducible refine New.drewN ?_ _ | with_reducible refine New.alloc ?_ _ | with_reducible refine New.setCell ?_ (by first | (simp; done) | (simp; omega) | omega) _ | with_reducible refine New.trans ?_ (by with_reducible assumption))), _, 17, rfl, by decide, ⟨(fun h => by cases h), Nat.le_refl _⟩, fun j u hu => ⟨_, 0, rfl, by simp, ?_⟩⟩
  rw [Nat.zero_add, cell_alloc_new _ _ _ _ _ rfl, ← Array.getElem?_toList]
  exact hu
set_option maxHeartbeats 400000 in
theorem sKeyword_any (x : ByteArray) (w : World) :
    Calls Tryd.prog 138 #[.string x] w fun e w' => e = .returned (.int .i64 (keyOf x)) ∧ New w w' := by
  go_enter Tryd.func138, Tryd.ntmps138
  go_wp2_with fail
  refine (sKeywords_any _).mono ?_; rintro e w1 ⟨r, rfl, b1, hr⟩
  obtain ⟨a, cap, rfl, hm, HC⟩ := hr.open; clear hr
  obtain ⟨c1, f1⟩ := b1.rules
  have z1 := b1.size
  try simp only [World.size_alloc, World.size_drew, World.heap_drewN, World.size_setCell] at z1
  go_wp2_with fail
  go_loop [4] (fun i => ∃ k : Nat, k ≤ keys.length ∧ i = .int .i64 k ∧ Hid ((keys.take k).findIdx? (fun y => x.toList == y.toList) = none)) (fun i => keys.length - (intOf i).toNat)
  case atStart => exact ⟨0, Nat.zero_le _, rfl, rfl⟩
  case round =>
    obtain ⟨k, hk, rfl, hpre⟩ := hrel
    by_cases hlt : k < keys.length
    · obtain ⟨b, off, rfl, hbl, hx⟩ := HC.out _ (New.refl _) k hlt
      have HT := Lib.hid (take_find hlt hpre.out)
      rcases Bool.eq_false_or_eq_true (keys[k].toList == x.toList) with h1 | h1
      · have HA := Lib.hid (idx_some (HT.out.1 (by rwa [Bool.beq_comm])))
        go_wp2_with fail
        go_ret
        exact ⟨ret_int HA.out.symm, (by repeat (first | with_reducible exact New.refl _ | with_reducible assumption | with_reducible refine New.drew ?_ | with_reducible refine New.drewN ?_ _ | with_reducible refine New.alloc ?_ _ | with_reducible refine New.setCell ?_ (by first | (simp; done) | (simp; omega) | omega) _ | with_reducible refine New.trans ?_ (by with_reducible assumption)))⟩
      · have HA := Lib.hid (HT.out.2 (by rwa [Bool.beq_comm]))
        go_wp2_with fail
        go_round
        case rel => exact ⟨k + 1, by omega, by go_num, HA⟩
        case measure => simp [intOf]; omega
    · obtain rfl : k = keys.length := by omega
      have HA := Lib.hid (idx_none (p := fun y => x.toList == y.toList) (xs := keys) (by have := hpre.out; rwa [List.take_length] at this))
      go_wp2_with fail
      go_ret
      exact ⟨ret_int HA.out.symm, (by repeat (first | with_reducible exact New.refl _ | with_reducible assumption | with_reducible refine New.drew ?_ | with_reducible refine New.drewN ?_ _ | with_reducible refine New.alloc ?_ _ | with_reducible refine New.setCell ?_ (by first | (simp; done) | (simp; omega) | omega) _ | with_reducible refine New.trans ?_ (by with_reducible assumption)))⟩
end Go.Proofs.YteielmihlfakgaaDoor
