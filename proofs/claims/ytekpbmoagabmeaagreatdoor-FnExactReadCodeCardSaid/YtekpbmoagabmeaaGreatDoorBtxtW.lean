/- Contracts: texts of blocks. -/
import Derived.StillTail
import Derived.Test.YtekpbmoagabmeaaGreatDoorProg
import Derived.Test.YtekpbmoagabmeaaGreatDoorTxtW
import Derived.Test.YtekpbmoagabmeaaGreatDoorWords
import Derived.Test.YtekpbmoagabmeaaGreatDoorBlocks
import Derived.Test.YtekpbmoagabmeaaGreatDoorBlocks2
import Derived.Test.YtekpbmoagabmeaaGreatDoorPtrW
import Derived.Test.YtekpbmoagabmeaaGreatDoorRegionG
namespace Go.Proofs.YtekpbmoagabmeaaGreatDoor
open Go Go.Proofs Go.RowKit
set_option linter.unusedVariables false
set_option linter.unusedSimpArgs false
set_option maxRecDepth 100000
/-- The keyword of a block. -/
def kwOf (k : Int) : ByteArray := keys.getD (k + 4).toNat ⟨#[]⟩
theorem kwOf_size {k : Int} (h : 7 ≤ k) (h' : k ≤ 12) : 1 ≤ (kwOf k).size ∧ (kwOf k).size ≤ 7 := by
  obtain rfl | rfl | rfl | rfl | rfl | rfl : k = 7 ∨ k = 8 ∨ k = 9 ∨ k = 10 ∨ k = 11 ∨ k = 12 := by omega
  all_goals decide
theorem kwOf_at {k : Int} (h : 7 ≤ k) (h' : k ≤ 12) : keys[(k + 4).toNat]? = some (kwOf k) := by
  obtain rfl | rfl | rfl | rfl | rfl | rfl : k = 7 ∨ k = 8 ∨ k = 9 ∨ k = 10 ∨ k = 11 ∨ k = 12 := by omega
  all_goals rfl
def btext (k n a b c : Int) : ByteArray := ((kwOf k ++ ⟨#[32]⟩) ++ strL (Lib.decDigits n.toNat) ++ ⟨#[32]⟩) ++ strL (jn [a, b, c])
theorem kw_at_rd {w : World} {X : Value} (h : RdS w X keys) {k : Int} (e1 : 7 ≤ k) (e2 : k ≤ 12) : ∃ b off cap, X = .slice (some ⟨b, off, none⟩) 17 cap ∧ b < w.heap.size ∧ w.cell? ⟨b, off + (k + 4).toNat, none⟩ = some (.string (kwOf k)) := by
  obtain ⟨ad, cap, rfl, _, _, hc⟩ := h
  obtain ⟨b, off, rfl, hb, hx⟩ := hc (k + 4).toNat (.string (kwOf k)) (by simp [kwOf_at e1 e2])
  exact ⟨b, off, cap, rfl, hb, hx⟩
theorem iBlockWord_any (k : Int) (s : ByteArray) (n : Int) (w : World) (h : 7 ≤ k) (h' : k ≤ 12) (hk : KW w) :
    Calls Tryz.prog 83 #[.agg #[.int .i64 k, .string s, .int .i64 n]] w fun e w' => e = .returned (.string (kwOf k)) ∧ New w w' := by
  obtain ⟨_, _, e, _, _, hc⟩ := hk
  cases e
  have hc2 : ∀ j u, keys[j]? = some u → w.cell? ⟨0, j, none⟩ = some (.string u) ∧ 0 < w.heap.size := fun j u hu => by
    obtain ⟨b, off, e, hb, hx⟩ := hc j (.string u) (by simp [hu])
    cases e
    rw [Nat.zero_add] at hx
    exact ⟨hx, hb⟩
  obtain ⟨hx, hlt⟩ := hc2 _ _ (kwOf_at h h')
  clear hc hc2
  obtain rfl | rfl | rfl | rfl | rfl | rfl : k = 7 ∨ k = 8 ∨ k = 9 ∨ k = 10 ∨ k = 11 ∨ k = 12 := by omega
  all_goals
    simp only [Int.reduceAdd, Int.reduceToNat] at hx
    generalize kwOf _ = q at hx
    clear h h'
    go_enter Tryz.func83, Tryz.ntmps83
    go_wp2_with fail
    go_ret
    exact ⟨rfl, (by repeat (first | with_reducible exact New.refl _ | with_reducible assumption | with_reducible refine New.drew ?_ | with_reducible refine New.drewN ?_ _ | with_reducible refine New.alloc ?_ _ | with_reducible refine New.setCell ?_ (by first | (simp; done) | (simp; omega) | omega) _ | with_reducible refine New.trans ?_ (by with_reducible assumption)))⟩
end Go.Proofs.YtekpbmoagabmeaaGreatDoor
