/- Contracts: is a state possible, is a block faulty. -/
import Derived.Test.YtflhdijlhdckoaaDoorProg
import Derived.Test.YtflhdijlhdckoaaDoorBlocks
namespace Go.Proofs.YtflhdijlhdckoaaDoor
open Go Go.Proofs Go.RowKit
set_option linter.unusedVariables false
set_option linter.unusedSimpArgs false
set_option maxRecDepth 100000
def canB (k : Int) (s : ByteArray) (n a b c : Int) : Bool := isBlk k s n && posB k n a b c
/-- The code of a block and a state. -/
def canCode (k : Int) (s : ByteArray) (n a b c : Int) : Int := if isBlk k s n = true then (if posB k n a b c = true then 0 else 2) else 1
def faultyOf (k : Int) (s : ByteArray) (n a b c : Int) : Bool := canB k s n a b c && c == 1
theorem pos_pair {k n a b c : Int} (h : posB k n a b c = true) (hc : c = 1) : k = 12 := by
  subst hc
  unfold posB at h
  split at h
  · simp at h
  · split at h
    · simp at h
    · split at h
      · assumption
      · simp at h
theorem indexNone_any (f : Value) (c : Nat) (w : World) :
    Calls Tryd.prog 127 #[.slice none 0 c, f] w fun e w' => e = .returned (.int .i64 (-1)) ∧ w = w' := by
  go_enter Tryd.func127, Tryd.ntmps127
  go_wp2_with fail
  go_loop [8] (fun i => i = .int .i64 0) (fun _ => 0)
  case atStart => rfl
  case round =>
    subst hrel
    go_wp2_with fail
    go_ret
    exact ⟨rfl, rfl⟩
theorem containsNone_any (f : Value) (c : Nat) (w : World) :
    Calls Tryd.prog 94 #[.slice none 0 c, f] w fun e w' => e = .returned (.bool false) ∧ w = w' := by
  go_enter Tryd.func94, Tryd.ntmps94
  go_wp2_with (first | (go_at_call 127; refine (indexNone_any _ _ _).mono ?_; rintro e _ ⟨rfl, rfl⟩))
  go_ret
  exact ⟨rfl, rfl⟩
theorem iStepCode_any (k : Int) (s : ByteArray) (n a b c : Int) (w : World) (hs : s.size ≤ 1048576) (hk : KW w) :
    Calls Tryd.prog 55 #[.agg #[.int .i64 k, .string s, .int .i64 n], .agg #[.int .i64 a, .int .i64 b, .int .i64 c], .slice none 0 0] w fun e w' => e = .returned (.int .i64 (canCode k s n a b c)) ∧ New w w' := by
  have HK := Lib.hid hk; clear hk
  have zz : w.heap.size < w.heap.size + 1 + 1 := by omega
  go_enter Tryd.func55, Tryd.ntmps55
  rcases Bool.eq_false_or_eq_true (isBlk k s n) with h1 | h1
  · obtain ⟨e1, e2, e3, e4⟩ := isBlk_bd h1
    rcases Bool.eq_false_or_eq_true (posB k n a b c) with h2 | h2
    · go_wp2_with fail
      refine (iIsBlock_any k s n _ hs (HK.out.new (by repeat (first | with_reducible exact New.refl _ | with_reducible assumption | with_reducible refine New.drew ?_ | with_reducible refine New.drewN ?_ _ | with_reducible refine New.alloc ?_ _ | with_reducible refine New.setCell ?_ (by first | (simp; done) | (simp; omega) | omega) _ | with_reducible refine New.trans ?_ (by with_reducible assumption))))).mono ?_; rintro e w1 ⟨rfl, b1⟩
      try with_reducible replace b1 := New.undrawN b1
      try with_reducible replace b1 := New.undraw b1
      obtain ⟨c1, f1⟩ := b1.rules
      have z1 := b1.size
      try simp only [World.size_alloc, World.size_drew, World.heap_drewN, World.size_setCell] at z1
      have z1_0 : w.heap.size < w1.heap.size := by omega
      have z1_1 : w.heap.size + 1 < w1.heap.size := by omega
      go_wp2_with fail
      refine (iPossible_any k s n a b c _ e1 e2 e3 e4).mono ?_; rintro e w2 ⟨rfl, b2⟩
      try with_reducible replace b2 := New.undrawN b2
      try with_reducible replace b2 := New.undraw b2
      obtain ⟨c2, f2⟩ := b2.rules
      have z2 := b2.size
      try simp only [World.size_alloc, World.size_drew, World.heap_drewN, World.size_setCell] at z2
      have z2_0 : w.heap.size < w2.heap.size := by omega
      have z2_1 : w.heap.size + 1 < w2.heap.size := by omega
      go_wp2_with fail
      refine (containsNone_any _ _ _).mono ?_; rintro e w3 ⟨rfl, rfl⟩
      go_wp2_with fail
      go_ret
      exact ⟨ret_int (by rw [canCode, if_pos h1, if_pos h2]), (by repeat (first | with_reducible exact New.refl _ | with_reducible assumption | with_reducible refine New.drew ?_ | with_reducible refine New.drewN ?_ _ | with_reducible refine New.alloc ?_ _ | with_reducible refine New.setCell ?_ (by first | (simp; done) | (simp; omega) | omega) _ | with_reducible refine New.trans ?_ (by with_reducible assumption)))⟩
    · go_wp2_with fail
      refine (iIsBlock_any k s n _ hs (HK.out.new (by repeat (first | with_reducible exact New.refl _ | with_reducible assumption | with_reducible refine New.drew ?_ | with_reducible refine New.drewN ?_ _ | with_reducible refine New.alloc ?_ _ | with_reducible refine New.setCell ?_ (by first | (simp; done) | (simp; omega) | omega) _ | with_reducible refine New.trans ?_ (by with_reducible assumption))))).mono ?_; rintro e w1 ⟨rfl, b1⟩
      try with_reducible replace b1 := New.undrawN b1
      try with_reducible replace b1 := New.undraw b1
      obtain ⟨c1, f1⟩ := b1.rules
      have z1 := b1.size
      try simp only [World.size_alloc, World.size_drew, World.heap_drewN, World.size_setCell] at z1
      have z1_0 : w.heap.size < w1.heap.size := by omega
      have z1_1 : w.heap.size + 1 < w1.heap.size := by omega
      go_wp2_with fail
      refine (iPossible_any k s n a b c _ e1 e2 e3 e4).mono ?_; rintro e w2 ⟨rfl, b2⟩
      try with_reducible replace b2 := New.undrawN b2
      try with_reducible replace b2 := New.undraw b2
      obtain ⟨c2, f2⟩ := b2.rules
      have z2 := b2.size
      try simp only [World.size_alloc, World.size_drew, World.heap_drewN, World.size_setCell] at z2
      have z2_0 : w.heap.size < w2.heap.size := by omega
      have z2_1 : w.heap.size + 1 < w2.heap.size := by omega
      go_wp2_with fail
      go_ret
      exact ⟨ret_int (by rw [canCode, if_pos h1, h2]; simp), (by repeat (first | with_reducible exact New.refl _ | with_reducible assumption | with_reducible refine New.drew ?_ | with_reducible refine New.drewN ?_ _ | with_reducible refine New.alloc ?_ _ | with_reducible refine New.setCell ?_ (by first | (simp; done) | (simp; omega) | omega) _ | with_reducible refine New.trans ?_ (by with_reducible assumption)))⟩
  · go_wp2_with fail
    refine (iIsBlock_any k s n _ hs (HK.out.new (by repeat (first | with_reducible exact New.refl _ | with_reducible assumption | with_reducible refine New.drew ?_ | with_reducible refine New.drewN ?_ _ | with_reducible refine New.alloc ?_ _ | with_reducible refine New.setCell ?_ (by first | (simp; done) | (simp; omega) | omega) _ | with_reducible refine New.trans ?_ (by with_reducible assumption))))).mono ?_; rintro e w1 ⟨rfl, b1⟩
    try with_reducible replace b1 := New.undrawN b1
    try with_reducible replace b1 := New.undraw b1
    obtain ⟨c1, f1⟩ := b1.rules
    have z1 := b1.size
    try simp only [World.size_alloc, World.size_drew, World.heap_drewN, World.size_setCell] at z1
    have z1_0 : w.heap.size < w1.heap.size := by omega
    have z1_1 : w.heap.size + 1 < w1.heap.size := by omega
    go_wp2_with fail
    go_ret
    exact ⟨ret_int (by rw [canCode, h1]; simp), (by repeat (first | with_reducible exact New.refl _ | with_reducible assumption | with_reducible refine New.drew ?_ | with_reducible refine New.drewN ?_ _ | with_reducible refine New.alloc ?_ _ | with_reducible refine New.setCell ?_ (by first | (simp; done) | (simp; omega) | omega) _ | with_reducible refine New.trans ?_ (by with_reducible assumption)))⟩
theorem canCode_0 {k : Int} {s : ByteArray} {n a b c : Int} : (canCode k s n a b c = 0 ∧ canB k s n a b c = true) ∨ (canCode k s n a b c ≠ 0 ∧ canB k s n a b c = false) := by
  rw [canCode, canB]; cases isBlk k s n <;> cases posB k n a b c <;> simp
end Go.Proofs.YtflhdijlhdckoaaDoor
