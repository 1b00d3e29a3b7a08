/- Contracts: words and names. -/
import Derived.Test.YteielmihlfakgaaDoorProg
import Derived.Test.YteielmihlfakgaaDoorBytes
import Derived.Test.YteielmihlfakgaaDoorWords
import Derived.Test.YteielmihlfakgaaDoorNum
import Derived.Test.YteielmihlfakgaaDoorWordB
namespace Go.Proofs.YteielmihlfakgaaDoor
open Go Go.Proofs Go.RowKit
set_option linter.unusedVariables false
set_option linter.unusedSimpArgs false
set_option maxRecDepth 100000
def isNameB (s : ByteArray) : Bool := isWordB s && !isKey s
theorem iIsName_any (s : ByteArray) (w : World) (hs : s.size ≤ 1048576) (hk : KW w) : Calls Tryd.prog 81 #[.string s] w fun e w' => e = .returned (.bool (isNameB s)) ∧ w = w' := by
  have HK := Lib.hid hk; clear hk
  go_enter Tryd.func81, Tryd.ntmps81
  rcases Bool.eq_false_or_eq_true (isWordB s) with h1 | h1
  · go_wp2_with (first | (go_at_call 132; refine (iIsWord_any s _ hs).mono ?_; rintro e _ ⟨rfl, rfl⟩) | (go_at_call 133; refine (iIsKeyword_any s _ HK.out).mono ?_; rintro e _ ⟨rfl, rfl⟩))
    go_ret
    exact ⟨ret_bool (by simp [isNameB, h1]), rfl⟩
  · go_wp2_with (first | (go_at_call 132; refine (iIsWord_any s _ hs).mono ?_; rintro e _ ⟨rfl, rfl⟩) | (go_at_call 133; refine (iIsKeyword_any s _ HK.out).mono ?_; rintro e _ ⟨rfl, rfl⟩))
    go_ret
    exact ⟨ret_bool (by simp [isNameB, h1]), rfl⟩
theorem sName_any (s : ByteArray) (w : World) (hs : s.size ≤ 1048576) : Calls Tryd.prog 90 #[.string s] w fun e w' => e = .returned (.bool (isNameB s)) ∧ New w w' := by
  have HK := Lib.hid (keyOf_isKey s)
  go_enter Tryd.func90, Tryd.ntmps90
  rcases Bool.eq_false_or_eq_true (isWordB s) with h1 | h1
  · go_wp2_with (first | (go_at_call 137; refine (sWord_any s _ hs).mono ?_; rintro e _ ⟨rfl, rfl⟩))
    refine (sKeyword_any s _).mono ?_; rintro e w1 ⟨rfl, b1⟩
    try with_reducible replace b1 := New.undrawN b1
    try with_reducible replace b1 := New.undraw b1
    obtain ⟨c1, f1⟩ := b1.rules
    have z1 := b1.size
    try simp only [World.size_alloc, World.size_drew, World.heap_drewN, World.size_setCell] at z1
    go_wp2_with fail
    go_ret
    refine ⟨ret_bool ?_, (by repeat (first | with_reducible exact New.refl _ | with_reducible assumption | with_reducible refine New.drew ?_ | with_reducible refine New.drewN ?_ _ | with_reducible refine New.alloc ?_ _ | with_reducible refine New.setCell ?_ (by first | (simp; done) | (simp; omega) | omega) _ | with_reducible refine New.trans ?_ (by with_reducible assumption)))⟩
    rw [isNameB, h1, ← HK.out, Bool.true_and, Bool.eq_iff_iff]; simp
  · go_wp2_with (first | (go_at_call 137; refine (sWord_any s _ hs).mono ?_; rintro e _ ⟨rfl, rfl⟩))
    go_ret
    exact ⟨ret_bool (by simp [isNameB, h1]), (by repeat (first | with_reducible exact New.refl _ | with_reducible assumption | with_reducible refine New.drew ?_ | with_reducible refine New.drewN ?_ _ | with_reducible refine New.alloc ?_ _ | with_reducible refine New.setCell ?_ (by first | (simp; done) | (simp; omega) | omega) _ | with_reducible refine New.trans ?_ (by with_reducible assumption)))⟩
end Go.Proofs.YteielmihlfakgaaDoor
