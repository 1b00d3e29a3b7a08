/- Contracts: blocks and their states. -/
import Derived.Test.YteielmihlfakgaaDoorProg
import Derived.Test.YteielmihlfakgaaDoorTerms
namespace Go.Proofs.YteielmihlfakgaaDoor
open Go Go.Proofs Go.RowKit
set_option linter.unusedVariables false
set_option linter.unusedSimpArgs false
set_option maxRecDepth 100000
def isBlk (k : Int) (s : ByteArray) (n : Int) : Bool := termB k s n && decide (7 ≤ k)
theorem isBlk_bd {k : Int} {s : ByteArray} {n : Int} (h : isBlk k s n = true) : 7 ≤ k ∧ k ≤ 12 ∧ 0 ≤ n ∧ n ≤ 9999 := by
  rw [isBlk, termB, inB] at h
  simp only [Bool.and_eq_true, decide_eq_true_eq] at h
  obtain ⟨⟨⟨⟨h1, h2⟩, h3⟩, _⟩, h4⟩ := h
  refine ⟨h4, h2, ?_⟩
  split at h3
  · rw [inB] at h3; simpa using h3
  · have : n = 0 := by simpa using h3
    omega
def posB (k n a b c : Int) : Bool :=
  if k = 9 ∨ k = 10 then inB a 0 1 && b == 0 && c == 0
  else if k = 11 then inB a 0 n && inB b 0 1 && c == 0
  else if k = 12 then b == 0 && (inB a 0 n && c == 0 || a == n + 1 && c == 1)
  else inB a 0 n && b == 0 && c == 0
theorem inS (n : Int) : inB (n + 1) 0 n = false := by rw [inB]; simp; omega
theorem sIsBlock_any (k : Int) (s : ByteArray) (n : Int) (w : World) (hs : s.size ≤ 1048576) :
    Calls Tryd.prog 125 #[.agg #[.int .i64 k, .string s, .int .i64 n]] w fun e w' => e = .returned (.bool (isBlk k s n)) ∧ New w w' := by
  go_enter Tryd.func125, Tryd.ntmps125
  rcases Bool.eq_false_or_eq_true (termB k s n) with h1 | h1
  · go_wp2_with fail
    refine (sTerm_any k s n _ hs).mono ?_; rintro e w1 ⟨rfl, b1⟩
    try with_reducible replace b1 := New.undrawN b1
    try with_reducible replace b1 := New.undraw b1
    obtain ⟨c1, f1⟩ := b1.rules
    have z1 := b1.size
    try simp only [World.size_alloc, World.size_drew, World.heap_drewN, World.size_setCell] at z1
    have z1_0 : w.heap.size < w1.heap.size := by omega
    go_wp2_with fail
    go_ret
    exact ⟨ret_bool (by rw [isBlk, h1]; simp), (by repeat (first | with_reducible exact New.refl _ | with_reducible assumption | with_reducible refine New.drew ?_ | with_reducible refine New.drewN ?_ _ | with_reducible refine New.alloc ?_ _ | with_reducible refine New.setCell ?_ (by first | (simp; done) | (simp; omega) | omega) _ | with_reducible refine New.trans ?_ (by with_reducible assumption)))⟩
  · go_wp2_with fail
    refine (sTerm_any k s n _ hs).mono ?_; rintro e w1 ⟨rfl, b1⟩
    try with_reducible replace b1 := New.undrawN b1
    try with_reducible replace b1 := New.undraw b1
    obtain ⟨c1, f1⟩ := b1.rules
    have z1 := b1.size
    try simp only [World.size_alloc, World.size_drew, World.heap_drewN, World.size_setCell] at z1
    have z1_0 : w.heap.size < w1.heap.size := by omega
    go_wp2_with fail
    go_ret
    exact ⟨ret_bool (by rw [isBlk, h1]; simp), (by repeat (first | with_reducible exact New.refl _ | with_reducible assumption | with_reducible refine New.drew ?_ | with_reducible refine New.drewN ?_ _ | with_reducible refine New.alloc ?_ _ | with_reducible refine New.setCell ?_ (by first | (simp; done) | (simp; omega) | omega) _ | with_reducible refine New.trans ?_ (by with_reducible assumption)))⟩
theorem iIsBlock_any (k : Int) (s : ByteArray) (n : Int) (w : World) (hs : s.size ≤ 1048576) (hk : KW w) :
    Calls Tryd.prog 19 #[.agg #[.int .i64 k, .string s, .int .i64 n]] w fun e w' => e = .returned (.bool (isBlk k s n)) ∧ New w w' := by
  have HK := Lib.hid hk; clear hk
  go_enter Tryd.func19, Tryd.ntmps19
  rcases Bool.eq_false_or_eq_true (termB k s n) with h1 | h1
  · go_wp2_with fail
    refine (iTerm_any k s n _ hs (HK.out.new (by repeat (first | with_reducible exact New.refl _ | with_reducible assumption | with_reducible refine New.drew ?_ | with_reducible refine New.drewN ?_ _ | with_reducible refine New.alloc ?_ _ | with_reducible refine New.setCell ?_ (by first | (simp; done) | (simp; omega) | omega) _ | with_reducible refine New.trans ?_ (by with_reducible assumption))))).mono ?_; rintro e w1 ⟨rfl, b1⟩
    try with_reducible replace b1 := New.undrawN b1
    try with_reducible replace b1 := New.undraw b1
    obtain ⟨c1, f1⟩ := b1.rules
    have z1 := b1.size
    try simp only [World.size_alloc, World.size_drew, World.heap_drewN, World.size_setCell] at z1
    have z1_0 : w.heap.size < w1.heap.size := by omega
    go_wp2_with fail
    go_ret
    exact ⟨ret_bool (by rw [isBlk, h1]; simp), (by repeat (first | with_reducible exact New.refl _ | with_reducible assumption | with_reducible refine New.drew ?_ | with_reducible refine New.drewN ?_ _ | with_reducible refine New.alloc ?_ _ | with_reducible refine New.setCell ?_ (by first | (simp; done) | (simp; omega) | omega) _ | with_reducible refine New.trans ?_ (by with_reducible assumption)))⟩
  · go_wp2_with fail
    refine (iTerm_any k s n _ hs (HK.out.new (by repeat (first | with_reducible exact New.refl _ | with_reducible assumption | with_reducible refine New.drew ?_ | with_reducible refine New.drewN ?_ _ | with_reducible refine New.alloc ?_ _ | with_reducible refine New.setCell ?_ (by first | (simp; done) | (simp; omega) | omega) _ | with_reducible refine New.trans ?_ (by with_reducible assumption))))).mono ?_; rintro e w1 ⟨rfl, b1⟩
    try with_reducible replace b1 := New.undrawN b1
    try with_reducible replace b1 := New.undraw b1
    obtain ⟨c1, f1⟩ := b1.rules
    have z1 := b1.size
    try simp only [World.size_alloc, World.size_drew, World.heap_drewN, World.size_setCell] at z1
    have z1_0 : w.heap.size < w1.heap.size := by omega
    go_wp2_with fail
    go_ret
    exact ⟨ret_bool (by rw [isBlk, h1]; simp), (by repeat (first | with_reducible exact New.refl _ | with_reducible assumption | with_reducible refine New.drew ?_ | with_reducible refine New.drewN ?_ _ | with_reducible refine New.alloc ?_ _ | with_reducible refine New.setCell ?_ (by first | (simp; done) | (simp; omega) | omega) _ | with_reducible refine New.trans ?_ (by with_reducible assumption)))⟩
def szT (s : ByteArray) (left : Int) : Int := if left - s.size < 0 then -1 else left - s.size
theorem szTerm_any (k : Int) (s : ByteArray) (n left : Int) (w : World) (hl : 0 ≤ left) (hl' : left ≤ 1048576) (hs : s.size ≤ 9223372036854775807) :
    Calls Tryd.prog 58 #[.agg #[.int .i64 k, .string s, .int .i64 n], .int .i64 left] w fun e w' => e = .returned (.int .i64 (szT s left)) ∧ New w w' := by
  go_enter Tryd.func58, Tryd.ntmps58
  by_cases h : left - s.size < 0
  · go_wp2_with fail
    go_ret
    exact ⟨ret_int (by rw [szT, if_pos h]), (by repeat (first | with_reducible exact New.refl _ | with_reducible assumption | with_reducible refine New.drew ?_ | with_reducible refine New.drewN ?_ _ | with_reducible refine New.alloc ?_ _ | with_reducible refine New.setCell ?_ (by first | (simp; done) | (simp; omega) | omega) _ | with_reducible refine New.trans ?_ (by with_reducible assumption)))⟩
  · go_wp2_with fail
    go_ret
    exact ⟨ret_int (by rw [szT, if_neg (Int.not_lt.2 (by assumption))]), (by repeat (first | with_reducible exact New.refl _ | with_reducible assumption | with_reducible refine New.drew ?_ | with_reducible refine New.drewN ?_ _ | with_reducible refine New.alloc ?_ _ | with_reducible refine New.setCell ?_ (by first | (simp; done) | (simp; omega) | omega) _ | with_reducible refine New.trans ?_ (by with_reducible assumption)))⟩
theorem toTerm_any (k : Int) (s : ByteArray) (n : Int) (w : World) :
    Calls Tryd.prog 62 #[.agg #[.int .i64 k, .string s, .int .i64 n]] w fun e w' => e = .returned (.agg #[.int .i64 k, .string s, .int .i64 n]) ∧ New w w' := by
  go_enter Tryd.func62, Tryd.ntmps62
  go_wp2_with fail
  exact bodyPost_ret (v := .agg #[.int .i64 k, .string s, .int .i64 n]) (by simp [results, Tryd.results62, go_sem]) rfl ⟨rfl, (by repeat (first | with_reducible exact New.refl _ | with_reducible assumption | with_reducible refine New.drew ?_ | with_reducible refine New.drewN ?_ _ | with_reducible refine New.alloc ?_ _ | with_reducible refine New.setCell ?_ (by first | (simp; done) | (simp; omega) | omega) _ | with_reducible refine New.trans ?_ (by with_reducible assumption)))⟩
end Go.Proofs.YteielmihlfakgaaDoor
