/- Contracts: terms. -/
import Derived.Test.YteielmihlfakgaaDoorProg
import Derived.Test.YteielmihlfakgaaDoorNames
import Derived.Test.YteielmihlfakgaaDoorNum
namespace Go.Proofs.YteielmihlfakgaaDoor
open Go Go.Proofs Go.RowKit
set_option linter.unusedVariables false
set_option linter.unusedSimpArgs false
set_option maxRecDepth 100000
structure TermV where
  kind : Int
  name : ByteArray
  num : Int
abbrev TermV.val (t : TermV) : Value := .agg #[.int .i64 t.kind, .string t.name, .int .i64 t.num]
def takes (k : Int) : Int := if k = 1 ∨ k = 2 ∨ k = 3 then 0 else if k = 4 ∨ k = 7 ∨ k = 8 ∨ k = 9 then 1 else 2
theorem takes_bd (k : Int) : 0 ≤ takes k ∧ takes k ≤ 2 := by unfold takes; split; · omega
                                                             · split <;> omega
def counts (k : Int) : Bool := decide (k = 7 ∨ k = 8 ∨ k = 11 ∨ k = 12)
theorem counts1 : counts 1 = false := by decide
theorem in00 : inB 0 0 9999 = true := by decide
theorem in0 (n : Int) : inB n 0 9999 = false → ¬ n = 0 := by rintro h rfl; cases h
theorem toList_len (s : ByteArray) : s.toList.length = s.size := by rw [ByteArray.toList_eq]; simp
theorem name_ne {s : ByteArray} (h : isNameB s = true) : s.toList.isEmpty = false := by
  have : 1 ≤ s.size := by rw [isNameB, isWordB] at h; simp at h; omega
  have hl := toList_len s
  cases hs : s.toList with
  | nil => rw [hs] at hl; simp at hl; omega
  | cons a l => rfl
def termB (k : Int) (s : ByteArray) (n : Int) : Bool := inB k 1 12 && (if counts k = true then inB n 0 9999 else decide (n = 0)) && (if k = 1 then isNameB s else s.toList.isEmpty)
theorem sTakes_any (k : Int) (w : World) : Calls Tryd.prog 110 #[.int .i64 k] w fun e w' => e = .returned (.int .i64 (takes k)) ∧ w = w' := by
  go_enter Tryd.func110, Tryd.ntmps110
  go_wp2_with fail
  all_goals go_ret
  all_goals refine ⟨ret_int ?_, rfl⟩
  all_goals (unfold takes; (try simp only [beq_iff_eq, bne_iff_ne, beq_eq_false_iff_ne, bne_eq_false_iff_eq, decide_eq_true_eq, decide_eq_false_iff_not, ne_eq, Bool.not_eq_true, Bool.not_eq_false] at *); first | (rw [if_pos (by omega)]; done) | (rw [if_neg (by omega), if_pos (by omega)]; done) | (rw [if_neg (by omega), if_neg (by omega)]; done))
theorem iArguments_any (k : Int) (w : World) : Calls Tryd.prog 117 #[.int .i64 k] w fun e w' => e = .returned (.int .i64 (takes k)) ∧ w = w' := by
  go_enter Tryd.func117, Tryd.ntmps117
  go_wp2_with fail
  all_goals go_ret
  all_goals refine ⟨ret_int ?_, rfl⟩
  all_goals (unfold takes; (try simp only [beq_iff_eq, bne_iff_ne, beq_eq_false_iff_ne, bne_eq_false_iff_eq, decide_eq_true_eq, decide_eq_false_iff_not, ne_eq, Bool.not_eq_true, Bool.not_eq_false] at *); first | (rw [if_pos (by omega)]; done) | (rw [if_neg (by omega), if_pos (by omega)]; done) | (rw [if_neg (by omega), if_neg (by omega)]; done))
theorem sCounts_any (k : Int) (w : World) : Calls Tryd.prog 147 #[.int .i64 k] w fun e w' => e = .returned (.bool (counts k)) ∧ w = w' := by
  go_enter Tryd.func147, Tryd.ntmps147
  go_wp2_with fail
  all_goals go_ret
  all_goals refine ⟨ret_bool ?_, rfl⟩
  all_goals (unfold counts; rw [Bool.eq_iff_iff]; simp_all; try omega)
theorem iNumbered_any (k : Int) (w : World) : Calls Tryd.prog 95 #[.int .i64 k] w fun e w' => e = .returned (.bool (counts k)) ∧ w = w' := by
  go_enter Tryd.func95, Tryd.ntmps95
  go_wp2_with fail
  all_goals go_ret
  all_goals refine ⟨ret_bool ?_, rfl⟩
  all_goals (unfold counts; rw [Bool.eq_iff_iff]; simp_all; try omega)
theorem sKind_any (k : Int) (w : World) : Calls Tryd.prog 164 #[.int .i64 k] w fun e w' => e = .returned (.bool (inB k 1 12)) ∧ w = w' := by
  go_enter Tryd.func164, Tryd.ntmps164
  go_wp2_with (first | (go_at_call 92; refine (l01In_any _ _ _ _).mono ?_; rintro e _ ⟨rfl, rfl⟩))
  go_ret
  exact ⟨rfl, rfl⟩
set_option maxHeartbeats 1000000 in
theorem sTerm_any (k : Int) (s : ByteArray) (n : Int) (w : World) (hs : s.size ≤ 1048576) :
    Calls Tryd.prog 143 #[.agg #[.int .i64 k, .string s, .int .i64 n]] w fun e w' => e = .returned (.bool (termB k s n)) ∧ New w w' := by
  go_enter Tryd.func143, Tryd.ntmps143
  go_wp2_with (first | (go_at_call 164; refine (sKind_any k _).mono ?_; rintro e _ ⟨rfl, rfl⟩) | (go_at_call 92; refine (l01In_any _ _ _ _).mono ?_; rintro e _ ⟨rfl, rfl⟩) | (go_at_call 147; refine (sCounts_any k _).mono ?_; rintro e _ ⟨rfl, rfl⟩) | (go_at_call 90; refine (sName_any s _ hs).mono ?_; rintro e _ ⟨rfl, hnw⟩))
  all_goals go_ret
  all_goals refine ⟨ret_bool ?_, (by repeat (first | with_reducible exact New.refl _ | with_reducible assumption | with_reducible refine New.drew ?_ | with_reducible refine New.drewN ?_ _ | with_reducible refine New.alloc ?_ _ | with_reducible refine New.setCell ?_ (by first | (simp; done) | (simp; omega) | omega) _ | with_reducible refine New.trans ?_ (by with_reducible assumption)))⟩
  all_goals (have hN := name_ne (s := s); have hC := counts1; have hZ := in0 n; have hZ0 := in00)
  all_goals (rcases Bool.eq_false_or_eq_true s.toList.isEmpty with he | he <;> rcases Bool.eq_false_or_eq_true (isNameB s) with hn | hn <;> by_cases hk1 : k = 1 <;> simp_all [termB])
set_option maxHeartbeats 1000000 in
theorem iTerm_any (k : Int) (s : ByteArray) (n : Int) (w : World) (hs : s.size ≤ 1048576) (hk : KW w) :
    Calls Tryd.prog 51 #[.agg #[.int .i64 k, .string s, .int .i64 n]] w fun e w' => e = .returned (.bool (termB k s n)) ∧ New w w' := by
  have HK := Lib.hid hk; clear hk
  go_enter Tryd.func51, Tryd.ntmps51
  go_wp2_with (first | (go_at_call 94; refine (within_any _ _ _ _).mono ?_; rintro e _ ⟨rfl, rfl⟩) | (go_at_call 95; refine (iNumbered_any k _).mono ?_; rintro e _ ⟨rfl, rfl⟩) | (go_at_call 81; refine (iIsName_any s _ hs (HK.out.new (by repeat (first | with_reducible exact New.refl _ | with_reducible assumption | with_reducible refine New.drew ?_ | with_reducible refine New.drewN ?_ _ | with_reducible refine New.alloc ?_ _ | with_reducible refine New.setCell ?_ (by first | (simp; done) | (simp; omega) | omega) _ | with_reducible refine New.trans ?_ (by with_reducible assumption))))).mono ?_; rintro e _ ⟨rfl, rfl⟩))
  all_goals go_ret
  all_goals refine ⟨ret_bool ?_, (by repeat (first | with_reducible exact New.refl _ | with_reducible assumption | with_reducible refine New.drew ?_ | with_reducible refine New.drewN ?_ _ | with_reducible refine New.alloc ?_ _ | with_reducible refine New.setCell ?_ (by first | (simp; done) | (simp; omega) | omega) _ | with_reducible refine New.trans ?_ (by with_reducible assumption)))⟩
  all_goals (have hN := name_ne (s := s); have hC := counts1; have hZ := in0 n; have hZ0 := in00)
  all_goals (rcases Bool.eq_false_or_eq_true s.toList.isEmpty with he | he <;> rcases Bool.eq_false_or_eq_true (isNameB s) with hn | hn <;> by_cases hk1 : k = 1 <;> simp_all [termB])
end Go.Proofs.YteielmihlfakgaaDoor
