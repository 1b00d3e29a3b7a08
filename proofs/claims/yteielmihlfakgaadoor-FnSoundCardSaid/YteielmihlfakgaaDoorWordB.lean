/- Contracts: words. -/
import Derived.Test.YteielmihlfakgaaDoorProg
import Derived.Test.YteielmihlfakgaaDoorBytes
import Derived.Test.YteielmihlfakgaaDoorNum
namespace Go.Proofs.YteielmihlfakgaaDoor
open Go Go.Proofs Go.RowKit
set_option linter.unusedVariables false
set_option linter.unusedSimpArgs false
set_option maxRecDepth 100000
theorem sWord_any (s : ByteArray) (w : World) (hs : s.size ≤ 1048576) : Calls Tryd.prog 137 #[.string s] w fun e w' => e = .returned (.bool (isWordB s)) ∧ w = w' := by
  go_enter Tryd.func137, Tryd.ntmps137
  go_wp2_with fail
  go_loop [3] (fun i => ∃ k : Nat, k ≤ s.size ∧ i = .int .i64 k ∧ Hid (∀ j (h : j < s.size), j < k → isInner s[j] = true)) (fun i => s.size - (intOf i).toNat)
  case atStart => exact ⟨0, Nat.zero_le _, rfl, Lib.hid (fun j h hj => by omega)⟩
  case round =>
    obtain ⟨k, hk, rfl, hall⟩ := hrel
    by_cases hlt : k < s.size
    · rcases Bool.eq_false_or_eq_true (isInner s[k]) with h1 | h1
      · go_wp2_with (first | (go_at_call 162; refine (sInner_any s[k] _).mono ?_; rintro e _ ⟨rfl, rfl⟩))
        go_round
        case rel =>
          refine ⟨k + 1, by omega, by go_num, Lib.hid fun j h hj => ?_⟩
          by_cases e : j = k
          · subst e; exact h1
          · exact hall.out j h (by omega)
        case measure => simp [intOf]; omega
      · go_wp2_with (first | (go_at_call 162; refine (sInner_any s[k] _).mono ?_; rintro e _ ⟨rfl, rfl⟩))
        go_ret
        refine ⟨ret_bool ?_, rfl⟩
        have : s.data.toList.all isInner = false := by
          rw [Bool.eq_false_iff]; intro h
          rw [allB_at.1 h k hlt] at h1; cases h1
        simp [isWordB, this]
    · obtain rfl : k = s.size := by omega
      have hA : s.data.toList.all isInner = true := allB_at.2 fun j h => hall.out j h h
      by_cases h1 : 1 ≤ s.size
      · have hH := head_at s (by omega)
        have hF : isWordB s = (inB s.size 1 12 && isLetter s[0]) := by
          rw [isWordB, hA, hH, Bool.and_true, inB]
          rw [Bool.eq_iff_iff]; simp only [Bool.and_eq_true, decide_eq_true_eq]
          constructor
          · rintro ⟨⟨h1, h2⟩, h3⟩; exact ⟨⟨by omega, by omega⟩, h3⟩
          · rintro ⟨⟨h1, h2⟩, h3⟩; exact ⟨⟨by omega, by omega⟩, h3⟩
        rcases Bool.eq_false_or_eq_true (inB s.size 1 12) with h2 | h2
        · go_wp2_with (first | (go_at_call 92; refine (l01In_any _ _ _ _).mono ?_; rintro e _ ⟨rfl, rfl⟩) | (go_at_call 163; refine (sLetter_any s[0] _).mono ?_; rintro e _ ⟨rfl, rfl⟩))
          go_ret
          exact ⟨ret_bool (by rw [hF, h2]; simp), rfl⟩
        · go_wp2_with (first | (go_at_call 92; refine (l01In_any _ _ _ _).mono ?_; rintro e _ ⟨rfl, rfl⟩) | (go_at_call 163; refine (sLetter_any s[0] _).mono ?_; rintro e _ ⟨rfl, rfl⟩))
          go_ret
          exact ⟨ret_bool (by rw [hF, h2]; simp), rfl⟩
      · have h2 : inB s.size 1 12 = false := by rw [inB]; simp; omega
        have hF : isWordB s = false := by rw [isWordB]; simp; omega
        go_wp2_with (first | (go_at_call 92; refine (l01In_any _ _ _ _).mono ?_; rintro e _ ⟨rfl, rfl⟩))
        go_ret
        exact ⟨ret_bool (by rw [hF]), rfl⟩
theorem run_any (p : UInt8 → Bool) (s bs : ByteArray) (a : Nat) (w : World) (hs : s.size ≤ 1048576) (ha : a ≤ s.size) (hp : ∀ b : UInt8, decide (0 ≤ Lib.indexByte bs.data.toList b) = p b) :
    Calls Tryd.prog 161 #[.string s, .int .i64 a, .string bs] w fun e w' => e = .returned (.int .i64 (runOf p s a)) ∧ w = w' := by
  have HP := Lib.hid hp; clear hp
  go_enter Tryd.func161, Tryd.ntmps161
  go_wp2_with fail
  go_loop [7] (fun i => ∃ k : Nat, a + k ≤ s.size ∧ i = .int .i64 k ∧ Hid (runOf p s a = k + runOf p s (a + k))) (fun i => s.size - (intOf i).toNat)
  case atStart => exact ⟨0, by omega, rfl, Lib.hid (by simp)⟩
  case round =>
    obtain ⟨k, hk, rfl, hr⟩ := hrel
    by_cases hlt : a + k < s.size
    · have hst := runOf_step (p := p) hlt
      have hb := HP.out s[a + k]
      rcases Bool.eq_false_or_eq_true (p s[a + k]) with h1 | h1
      · rw [h1] at hb hst
        have h0 : 0 ≤ Lib.indexByte bs.data.toList s[a + k] := of_decide_eq_true hb
        have HA := Lib.hid (show runOf p s a = (k + 1) + runOf p s (a + (k + 1)) by have := hr.out; rw [if_pos rfl] at hst; rw [← Nat.add_assoc]; omega)
        clear hst
        go_wp2_with (first | (go_at_call 160; refine (strIdx bs s[a + k] _).mono ?_; rintro e _ ⟨rfl, rfl⟩))
        go_round
        case rel => exact ⟨k + 1, by omega, by go_num, HA⟩
        case measure => simp [intOf]; omega
      · rw [h1] at hb hst
        have h0 : ¬ 0 ≤ Lib.indexByte bs.data.toList s[a + k] := of_decide_eq_false hb
        have HA := Lib.hid (show runOf p s a = k by have := hr.out; rw [if_neg (by simp)] at hst; omega)
        clear hst
        go_wp2_with (first | (go_at_call 160; refine (strIdx bs s[a + k] _).mono ?_; rintro e _ ⟨rfl, rfl⟩))
        go_ret
        exact ⟨ret_int (by rw [HA.out]), rfl⟩
    · have hend := runOf_end (p := p) (s := s) (k := a + k) (by omega)
      have HA := Lib.hid (show runOf p s a = k by have := hr.out; omega)
      clear hend
      go_wp2_with fail
      go_ret
      exact ⟨ret_int (by rw [HA.out]), rfl⟩
theorem iIsWord_any (s : ByteArray) (w : World) (hs : s.size ≤ 1048576) : Calls Tryd.prog 132 #[.string s] w fun e w' => e = .returned (.bool (isWordB s)) ∧ w = w' := by
  go_enter Tryd.func132, Tryd.ntmps132
  by_cases h2 : inB s.size 1 12 = true
  · have hb : 1 ≤ s.size ∧ s.size ≤ 12 := by rw [inB] at h2; simp at h2; omega
    have hlt : 0 < s.size := by omega
    have hH := head_at s hlt
    have hL := at_letters s[0]
    have hF : isWordB s = (isLetter s[0] && s.data.toList.all isInner) := by rw [isWordB, hH]; simp; intros; omega
    rcases Bool.eq_false_or_eq_true (isLetter s[0]) with h3 | h3
    · rw [h3] at hL
      have hL' : 0 ≤ Lib.indexByte lettersB.data.toList s[0] := of_decide_eq_true hL
      rcases Bool.eq_false_or_eq_true (s.data.toList.all isInner) with h4 | h4
      · have h5 := (runOf_all isInner s).2 h4
        go_wp2_with (first | (go_at_call 94; refine (within_any _ _ _ _).mono ?_; rintro e _ ⟨rfl, rfl⟩) | (go_at_call 160; refine (strIdx lettersB s[0] _).mono ?_; rintro e _ ⟨rfl, rfl⟩) | (go_at_call 161; refine (run_any isInner s wordB 0 _ hs (by omega) at_word).mono ?_; rintro e _ ⟨rfl, rfl⟩))
        go_ret
        exact ⟨ret_bool (by rw [hF, h3, h4]; simp [h5]), rfl⟩
      · have h5 : ¬ runOf isInner s 0 = s.size := fun h => by rw [(runOf_all isInner s).1 h] at h4; cases h4
        go_wp2_with (first | (go_at_call 94; refine (within_any _ _ _ _).mono ?_; rintro e _ ⟨rfl, rfl⟩) | (go_at_call 160; refine (strIdx lettersB s[0] _).mono ?_; rintro e _ ⟨rfl, rfl⟩) | (go_at_call 161; refine (run_any isInner s wordB 0 _ hs (by omega) at_word).mono ?_; rintro e _ ⟨rfl, rfl⟩))
        go_ret
        exact ⟨ret_bool (by rw [hF, h3, h4]; simp; omega), rfl⟩
    · rw [h3] at hL
      have hL' : ¬ 0 ≤ Lib.indexByte lettersB.data.toList s[0] := of_decide_eq_false hL
      go_wp2_with (first | (go_at_call 94; refine (within_any _ _ _ _).mono ?_; rintro e _ ⟨rfl, rfl⟩) | (go_at_call 160; refine (strIdx lettersB s[0] _).mono ?_; rintro e _ ⟨rfl, rfl⟩))
      go_ret
      exact ⟨ret_bool (by rw [hF, h3]; simp), rfl⟩
  · have h2' : inB s.size 1 12 = false := by simpa using h2
    have hF : isWordB s = false := by rw [inB] at h2'; rw [isWordB]; simp at h2' ⊢; omega
    go_wp2_with (first | (go_at_call 94; refine (within_any _ _ _ _).mono ?_; rintro e _ ⟨rfl, rfl⟩))
    go_ret
    exact ⟨ret_bool (by rw [hF]), rfl⟩
end Go.Proofs.YteielmihlfakgaaDoor
