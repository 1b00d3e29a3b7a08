/- Contracts: bytes of strings. -/
import Derived.Lib.Strings
import Derived.Lib.Slices
import Derived.Lib.Walk
import Derived.Lib.Bytealg
import Derived.Test.YteielmihlfakgaaDoorProg
import Derived.Test.YteielmihlfakgaaDoorBase
namespace Go.Proofs.YteielmihlfakgaaDoor
open Go Go.Proofs Go.RowKit
set_option linter.unusedVariables false
set_option linter.unusedSimpArgs false
set_option maxRecDepth 100000
set_option maxHeartbeats 1000000 in
theorem sliteIndexByte (s : ByteArray) (c : Int) (w : World) :
    Calls Tryd.prog 172 #[.string s, .int .u8 c] w fun e w' => e = .returned (.int .i64 (Lib.indexByte s.data.toList c.toNat.toUInt8)) ∧ w = w' := by
  go_enter Tryd.func172, Tryd.ntmps172
  go_wp2
  rw [run_callFunc_extern Tryd.func178 (by kernel_rfl) (by kernel_rfl) (by kernel_rfl) (e := Extern.BytealgIndexByte.indexByte) (by kernel_rfl), Lib.run_indexByteString]
  simp only [Result.andThen]
  rw [Oper.upon_value]
  go_wp2
  go_ret
  exact ⟨rfl, rfl⟩
theorem stringsIndexByte (s : ByteArray) (c : Int) (w : World) :
    Calls Tryd.prog 160 #[.string s, .int .u8 c] w fun e w' => e = .returned (.int .i64 (Lib.indexByte s.data.toList c.toNat.toUInt8)) ∧ w = w' := by
  go_enter Tryd.func160, Tryd.ntmps160
  go_wp2_with (go_at_call 172; refine (sliteIndexByte _ _ _).mono ?_; rintro e w' ⟨rfl, rfl⟩)
  go_ret
  exact ⟨rfl, rfl⟩
theorem u8_back (b : UInt8) : ((b.toNat : Int)).toNat.toUInt8 = b := by simp
theorem strIdx (s : ByteArray) (b : UInt8) (w : World) :
    Calls Tryd.prog 160 #[.string s, .int .u8 b.toNat] w fun e w' => e = .returned (.int .i64 (Lib.indexByte s.data.toList b)) ∧ w = w' := by
  have := stringsIndexByte s b.toNat w
  rwa [u8_back] at this
def isLetter (b : UInt8) : Bool := decide (97 ≤ b.toNat) && decide (b.toNat ≤ 122)
def isDigit (b : UInt8) : Bool := decide (48 ≤ b.toNat) && decide (b.toNat ≤ 57)
def isInner (b : UInt8) : Bool := isLetter b || isDigit b || decide (b.toNat = 95)
theorem all_bytes {p : UInt8 → Bool} (h : (List.range 256).all (fun n => p n.toUInt8) = true) (b : UInt8) : p b = true := by
  have := List.all_eq_true.1 h b.toNat (List.mem_range.2 b.toNat_lt)
  simpa using this
def lettersB : ByteArray := ⟨#[97, 98, 99, 100, 101, 102, 103, 104, 105, 106, 107, 108, 109, 110, 111, 112, 113, 114, 115, 116, 117, 118, 119, 120, 121, 122]⟩
def digitsB : ByteArray := ⟨#[48, 49, 50, 51, 52, 53, 54, 55, 56, 57]⟩
def wordB : ByteArray := ⟨#[97, 98, 99, 100, 101, 102, 103, 104, 105, 106, 107, 108, 109, 110, 111, 112, 113, 114, 115, 116, 117, 118, 119, 120, 121, 122, 48, 49, 50, 51, 52, 53, 54, 55, 56, 57, 95]⟩
theorem at_letters (b : UInt8) : decide (0 ≤ Lib.indexByte lettersB.data.toList b) = isLetter b := by
  have := all_bytes (p := fun b => decide (0 ≤ Lib.indexByte lettersB.data.toList b) == isLetter b) (by decide +kernel) b
  exact eq_of_beq this
theorem at_digits (b : UInt8) : decide (0 ≤ Lib.indexByte digitsB.data.toList b) = isDigit b := by
  have := all_bytes (p := fun b => decide (0 ≤ Lib.indexByte digitsB.data.toList b) == isDigit b) (by decide +kernel) b
  exact eq_of_beq this
theorem at_word (b : UInt8) : decide (0 ≤ Lib.indexByte wordB.data.toList b) = isInner b := by
  have := all_bytes (p := fun b => decide (0 ≤ Lib.indexByte wordB.data.toList b) == isInner b) (by decide +kernel) b
  exact eq_of_beq this
/-- How many bytes from place k on are of a kind. -/
def runOf (p : UInt8 → Bool) (s : ByteArray) (k : Nat) : Nat := ((s.data.toList.drop k).takeWhile p).length
theorem drop_at (s : ByteArray) (k : Nat) (h : k < s.size) : s.data.toList.drop k = s[k] :: s.data.toList.drop (k + 1) := by
  have hl : k < s.data.toList.length := by simpa using h
  rw [List.drop_eq_getElem_cons hl]; rfl
theorem drop_end (s : ByteArray) (k : Nat) (h : s.size ≤ k) : s.data.toList.drop k = [] := by
  apply List.drop_of_length_le
  simpa using h
theorem runOf_step {p : UInt8 → Bool} {s : ByteArray} {k : Nat} (h : k < s.size) : runOf p s k = if p s[k] = true then runOf p s (k + 1) + 1 else 0 := by
  unfold runOf
  rw [drop_at s k h, List.takeWhile_cons]
  split <;> simp_all
theorem runOf_end {p : UInt8 → Bool} {s : ByteArray} {k : Nat} (h : s.size ≤ k) : runOf p s k = 0 := by
  unfold runOf
  rw [drop_end s k h]; rfl
theorem runOf_le (p : UInt8 → Bool) (s : ByteArray) (k : Nat) : runOf p s k ≤ s.size - k := by
  unfold runOf
  refine Nat.le_trans (List.takeWhile_sublist _).length_le ?_
  rw [List.length_drop]
  exact Nat.le_refl _
theorem allB_at {p : UInt8 → Bool} {s : ByteArray} : (s.data.toList.all p = true) ↔ ∀ k (h : k < s.size), p s[k] = true := by
  rw [List.all_eq_true]
  constructor
  · intro h k hk
    exact h _ (List.getElem_mem (l := s.data.toList) (n := k) (by simpa using hk))
  · intro h x hx
    obtain ⟨k, hk, rfl⟩ := List.mem_iff_getElem.1 hx
    exact h k (by simpa using hk)
theorem takeWhile_all {α : Type} {p : α → Bool} : ∀ (l : List α), ((l.takeWhile p).length = l.length) ↔ l.all p = true
  | [] => by simp
  | a :: l => by
    rw [List.takeWhile_cons]
    by_cases h : p a = true
    · simp [h, takeWhile_all l]
    · simp [h]
theorem runOf_all (p : UInt8 → Bool) (s : ByteArray) : (runOf p s 0 = s.size) ↔ s.data.toList.all p = true := by
  unfold runOf
  rw [List.drop_zero]
  have := takeWhile_all (p := p) s.data.toList
  rwa [Array.length_toList] at this
def isWordB (s : ByteArray) : Bool := decide (1 ≤ s.size) && decide (s.size ≤ 12) && (isLetter (s.data.toList.headD 0) && s.data.toList.all isInner)
theorem head_at (s : ByteArray) (h : 0 < s.size) : s.data.toList.headD 0 = s[0] := by
  have := drop_at s 0 h
  rw [List.drop_zero] at this
  rw [this]; rfl
theorem sLetter_any (b : UInt8) (w : World) : Calls Tryd.prog 163 #[.int .u8 b.toNat] w fun e w' => e = .returned (.bool (isLetter b)) ∧ w = w' := by
  go_enter Tryd.func163, Tryd.ntmps163
  go_wp2_with fail
  all_goals go_ret
  all_goals refine ⟨ret_bool ?_, rfl⟩
  all_goals unfold isLetter
  all_goals (rw [Bool.eq_iff_iff]; simp only [Bool.and_eq_true, decide_eq_true_eq, Bool.false_eq_true, false_iff, true_iff]; omega)
theorem sDigit_any (b : UInt8) (w : World) : Calls Tryd.prog 173 #[.int .u8 b.toNat] w fun e w' => e = .returned (.bool (isDigit b)) ∧ w = w' := by
  go_enter Tryd.func173, Tryd.ntmps173
  go_wp2_with fail
  all_goals go_ret
  all_goals refine ⟨ret_bool ?_, rfl⟩
  all_goals unfold isDigit
  all_goals (rw [Bool.eq_iff_iff]; simp only [Bool.and_eq_true, decide_eq_true_eq, Bool.false_eq_true, false_iff, true_iff]; omega)
theorem sInner_any (b : UInt8) (w : World) : Calls Tryd.prog 162 #[.int .u8 b.toNat] w fun e w' => e = .returned (.bool (isInner b)) ∧ w = w' := by
  go_enter Tryd.func162, Tryd.ntmps162
  rcases Bool.eq_false_or_eq_true (isLetter b) with h1 | h1
  · go_wp2_with (refine (sLetter_any b _).mono ?_; rintro e w' ⟨rfl, rfl⟩)
    go_ret
    exact ⟨ret_bool (by simp [isInner, h1]), rfl⟩
  · rcases Bool.eq_false_or_eq_true (isDigit b) with h2 | h2
    · go_wp2_with (first | (go_at_call 163; refine (sLetter_any b _).mono ?_; rintro e w' ⟨rfl, rfl⟩) | (go_at_call 173; refine (sDigit_any b _).mono ?_; rintro e w' ⟨rfl, rfl⟩))
      go_ret
      exact ⟨ret_bool (by simp [isInner, h1, h2]), rfl⟩
    · go_wp2_with (first | (go_at_call 163; refine (sLetter_any b _).mono ?_; rintro e w' ⟨rfl, rfl⟩) | (go_at_call 173; refine (sDigit_any b _).mono ?_; rintro e w' ⟨rfl, rfl⟩))
      go_ret
      refine ⟨ret_bool ?_, rfl⟩
      simp only [isInner, h1, h2, Bool.false_or]
      rw [Bool.eq_iff_iff, beq_iff_eq, decide_eq_true_eq]; omega
end Go.Proofs.YteielmihlfakgaaDoor
