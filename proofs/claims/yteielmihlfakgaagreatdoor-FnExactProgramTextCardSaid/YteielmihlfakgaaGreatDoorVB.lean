/- Contracts: the laws' helpers on lists of numbers. -/
import Derived.Lib.Strings
import Derived.Lib.Slices
import Derived.Lib.Walk
import Derived.Lib.Bytealg
import Derived.Laws.AppendOwn
import Derived.Deep.Upon
import Derived.Lib.AppendZerosOnto
import Derived.Lib.AppendZeros
import Derived.Test.YteielmihlfakgaaGreatDoorProg
import Derived.Test.YteielmihlfakgaaGreatDoorVA
namespace Go.Proofs.YteielmihlfakgaaGreatDoor
open Go Go.Proofs Go.RowKit
set_option linter.unusedVariables false
set_option linter.unusedSimpArgs false
set_option maxRecDepth 100000
theorem infoInt : (Tryz.prog.info? 2).map (fun i => (i.zero, i.size, i.bytes)) = some (some (.int .i64 0), 1, 8) := by kernel_rfl
def szL (n : Nat) (left : Int) : Int := if (n:Int) ≤ left then left - n else -1
theorem szL_bd {n : Nat} {left : Int} (h : 0 ≤ szL n left) : (n : Int) ≤ left ∧ szL n left = left - n := by
  unfold szL at *; split at h <;> simp_all
theorem szL_range {n : Nat} {left B : Int} (h0 : 0 ≤ left) (h : left ≤ B) : -1 ≤ szL n left ∧ szL n left ≤ B := by
  unfold szL; split <;> omega
def marks (k n : Nat) : List Int := (List.range n).map fun i => ((k + i : Nat) : Int)
theorem marks_length (k n : Nat) : (marks k n).length = n := by simp [marks]
theorem marks_get (k n i : Nat) (h : i < n) : (marks k n)[i]'(by rw [marks_length]; exact h) = ((k + i : Nat) : Int) := by simp [marks]
theorem marks_set (xs : List Int) (k i : Nat) (h : i < xs.length) : (marks k i ++ xs.drop i).set i ((k + i : Nat) : Int) = marks k (i + 1) ++ xs.drop (i + 1) := by
  rw [List.set_append, if_neg (by rw [marks_length]; omega), marks_length, Nat.sub_self, List.drop_eq_getElem_cons h, List.set_cons_zero]
  simp [marks, List.range_succ]
/-- A function that marks: it turns the one block of its slice. -/
def Marked (v : Value) (base n : Nat) (k : Nat) (e : TypeId) (w : World) (en : Ending) (w' : World) : Prop :=
  en = .returned (.int .i64 ((k + n : Nat) : Int)) ∧ Only v w w' ∧ w'.ownsRow base e 1 v n ((marks k n).map (Value.int .i64))
end Go.Proofs.YteielmihlfakgaaGreatDoor
/- Contracts: bytes of strings. -/
namespace Go.Proofs.YteielmihlfakgaaGreatDoor
open Go Go.Proofs Go.RowKit
set_option linter.unusedVariables false
set_option linter.unusedSimpArgs false
set_option maxRecDepth 100000
set_option maxHeartbeats 1000000 in
theorem sliteIndexByte (s : ByteArray) (c : Int) (w : World) :
    Calls Tryz.prog 173 #[.string s, .int .u8 c] w fun e w' => e = .returned (.int .i64 (Lib.indexByte s.data.toList c.toNat.toUInt8)) ∧ w = w' := by
  go_enter Tryz.func173, Tryz.ntmps173
  go_wp2
  rw [run_callFunc_extern Tryz.func190 (by kernel_rfl) (by kernel_rfl) (by kernel_rfl) (e := Extern.BytealgIndexByte.indexByte) (by kernel_rfl), Lib.run_indexByteString]
  simp only [Result.andThen]
  rw [Oper.upon_value]
  go_wp2
  go_ret
  exact ⟨rfl, rfl⟩
theorem stringsIndexByte (s : ByteArray) (c : Int) (w : World) :
    Calls Tryz.prog 161 #[.string s, .int .u8 c] w fun e w' => e = .returned (.int .i64 (Lib.indexByte s.data.toList c.toNat.toUInt8)) ∧ w = w' := by
  go_enter Tryz.func161, Tryz.ntmps161
  go_wp2_with (go_at_call 173; refine (sliteIndexByte _ _ _).mono ?_; rintro e w' ⟨rfl, rfl⟩)
  go_ret
  exact ⟨rfl, rfl⟩
theorem u8_back (b : UInt8) : ((b.toNat : Int)).toNat.toUInt8 = b := by simp
theorem strIdx (s : ByteArray) (b : UInt8) (w : World) :
    Calls Tryz.prog 161 #[.string s, .int .u8 b.toNat] w fun e w' => e = .returned (.int .i64 (Lib.indexByte s.data.toList b)) ∧ w = w' := by
  have := stringsIndexByte s b.toNat w
  rwa [u8_back] at this
def isLetter (b : UInt8) : Bool := decide (97 ≤ b.toNat) && decide (b.toNat ≤ 122)
def isDigit (b : UInt8) : Bool := decide (48 ≤ b.toNat) && decide (b.toNat ≤ 57)
def isInner (b : UInt8) : Bool := isLetter b || isDigit b || decide (b.toNat = 95)
theorem all_bytes {p : UInt8 → Bool} (h : (List.range 256).all (fun n => p n.toUInt8) = true) (b : UInt8) : p b = true := by
  have := List.all_eq_true.1 h b.toNat (List.mem_range.2 b.toNat_lt)
  simpa using this
def lettersB : ByteArray := ⟨#[97, 98, 99, 100, 101, 102, 103, 104, 105, 106, 107, 108, 109, 110, 111, 112, 113, 114, 115, 116, 117, 118, 119, 120, 121, 122]⟩
def digitsB : ByteArray := ⟨#[48, 49, 50, 51, 52, 53, 54, 55, 56, 57]⟩
def wordB : ByteArray := ⟨#[97, 98, 99, 100, 101, 102, 103, 104, 105, 106, 107, 108, 109, 110, 111, 112, 113, 114, 115, 116, 117, 118, 119, 120, 121, 122, 48, 49, 50, 51, 52, 53, 54, 55, 56, 57, 95]⟩
theorem at_letters (b : UInt8) : decide (0 ≤ Lib.indexByte lettersB.data.toList b) = isLetter b := by
  have := all_bytes (p := fun b => decide (0 ≤ Lib.indexByte lettersB.data.toList b) == isLetter b) (by decide +kernel) b
  exact eq_of_beq this
theorem at_digits (b : UInt8) : decide (0 ≤ Lib.indexByte digitsB.data.toList b) = isDigit b := by
  have := all_bytes (p := fun b => decide (0 ≤ Lib.indexByte digitsB.data.toList b) == isDigit b) (by decide +kernel) b
  exact eq_of_beq this
theorem at_word (b : UInt8) : decide (0 ≤ Lib.indexByte wordB.data.toList b) = isInner b := by
  have := all_bytes (p := fun b => decide (0 ≤ Lib.indexByte wordB.data.toList b) == isInner b) (by decide +kernel) b
  exact eq_of_beq this
/-- How many bytes from place k on are of a kind. -/
def runOf (p : UInt8 → Bool) (s : ByteArray) (k : Nat) : Nat := ((s.data.toList.drop k).takeWhile p).length
theorem drop_at (s : ByteArray) (k : Nat) (h : k < s.size) : s.data.toList.drop k = s[k] :: s.data.toList.drop (k + 1) := by
  have hl : k < s.data.toList.length := by simpa using h
  rw [List.drop_eq_getElem_cons hl]; rfl
theorem drop_end (s : ByteArray) (k : Nat) (h : s.size ≤ k) : s.data.toList.drop k = [] := by
  apply List.drop_of_length_le
  simpa using h
theorem runOf_step {p : UInt8 → Bool} {s : ByteArray} {k : Nat} (h : k < s.size) : runOf p s k = if p s[k] = true then runOf p s (k + 1) + 1 else 0 := by
  unfold runOf
  rw [drop_at s k h, List.takeWhile_cons]
  split <;> simp_all
theorem runOf_end {p : UInt8 → Bool} {s : ByteArray} {k : Nat} (h : s.size ≤ k) : runOf p s k = 0 := by
  unfold runOf
  rw [drop_end s k h]; rfl
theorem runOf_le (p : UInt8 → Bool) (s : ByteArray) (k : Nat) : runOf p s k ≤ s.size - k := by
  unfold runOf
  refine Nat.le_trans (List.takeWhile_sublist _).length_le ?_
  rw [List.length_drop]
  exact Nat.le_refl _
theorem allB_at {p : UInt8 → Bool} {s : ByteArray} : (s.data.toList.all p = true) ↔ ∀ k (h : k < s.size), p s[k] = true := by
  rw [List.all_eq_true]
  constructor
  · intro h k hk
    exact h _ (List.getElem_mem (l := s.data.toList) (n := k) (by simpa using hk))
  · intro h x hx
    obtain ⟨k, hk, rfl⟩ := List.mem_iff_getElem.1 hx
    exact h k (by simpa using hk)
theorem takeWhile_all {α : Type} {p : α → Bool} : ∀ (l : List α), ((l.takeWhile p).length = l.length) ↔ l.all p = true
  | [] => by simp
  | a :: l => by
    rw [List.takeWhile_cons]
    by_cases h : p a = true
    · simp [h, takeWhile_all l]
    · simp [h]
theorem runOf_all (p : UInt8 → Bool) (s : ByteArray) : (runOf p s 0 = s.size) ↔ s.data.toList.all p = true := by
  unfold runOf
  rw [List.drop_zero]
  have := takeWhile_all (p := p) s.data.toList
  rwa [Array.length_toList] at this
def isWordB (s : ByteArray) : Bool := decide (1 ≤ s.size) && decide (s.size ≤ 12) && (isLetter (s.data.toList.headD 0) && s.data.toList.all isInner)
theorem head_at (s : ByteArray) (h : 0 < s.size) : s.data.toList.headD 0 = s[0] := by
  have := drop_at s 0 h
  rw [List.drop_zero] at this
  rw [this]; rfl
theorem sLetter_any (b : UInt8) (w : World) : Calls Tryz.prog 159 #[.int .u8 b.toNat] w fun e w' => e = .returned (.bool (isLetter b)) ∧ w = w' := by
  go_enter Tryz.func159, Tryz.ntmps159
  go_wp2_with fail
  all_goals go_ret
  all_goals refine ⟨ret_bool ?_, rfl⟩
  all_goals unfold isLetter
  all_goals (rw [Bool.eq_iff_iff]; simp only [Bool.and_eq_true, decide_eq_true_eq, Bool.false_eq_true, false_iff, true_iff]; omega)
theorem sDigit_any (b : UInt8) (w : World) : Calls Tryz.prog 182 #[.int .u8 b.toNat] w fun e w' => e = .returned (.bool (isDigit b)) ∧ w = w' := by
  go_enter Tryz.func182, Tryz.ntmps182
  go_wp2_with fail
  all_goals go_ret
  all_goals refine ⟨ret_bool ?_, rfl⟩
  all_goals unfold isDigit
  all_goals (rw [Bool.eq_iff_iff]; simp only [Bool.and_eq_true, decide_eq_true_eq, Bool.false_eq_true, false_iff, true_iff]; omega)
theorem sInner_any (b : UInt8) (w : World) : Calls Tryz.prog 158 #[.int .u8 b.toNat] w fun e w' => e = .returned (.bool (isInner b)) ∧ w = w' := by
  go_enter Tryz.func158, Tryz.ntmps158
  rcases Bool.eq_false_or_eq_true (isLetter b) with h1 | h1
  · go_wp2_with (refine (sLetter_any b _).mono ?_; rintro e w' ⟨rfl, rfl⟩)
    go_ret
    exact ⟨ret_bool (by simp [isInner, h1]), rfl⟩
  · rcases Bool.eq_false_or_eq_true (isDigit b) with h2 | h2
    · go_wp2_with (first | (go_at_call 159; refine (sLetter_any b _).mono ?_; rintro e w' ⟨rfl, rfl⟩) | (go_at_call 182; refine (sDigit_any b _).mono ?_; rintro e w' ⟨rfl, rfl⟩))
      go_ret
      exact ⟨ret_bool (by simp [isInner, h1, h2]), rfl⟩
    · go_wp2_with (first | (go_at_call 159; refine (sLetter_any b _).mono ?_; rintro e w' ⟨rfl, rfl⟩) | (go_at_call 182; refine (sDigit_any b _).mono ?_; rintro e w' ⟨rfl, rfl⟩))
      go_ret
      refine ⟨ret_bool ?_, rfl⟩
      simp only [isInner, h1, h2, Bool.false_or]
      rw [Bool.eq_iff_iff, beq_iff_eq, decide_eq_true_eq]; omega
end Go.Proofs.YteielmihlfakgaaGreatDoor
/- Contracts: the library's functions on slices that take a function, at lists of numbers. -/
namespace Go.Proofs.YteielmihlfakgaaGreatDoor
open Go Go.Proofs Go.RowKit
set_option linter.unusedVariables false
set_option linter.unusedSimpArgs false
set_option maxRecDepth 100000
def RetVal (w : World) (v : Value) (e : Ending) (w' : World) : Prop := e = .returned v ∧ New w w'
def idx {α : Type} (p : α → Bool) (xs : List α) : Int := match xs.findIdx? p with | some i => (i : Int) | none => -1
theorem idx_none {α : Type} {p : α → Bool} {xs : List α} (h : xs.findIdx? p = none) : idx p xs = -1 := by simp [idx, h]
theorem idx_some {α : Type} {p : α → Bool} {xs : List α} {i : Nat} (h : xs.findIdx? p = some i) : idx p xs = i := by simp [idx, h]
theorem idx_any {α : Type} (p : α → Bool) (xs : List α) : decide (0 ≤ idx p xs) = xs.any p := by
  cases h : xs.findIdx? p with
  | none =>
    rw [idx_none h]
    have := List.findIdx?_eq_none_iff.1 h
    have h2 : xs.any p = false := by simpa using this
    rw [h2]; rfl
  | some i =>
    rw [idx_some h]
    obtain ⟨hi, hp, _⟩ := List.findIdx?_eq_some_iff_getElem.1 h
    have h2 : xs.any p = true := List.any_eq_true.2 ⟨xs[i], List.getElem_mem hi, hp⟩
    rw [h2]; simp
theorem take_find {α : Type} {p : α → Bool} {xs : List α} {k : Nat} (hk : k < xs.length) (h : (xs.take k).findIdx? p = none) : (p xs[k] = true → xs.findIdx? p = some k) ∧ (p xs[k] = false → (xs.take (k + 1)).findIdx? p = none) := by
  have h1 := List.findIdx?_eq_none_iff.1 h
  have hlt : ∀ (j : Nat) (hj : j < k), p (xs[j]'(by omega)) = false := fun j hj => by
    have := h1 (xs[j]'(by omega)) (List.mem_iff_getElem.2 ⟨j, by simp; omega, by simp⟩)
    simpa using this
  refine ⟨fun hp => List.findIdx?_eq_some_iff_getElem.2 ⟨hk, hp, fun j hj => by simpa using hlt j hj⟩, fun hp => ?_⟩
  rw [List.findIdx?_eq_none_iff]
  intro x hx
  rw [List.take_succ_eq_append_getElem hk, List.mem_append] at hx
  rcases hx with hx | hx
  · simpa using h1 x hx
  · have : x = xs[k] := by simpa using hx
    rw [this]; simpa using hp
set_option maxHeartbeats 400000 in
theorem indexI_any (x : Int) (v : Value) (xs : List Int) (w : World) (hv : RdI w v xs) :
    Calls Tryz.prog 193 #[v, .int .i64 x] w fun e w' => e = .returned (.int .i64 (idx (fun y => x == y) xs)) ∧ w = w' := by
  obtain ⟨a, cap, rfl, hm, HC⟩ := hv.open
  clear hv
  go_enter Tryz.func193, Tryz.ntmps193
  go_wp2_with fail
  go_loop [8] (fun i => ∃ k : Nat, k ≤ xs.length ∧ i = .int .i64 k ∧ Hid ((xs.take k).findIdx? (fun y => x == y) = none)) (fun i => xs.length - (intOf i).toNat)
  case atStart => exact ⟨0, Nat.zero_le _, rfl, rfl⟩
  case round =>
    obtain ⟨k, hk, rfl, hpre⟩ := hrel
    by_cases hlt : k < xs.length
    · obtain ⟨b, off, rfl, hbl, hx⟩ := HC.out w (New.refl w) k hlt
      have HT := Lib.hid (take_find hlt hpre.out)
      rcases Bool.eq_false_or_eq_true (x == xs[k]) with h1 | h1
      · have HA := Lib.hid (idx_some (HT.out.1 h1))
        go_wp2_with fail
        go_ret
        exact ⟨ret_int HA.out.symm, rfl⟩
      · have HA := Lib.hid (HT.out.2 h1)
        go_wp2_with fail
        go_round
        case rel => exact ⟨k + 1, by omega, by go_num, HA⟩
        case measure => simp [intOf]; omega
    · obtain rfl : k = xs.length := by omega
      have HA := Lib.hid (idx_none (p := fun y => x == y) (xs := xs) (by have := hpre.out; rwa [List.take_length] at this))
      go_wp2_with fail
      go_ret
      exact ⟨ret_int HA.out.symm, rfl⟩
theorem containsI_any (x : Int) (v : Value) (xs : List Int) (w : World) (hv : RdI w v xs) :
    Calls Tryz.prog 183 #[v, .int .i64 x] w fun e w' => e = .returned (.bool (xs.any fun y => x == y)) ∧ w = w' := by
  have HV := Lib.hid hv; clear hv
  have HI := Lib.hid (idx_any (fun y => x == y) xs)
  go_enter Tryz.func183, Tryz.ntmps183
  go_wp2_with fail
  refine (indexI_any x v xs w HV.out).mono ?_
  rintro e w2 ⟨rfl, rfl⟩
  go_wp2_with fail
  go_ret
  exact ⟨ret_bool HI.out, rfl⟩
end Go.Proofs.YteielmihlfakgaaGreatDoor
/- Contracts: the library's functions on slices of strings. -/
namespace Go.Proofs.YteielmihlfakgaaGreatDoor
open Go Go.Proofs Go.RowKit
set_option linter.unusedVariables false
set_option linter.unusedSimpArgs false
set_option maxRecDepth 100000
abbrev RdS (w : World) (v : Value) (xs : List ByteArray) : Prop := Rd w v xs.length (xs.map Value.string)
theorem RdS.open {w : World} {v : Value} {xs : List ByteArray} (h : RdS w v xs) : ∃ (a : Option Addr) (cap : Nat), v = .slice a xs.length cap ∧ xs.length ≤ 9223372036854775807 ∧
    Hid (∀ (w' : World), New w w' → ∀ k (hk : k < xs.length), ∃ b off, a = some ⟨b, off, none⟩ ∧ b < w.heap.size ∧ w'.cell? ⟨b, off + k, none⟩ = some (.string xs[k])) := by
  obtain ⟨a, cap, rfl, hn, h0, hc⟩ := h
  refine ⟨a, cap, rfl, hn, Lib.hid fun w' hb k hk => ?_⟩
  obtain ⟨b, off, ha, hlt, hcell⟩ := hc k (.string xs[k]) (by simp [hk])
  exact ⟨b, off, ha, hlt, (hb.cell hlt).trans hcell⟩
set_option maxHeartbeats 400000 in
theorem indexS_any (x : ByteArray) (v : Value) (xs : List ByteArray) (w : World) (hv : RdS w v xs) :
    Calls Tryz.prog 28 #[v, .string x] w fun e w' => e = .returned (.int .i64 (idx (fun y => x.toList == y.toList) xs)) ∧ w = w' := by
  obtain ⟨a, cap, rfl, hm, HC⟩ := hv.open
  clear hv
  go_enter Tryz.func28, Tryz.ntmps28
  go_wp2_with fail
  go_loop [8] (fun i => ∃ k : Nat, k ≤ xs.length ∧ i = .int .i64 k ∧ Hid ((xs.take k).findIdx? (fun y => x.toList == y.toList) = none)) (fun i => xs.length - (intOf i).toNat)
  case atStart => exact ⟨0, Nat.zero_le _, rfl, rfl⟩
  case round =>
    obtain ⟨k, hk, rfl, hpre⟩ := hrel
    by_cases hlt : k < xs.length
    · obtain ⟨b, off, rfl, hbl, hx⟩ := HC.out w (New.refl w) k hlt
      have HT := Lib.hid (take_find hlt hpre.out)
      rcases Bool.eq_false_or_eq_true (x.toList == xs[k].toList) with h1 | h1
      · have HA := Lib.hid (idx_some (HT.out.1 h1))
        go_wp2_with fail
        go_ret
        exact ⟨ret_int HA.out.symm, rfl⟩
      · have HA := Lib.hid (HT.out.2 h1)
        go_wp2_with fail
        go_round
        case rel => exact ⟨k + 1, by omega, by go_num, HA⟩
        case measure => simp [intOf]; omega
    · obtain rfl : k = xs.length := by omega
      have HA := Lib.hid (idx_none (p := fun y => x.toList == y.toList) (xs := xs) (by have := hpre.out; rwa [List.take_length] at this))
      go_wp2_with fail
      go_ret
      exact ⟨ret_int HA.out.symm, rfl⟩
theorem containsS_any (x : ByteArray) (v : Value) (xs : List ByteArray) (w : World) (hv : RdS w v xs) :
    Calls Tryz.prog 73 #[v, .string x] w fun e w' => e = .returned (.bool (xs.any fun y => x.toList == y.toList)) ∧ w = w' := by
  have HV := Lib.hid hv; clear hv
  have HI := Lib.hid (idx_any (fun y => x.toList == y.toList) xs)
  go_enter Tryz.func73, Tryz.ntmps73
  go_wp2_with fail
  refine (indexS_any x v xs _ HV.out).mono ?_
  rintro e w2 ⟨rfl, rfl⟩
  go_wp2_with fail
  go_ret
  exact ⟨ret_bool HI.out, rfl⟩
end Go.Proofs.YteielmihlfakgaaGreatDoor
/- Contracts: keywords. -/
namespace Go.Proofs.YteielmihlfakgaaGreatDoor
open Go Go.Proofs Go.RowKit
set_option linter.unusedVariables false
set_option linter.unusedSimpArgs false
set_option maxRecDepth 100000
/-- The keyword's index, or -1. -/
def keyOf (s : ByteArray) : Int := idx (fun y => s.toList == y.toList) keys
def isKey (s : ByteArray) : Bool := keys.any fun y => s.toList == y.toList
theorem keyOf_isKey (s : ByteArray) : decide (0 ≤ keyOf s) = isKey s := idx_any _ _
theorem iIsKeyword_any (s : ByteArray) (w : World) (hk : KW w) :
    Calls Tryz.prog 134 #[.string s] w fun e w' => e = .returned (.bool (isKey s)) ∧ w = w' := by
  go_enter Tryz.func134, Tryz.ntmps134
  go_wp2_with fail
  refine (containsS_any s _ keys _ hk).mono ?_
  rintro e w2 ⟨rfl, rfl⟩
  go_wp2_with fail
  go_ret
  exact ⟨rfl, rfl⟩
theorem sKeywords_any (w : World) :
    Calls Tryz.prog 42 #[] w fun e w' => ∃ r, e = .returned r ∧ New w w' ∧ RdS w' r keys := by
  go_enter Tryz.func42, Tryz.ntmps42
  go_wp2_with fail
  go_ret
  refine ⟨_, rfl, (by repeat (first | with_reducible exact New.refl _ | with_reducible assumption | with_reducible refine New.drew ?_ | with_reducible refine New.drewN ?_ _ | with_reducible refine New.alloc ?_ _ | with_reducible refine New.setCell ?_ (by first | (simp; done) | (simp; omega) | omega) _ | with_reducible refine New.trans ?_ (by with_reducible assumption))), _, 17, rfl, by decide, ⟨(fun h => by cases h), Nat.le_refl _⟩, fun j u hu => ⟨_, 0, rfl, by simp, ?_⟩⟩
  rw [Nat.zero_add, cell_alloc_new _ _ _ _ _ rfl, ← Array.getElem?_toList]
  exact hu
set_option maxHeartbeats 400000 in
theorem sKeyword_any (x : ByteArray) (w : World) :
    Calls Tryz.prog 77 #[.string x] w fun e w' => e = .returned (.int .i64 (keyOf x)) ∧ New w w' := by
  go_enter Tryz.func77, Tryz.ntmps77
  go_wp2_with fail
  refine (sKeywords_any _).mono ?_; rintro e w1 ⟨r, rfl, b1, hr⟩
  obtain ⟨a, cap, rfl, hm, HC⟩ := hr.open; clear hr
  obtain ⟨c1, f1⟩ := b1.rules
  have z1 := b1.size
  try simp only [World.size_alloc, World.size_drew, World.heap_drewN, World.size_setCell] at z1
  go_wp2_with fail
  go_loop [4] (fun i => ∃ k : Nat, k ≤ keys.length ∧ i = .int .i64 k ∧ Hid ((keys.take k).findIdx? (fun y => x.toList == y.toList) = none)) (fun i => keys.length - (intOf i).toNat)
  case atStart => exact ⟨0, Nat.zero_le _, rfl, rfl⟩
  case round =>
    obtain ⟨k, hk, rfl, hpre⟩ := hrel
    by_cases hlt : k < keys.length
    · obtain ⟨b, off, rfl, hbl, hx⟩ := HC.out _ (New.refl _) k hlt
      have HT := Lib.hid (take_find hlt hpre.out)
      rcases Bool.eq_false_or_eq_true (keys[k].toList == x.toList) with h1 | h1
      · have HA := Lib.hid (idx_some (HT.out.1 (by rwa [Bool.beq_comm])))
        go_wp2_with fail
        go_ret
        exact ⟨ret_int HA.out.symm, (by repeat (first | with_reducible exact New.refl _ | with_reducible assumption | with_reducible refine New.drew ?_ | with_reducible refine New.drewN ?_ _ | with_reducible refine New.alloc ?_ _ | with_reducible refine New.setCell ?_ (by first | (simp; done) | (simp; omega) | omega) _ | with_reducible refine New.trans ?_ (by with_reducible assumption)))⟩
      · have HA := Lib.hid (HT.out.2 (by rwa [Bool.beq_comm]))
        go_wp2_with fail
        go_round
        case rel => exact ⟨k + 1, by omega, by go_num, HA⟩
        case measure => simp [intOf]; omega
    · obtain rfl : k = keys.length := by omega
      have HA := Lib.hid (idx_none (p := fun y => x.toList == y.toList) (xs := keys) (by have := hpre.out; rwa [List.take_length] at this))
      go_wp2_with fail
      go_ret
      exact ⟨ret_int HA.out.symm, (by repeat (first | with_reducible exact New.refl _ | with_reducible assumption | with_reducible refine New.drew ?_ | with_reducible refine New.drewN ?_ _ | with_reducible refine New.alloc ?_ _ | with_reducible refine New.setCell ?_ (by first | (simp; done) | (simp; omega) | omega) _ | with_reducible refine New.trans ?_ (by with_reducible assumption)))⟩
end Go.Proofs.YteielmihlfakgaaGreatDoor
/- Contracts: numbers and intervals. -/
namespace Go.Proofs.YteielmihlfakgaaGreatDoor
open Go Go.Proofs Go.RowKit
set_option linter.unusedVariables false
set_option linter.unusedSimpArgs false
set_option maxRecDepth 100000
theorem within_any (x a b : Int) (w : World) :
    Calls Tryz.prog 37 #[.int .i64 x, .int .i64 a, .int .i64 b] w fun e w' => e = .returned (.bool (inB x a b)) ∧ w = w' := by
  go_enter Tryz.func37, Tryz.ntmps37
  go_wp2_with fail
  all_goals (go_ret; refine ⟨?_, rfl⟩; unfold inB; first | (simp_all; done) | (simp; omega))
theorem l01In_any (x a b : Int) (w : World) :
    Calls Tryz.prog 40 #[.int .i64 x, .int .i64 a, .int .i64 b] w fun e w' => e = .returned (.bool (inB x a b)) ∧ w = w' := by
  go_enter Tryz.func40, Tryz.ntmps40
  go_wp2_with fail
  all_goals (go_ret; refine ⟨?_, rfl⟩; unfold inB; first | (simp_all; done) | (simp; omega))
def isVal (x : Int) : Bool := inB x (-1000000000000) 1000000000000
def isIv (lo hi : Int) : Bool := isVal lo && isVal hi && decide (lo ≤ hi)
def ivIn (lo hi a b : Int) : Bool := isIv lo hi && decide (a ≤ lo) && decide (hi ≤ b)
end Go.Proofs.YteielmihlfakgaaGreatDoor
/- Contracts: words. -/
namespace Go.Proofs.YteielmihlfakgaaGreatDoor
open Go Go.Proofs Go.RowKit
set_option linter.unusedVariables false
set_option linter.unusedSimpArgs false
set_option maxRecDepth 100000
theorem sWord_any (s : ByteArray) (w : World) (hs : s.size ≤ 1048576) : Calls Tryz.prog 128 #[.string s] w fun e w' => e = .returned (.bool (isWordB s)) ∧ w = w' := by
  go_enter Tryz.func128, Tryz.ntmps128
  go_wp2_with fail
  go_loop [3] (fun i => ∃ k : Nat, k ≤ s.size ∧ i = .int .i64 k ∧ Hid (∀ j (h : j < s.size), j < k → isInner s[j] = true)) (fun i => s.size - (intOf i).toNat)
  case atStart => exact ⟨0, Nat.zero_le _, rfl, Lib.hid (fun j h hj => by omega)⟩
  case round =>
    obtain ⟨k, hk, rfl, hall⟩ := hrel
    by_cases hlt : k < s.size
    · rcases Bool.eq_false_or_eq_true (isInner s[k]) with h1 | h1
      · go_wp2_with (first | (go_at_call 158; refine (sInner_any s[k] _).mono ?_; rintro e _ ⟨rfl, rfl⟩))
        go_round
        case rel =>
          refine ⟨k + 1, by omega, by go_num, Lib.hid fun j h hj => ?_⟩
          by_cases e : j = k
          · subst e; exact h1
          · exact hall.out j h (by omega)
        case measure => simp [intOf]; omega
      · go_wp2_with (first | (go_at_call 158; refine (sInner_any s[k] _).mono ?_; rintro e _ ⟨rfl, rfl⟩))
        go_ret
        refine ⟨ret_bool ?_, rfl⟩
        have : s.data.toList.all isInner = false := by
          rw [Bool.eq_false_iff]; intro h
          rw [allB_at.1 h k hlt] at h1; cases h1
        simp [isWordB, this]
    · obtain rfl : k = s.size := by omega
      have hA : s.data.toList.all isInner = true := allB_at.2 fun j h => hall.out j h h
      by_cases h1 : 1 ≤ s.size
      · have hH := head_at s (by omega)
        have hF : isWordB s = (inB s.size 1 12 && isLetter s[0]) := by
          rw [isWordB, hA, hH, Bool.and_true, inB]
          rw [Bool.eq_iff_iff]; simp only [Bool.and_eq_true, decide_eq_true_eq]
          constructor
          · rintro ⟨⟨h1, h2⟩, h3⟩; exact ⟨⟨by omega, by omega⟩, h3⟩
          · rintro ⟨⟨h1, h2⟩, h3⟩; exact ⟨⟨by omega, by omega⟩, h3⟩
        rcases Bool.eq_false_or_eq_true (inB s.size 1 12) with h2 | h2
        · go_wp2_with (first | (go_at_call 40; refine (l01In_any _ _ _ _).mono ?_; rintro e _ ⟨rfl, rfl⟩) | (go_at_call 159; refine (sLetter_any s[0] _).mono ?_; rintro e _ ⟨rfl, rfl⟩))
          go_ret
          exact ⟨ret_bool (by rw [hF, h2]; simp), rfl⟩
        · go_wp2_with (first | (go_at_call 40; refine (l01In_any _ _ _ _).mono ?_; rintro e _ ⟨rfl, rfl⟩) | (go_at_call 159; refine (sLetter_any s[0] _).mono ?_; rintro e _ ⟨rfl, rfl⟩))
          go_ret
          exact ⟨ret_bool (by rw [hF, h2]; simp), rfl⟩
      · have h2 : inB s.size 1 12 = false := by rw [inB]; simp; omega
        have hF : isWordB s = false := by rw [isWordB]; simp; omega
        go_wp2_with (first | (go_at_call 40; refine (l01In_any _ _ _ _).mono ?_; rintro e _ ⟨rfl, rfl⟩))
        go_ret
        exact ⟨ret_bool (by rw [hF]), rfl⟩
theorem run_any (p : UInt8 → Bool) (s bs : ByteArray) (a : Nat) (w : World) (hs : s.size ≤ 1048576) (ha : a ≤ s.size) (hp : ∀ b : UInt8, decide (0 ≤ Lib.indexByte bs.data.toList b) = p b) :
    Calls Tryz.prog 162 #[.string s, .int .i64 a, .string bs] w fun e w' => e = .returned (.int .i64 (runOf p s a)) ∧ w = w' := by
  have HP := Lib.hid hp; clear hp
  go_enter Tryz.func162, Tryz.ntmps162
  go_wp2_with fail
  go_loop [7] (fun i => ∃ k : Nat, a + k ≤ s.size ∧ i = .int .i64 k ∧ Hid (runOf p s a = k + runOf p s (a + k))) (fun i => s.size - (intOf i).toNat)
  case atStart => exact ⟨0, by omega, rfl, Lib.hid (by simp)⟩
  case round =>
    obtain ⟨k, hk, rfl, hr⟩ := hrel
    by_cases hlt : a + k < s.size
    · have hst := runOf_step (p := p) hlt
      have hb := HP.out s[a + k]
      rcases Bool.eq_false_or_eq_true (p s[a + k]) with h1 | h1
      · rw [h1] at hb hst
        have h0 : 0 ≤ Lib.indexByte bs.data.toList s[a + k] := of_decide_eq_true hb
        have HA := Lib.hid (show runOf p s a = (k + 1) + runOf p s (a + (k + 1)) by have := hr.out; rw [if_pos rfl] at hst; rw [← Nat.add_assoc]; omega)
        clear hst
        go_wp2_with (first | (go_at_call 161; refine (strIdx bs s[a + k] _).mono ?_; rintro e _ ⟨rfl, rfl⟩))
        go_round
        case rel => exact ⟨k + 1, by omega, by go_num, HA⟩
        case measure => simp [intOf]; omega
      · rw [h1] at hb hst
        have h0 : ¬ 0 ≤ Lib.indexByte bs.data.toList s[a + k] := of_decide_eq_false hb
        have HA := Lib.hid (show runOf p s a = k by have := hr.out; rw [if_neg (by simp)] at hst; omega)
        clear hst
        go_wp2_with (first | (go_at_call 161; refine (strIdx bs s[a + k] _).mono ?_; rintro e _ ⟨rfl, rfl⟩))
        go_ret
        exact ⟨ret_int (by rw [HA.out]), rfl⟩
    · have hend := runOf_end (p := p) (s := s) (k := a + k) (by omega)
      have HA := Lib.hid (show runOf p s a = k by have := hr.out; omega)
      clear hend
      go_wp2_with fail
      go_ret
      exact ⟨ret_int (by rw [HA.out]), rfl⟩
theorem iIsWord_any (s : ByteArray) (w : World) (hs : s.size ≤ 1048576) : Calls Tryz.prog 133 #[.string s] w fun e w' => e = .returned (.bool (isWordB s)) ∧ w = w' := by
  go_enter Tryz.func133, Tryz.ntmps133
  by_cases h2 : inB s.size 1 12 = true
  · have hb : 1 ≤ s.size ∧ s.size ≤ 12 := by rw [inB] at h2; simp at h2; omega
    have hlt : 0 < s.size := by omega
    have hH := head_at s hlt
    have hL := at_letters s[0]
    have hF : isWordB s = (isLetter s[0] && s.data.toList.all isInner) := by rw [isWordB, hH]; simp; intros; omega
    rcases Bool.eq_false_or_eq_true (isLetter s[0]) with h3 | h3
    · rw [h3] at hL
      have hL' : 0 ≤ Lib.indexByte lettersB.data.toList s[0] := of_decide_eq_true hL
      rcases Bool.eq_false_or_eq_true (s.data.toList.all isInner) with h4 | h4
      · have h5 := (runOf_all isInner s).2 h4
        go_wp2_with (first | (go_at_call 37; refine (within_any _ _ _ _).mono ?_; rintro e _ ⟨rfl, rfl⟩) | (go_at_call 161; refine (strIdx lettersB s[0] _).mono ?_; rintro e _ ⟨rfl, rfl⟩) | (go_at_call 162; refine (run_any isInner s wordB 0 _ hs (by omega) at_word).mono ?_; rintro e _ ⟨rfl, rfl⟩))
        go_ret
        exact ⟨ret_bool (by rw [hF, h3, h4]; simp [h5]), rfl⟩
      · have h5 : ¬ runOf isInner s 0 = s.size := fun h => by rw [(runOf_all isInner s).1 h] at h4; cases h4
        go_wp2_with (first | (go_at_call 37; refine (within_any _ _ _ _).mono ?_; rintro e _ ⟨rfl, rfl⟩) | (go_at_call 161; refine (strIdx lettersB s[0] _).mono ?_; rintro e _ ⟨rfl, rfl⟩) | (go_at_call 162; refine (run_any isInner s wordB 0 _ hs (by omega) at_word).mono ?_; rintro e _ ⟨rfl, rfl⟩))
        go_ret
        exact ⟨ret_bool (by rw [hF, h3, h4]; simp; omega), rfl⟩
    · rw [h3] at hL
      have hL' : ¬ 0 ≤ Lib.indexByte lettersB.data.toList s[0] := of_decide_eq_false hL
      go_wp2_with (first | (go_at_call 37; refine (within_any _ _ _ _).mono ?_; rintro e _ ⟨rfl, rfl⟩) | (go_at_call 161; refine (strIdx lettersB s[0] _).mono ?_; rintro e _ ⟨rfl, rfl⟩))
      go_ret
      exact ⟨ret_bool (by rw [hF, h3]; simp), rfl⟩
  · have h2' : inB s.size 1 12 = false := by simpa using h2
    have hF : isWordB s = false := by rw [inB] at h2'; rw [isWordB]; simp at h2' ⊢; omega
    go_wp2_with (first | (go_at_call 37; refine (within_any _ _ _ _).mono ?_; rintro e _ ⟨rfl, rfl⟩))
    go_ret
    exact ⟨ret_bool (by rw [hF]), rfl⟩
end Go.Proofs.YteielmihlfakgaaGreatDoor
/- Contracts: words and names. -/
namespace Go.Proofs.YteielmihlfakgaaGreatDoor
open Go Go.Proofs Go.RowKit
set_option linter.unusedVariables false
set_option linter.unusedSimpArgs false
set_option maxRecDepth 100000
def isNameB (s : ByteArray) : Bool := isWordB s && !isKey s
theorem iIsName_any (s : ByteArray) (w : World) (hs : s.size ≤ 1048576) (hk : KW w) : Calls Tryz.prog 94 #[.string s] w fun e w' => e = .returned (.bool (isNameB s)) ∧ w = w' := by
  have HK := Lib.hid hk; clear hk
  go_enter Tryz.func94, Tryz.ntmps94
  rcases Bool.eq_false_or_eq_true (isWordB s) with h1 | h1
  · go_wp2_with (first | (go_at_call 133; refine (iIsWord_any s _ hs).mono ?_; rintro e _ ⟨rfl, rfl⟩) | (go_at_call 134; refine (iIsKeyword_any s _ HK.out).mono ?_; rintro e _ ⟨rfl, rfl⟩))
    go_ret
    exact ⟨ret_bool (by simp [isNameB, h1]), rfl⟩
  · go_wp2_with (first | (go_at_call 133; refine (iIsWord_any s _ hs).mono ?_; rintro e _ ⟨rfl, rfl⟩) | (go_at_call 134; refine (iIsKeyword_any s _ HK.out).mono ?_; rintro e _ ⟨rfl, rfl⟩))
    go_ret
    exact ⟨ret_bool (by simp [isNameB, h1]), rfl⟩
theorem sName_any (s : ByteArray) (w : World) (hs : s.size ≤ 1048576) : Calls Tryz.prog 85 #[.string s] w fun e w' => e = .returned (.bool (isNameB s)) ∧ New w w' := by
  have HK := Lib.hid (keyOf_isKey s)
  go_enter Tryz.func85, Tryz.ntmps85
  rcases Bool.eq_false_or_eq_true (isWordB s) with h1 | h1
  · go_wp2_with (first | (go_at_call 128; refine (sWord_any s _ hs).mono ?_; rintro e _ ⟨rfl, rfl⟩))
    refine (sKeyword_any s _).mono ?_; rintro e w1 ⟨rfl, b1⟩
    try with_reducible replace b1 := New.undrawN b1
    try with_reducible replace b1 := New.undraw b1
    obtain ⟨c1, f1⟩ := b1.rules
    have z1 := b1.size
    try simp only [World.size_alloc, World.size_drew, World.heap_drewN, World.size_setCell] at z1
    go_wp2_with fail
    go_ret
    refine ⟨ret_bool ?_, (by repeat (first | with_reducible exact New.refl _ | with_reducible assumption | with_reducible refine New.drew ?_ | with_reducible refine New.drewN ?_ _ | with_reducible refine New.alloc ?_ _ | with_reducible refine New.setCell ?_ (by first | (simp; done) | (simp; omega) | omega) _ | with_reducible refine New.trans ?_ (by with_reducible assumption)))⟩
    rw [isNameB, h1, ← HK.out, Bool.true_and, Bool.eq_iff_iff]; simp
  · go_wp2_with (first | (go_at_call 128; refine (sWord_any s _ hs).mono ?_; rintro e _ ⟨rfl, rfl⟩))
    go_ret
    exact ⟨ret_bool (by simp [isNameB, h1]), (by repeat (first | with_reducible exact New.refl _ | with_reducible assumption | with_reducible refine New.drew ?_ | with_reducible refine New.drewN ?_ _ | with_reducible refine New.alloc ?_ _ | with_reducible refine New.setCell ?_ (by first | (simp; done) | (simp; omega) | omega) _ | with_reducible refine New.trans ?_ (by with_reducible assumption)))⟩
end Go.Proofs.YteielmihlfakgaaGreatDoor
/- Contracts: terms. -/
namespace Go.Proofs.YteielmihlfakgaaGreatDoor
open Go Go.Proofs Go.RowKit
set_option linter.unusedVariables false
set_option linter.unusedSimpArgs false
set_option maxRecDepth 100000
structure TermV where
  kind : Int
  name : ByteArray
  num : Int
abbrev TermV.val (t : TermV) : Value := .agg #[.int .i64 t.kind, .string t.name, .int .i64 t.num]
def takes (k : Int) : Int := if k = 1 ∨ k = 2 ∨ k = 3 then 0 else if k = 4 ∨ k = 7 ∨ k = 8 ∨ k = 9 then 1 else 2
theorem takes_bd (k : Int) : 0 ≤ takes k ∧ takes k ≤ 2 := by unfold takes; split; · omega
                                                             · split <;> omega
def counts (k : Int) : Bool := decide (k = 7 ∨ k = 8 ∨ k = 11 ∨ k = 12)
theorem counts1 : counts 1 = false := by decide
theorem in00 : inB 0 0 9999 = true := by decide
theorem in0 (n : Int) : inB n 0 9999 = false → ¬ n = 0 := by rintro h rfl; cases h
theorem toList_len (s : ByteArray) : s.toList.length = s.size := by rw [ByteArray.toList_eq]; simp
theorem name_ne {s : ByteArray} (h : isNameB s = true) : s.toList.isEmpty = false := by
  have : 1 ≤ s.size := by rw [isNameB, isWordB] at h; simp at h; omega
  have hl := toList_len s
  cases hs : s.toList with
  | nil => rw [hs] at hl; simp at hl; omega
  | cons a l => rfl
def termB (k : Int) (s : ByteArray) (n : Int) : Bool := inB k 1 12 && (if counts k = true then inB n 0 9999 else decide (n = 0)) && (if k = 1 then isNameB s else s.toList.isEmpty)
theorem sTakes_any (k : Int) (w : World) : Calls Tryz.prog 90 #[.int .i64 k] w fun e w' => e = .returned (.int .i64 (takes k)) ∧ w = w' := by
  go_enter Tryz.func90, Tryz.ntmps90
  go_wp2_with fail
  all_goals go_ret
  all_goals refine ⟨ret_int ?_, rfl⟩
  all_goals (unfold takes; (try simp only [beq_iff_eq, bne_iff_ne, beq_eq_false_iff_ne, bne_eq_false_iff_eq, decide_eq_true_eq, decide_eq_false_iff_not, ne_eq, Bool.not_eq_true, Bool.not_eq_false] at *); first | (rw [if_pos (by omega)]; done) | (rw [if_neg (by omega), if_pos (by omega)]; done) | (rw [if_neg (by omega), if_neg (by omega)]; done))
theorem iArguments_any (k : Int) (w : World) : Calls Tryz.prog 126 #[.int .i64 k] w fun e w' => e = .returned (.int .i64 (takes k)) ∧ w = w' := by
  go_enter Tryz.func126, Tryz.ntmps126
  go_wp2_with fail
  all_goals go_ret
  all_goals refine ⟨ret_int ?_, rfl⟩
  all_goals (unfold takes; (try simp only [beq_iff_eq, bne_iff_ne, beq_eq_false_iff_ne, bne_eq_false_iff_eq, decide_eq_true_eq, decide_eq_false_iff_not, ne_eq, Bool.not_eq_true, Bool.not_eq_false] at *); first | (rw [if_pos (by omega)]; done) | (rw [if_neg (by omega), if_pos (by omega)]; done) | (rw [if_neg (by omega), if_neg (by omega)]; done))
theorem sCounts_any (k : Int) (w : World) : Calls Tryz.prog 131 #[.int .i64 k] w fun e w' => e = .returned (.bool (counts k)) ∧ w = w' := by
  go_enter Tryz.func131, Tryz.ntmps131
  go_wp2_with fail
  all_goals go_ret
  all_goals refine ⟨ret_bool ?_, rfl⟩
  all_goals (unfold counts; rw [Bool.eq_iff_iff]; simp_all; try omega)
theorem iNumbered_any (k : Int) (w : World) : Calls Tryz.prog 124 #[.int .i64 k] w fun e w' => e = .returned (.bool (counts k)) ∧ w = w' := by
  go_enter Tryz.func124, Tryz.ntmps124
  go_wp2_with fail
  all_goals go_ret
  all_goals refine ⟨ret_bool ?_, rfl⟩
  all_goals (unfold counts; rw [Bool.eq_iff_iff]; simp_all; try omega)
theorem sKind_any (k : Int) (w : World) : Calls Tryz.prog 156 #[.int .i64 k] w fun e w' => e = .returned (.bool (inB k 1 12)) ∧ w = w' := by
  go_enter Tryz.func156, Tryz.ntmps156
  go_wp2_with (first | (go_at_call 40; refine (l01In_any _ _ _ _).mono ?_; rintro e _ ⟨rfl, rfl⟩))
  go_ret
  exact ⟨rfl, rfl⟩
set_option maxHeartbeats 1000000 in
theorem sTerm_any (k : Int) (s : ByteArray) (n : Int) (w : World) (hs : s.size ≤ 1048576) :
    Calls Tryz.prog 121 #[.agg #[.int .i64 k, .string s, .int .i64 n]] w fun e w' => e = .returned (.bool (termB k s n)) ∧ New w w' := by
  go_enter Tryz.func121, Tryz.ntmps121
  go_wp2_with (first | (go_at_call 156; refine (sKind_any k _).mono ?_; rintro e _ ⟨rfl, rfl⟩) | (go_at_call 40; refine (l01In_any _ _ _ _).mono ?_; rintro e _ ⟨rfl, rfl⟩) | (go_at_call 131; refine (sCounts_any k _).mono ?_; rintro e _ ⟨rfl, rfl⟩) | (go_at_call 85; refine (sName_any s _ hs).mono ?_; rintro e _ ⟨rfl, hnw⟩))
  all_goals go_ret
  all_goals refine ⟨ret_bool ?_, (by repeat (first | with_reducible exact New.refl _ | with_reducible assumption | with_reducible refine New.drew ?_ | with_reducible refine New.drewN ?_ _ | with_reducible refine New.alloc ?_ _ | with_reducible refine New.setCell ?_ (by first | (simp; done) | (simp; omega) | omega) _ | with_reducible refine New.trans ?_ (by with_reducible assumption)))⟩
  all_goals (have hN := name_ne (s := s); have hC := counts1; have hZ := in0 n; have hZ0 := in00)
  all_goals (rcases Bool.eq_false_or_eq_true s.toList.isEmpty with he | he <;> rcases Bool.eq_false_or_eq_true (isNameB s) with hn | hn <;> by_cases hk1 : k = 1 <;> simp_all [termB])
set_option maxHeartbeats 1000000 in
theorem iTerm_any (k : Int) (s : ByteArray) (n : Int) (w : World) (hs : s.size ≤ 1048576) (hk : KW w) :
    Calls Tryz.prog 81 #[.agg #[.int .i64 k, .string s, .int .i64 n]] w fun e w' => e = .returned (.bool (termB k s n)) ∧ New w w' := by
  have HK := Lib.hid hk; clear hk
  go_enter Tryz.func81, Tryz.ntmps81
  go_wp2_with (first | (go_at_call 37; refine (within_any _ _ _ _).mono ?_; rintro e _ ⟨rfl, rfl⟩) | (go_at_call 124; refine (iNumbered_any k _).mono ?_; rintro e _ ⟨rfl, rfl⟩) | (go_at_call 94; refine (iIsName_any s _ hs (HK.out.new (by repeat (first | with_reducible exact New.refl _ | with_reducible assumption | with_reducible refine New.drew ?_ | with_reducible refine New.drewN ?_ _ | with_reducible refine New.alloc ?_ _ | with_reducible refine New.setCell ?_ (by first | (simp; done) | (simp; omega) | omega) _ | with_reducible refine New.trans ?_ (by with_reducible assumption))))).mono ?_; rintro e _ ⟨rfl, rfl⟩))
  all_goals go_ret
  all_goals refine ⟨ret_bool ?_, (by repeat (first | with_reducible exact New.refl _ | with_reducible assumption | with_reducible refine New.drew ?_ | with_reducible refine New.drewN ?_ _ | with_reducible refine New.alloc ?_ _ | with_reducible refine New.setCell ?_ (by first | (simp; done) | (simp; omega) | omega) _ | with_reducible refine New.trans ?_ (by with_reducible assumption)))⟩
  all_goals (have hN := name_ne (s := s); have hC := counts1; have hZ := in0 n; have hZ0 := in00)
  all_goals (rcases Bool.eq_false_or_eq_true s.toList.isEmpty with he | he <;> rcases Bool.eq_false_or_eq_true (isNameB s) with hn | hn <;> by_cases hk1 : k = 1 <;> simp_all [termB])
end Go.Proofs.YteielmihlfakgaaGreatDoor
/- Contracts: blocks and their states. -/
namespace Go.Proofs.YteielmihlfakgaaGreatDoor
open Go Go.Proofs Go.RowKit
set_option linter.unusedVariables false
set_option linter.unusedSimpArgs false
set_option maxRecDepth 100000
def isBlk (k : Int) (s : ByteArray) (n : Int) : Bool := termB k s n && decide (7 ≤ k)
theorem isBlk_bd {k : Int} {s : ByteArray} {n : Int} (h : isBlk k s n = true) : 7 ≤ k ∧ k ≤ 12 ∧ 0 ≤ n ∧ n ≤ 9999 := by
  rw [isBlk, termB, inB] at h
  simp only [Bool.and_eq_true, decide_eq_true_eq] at h
  obtain ⟨⟨⟨⟨h1, h2⟩, h3⟩, _⟩, h4⟩ := h
  refine ⟨h4, h2, ?_⟩
  split at h3
  · rw [inB] at h3; simpa using h3
  · have : n = 0 := by simpa using h3
    omega
def posB (k n a b c : Int) : Bool :=
  if k = 9 ∨ k = 10 then inB a 0 1 && b == 0 && c == 0
  else if k = 11 then inB a 0 n && inB b 0 1 && c == 0
  else if k = 12 then b == 0 && (inB a 0 n && c == 0 || a == n + 1 && c == 1)
  else inB a 0 n && b == 0 && c == 0
theorem inS (n : Int) : inB (n + 1) 0 n = false := by rw [inB]; simp; omega
theorem sIsBlock_any (k : Int) (s : ByteArray) (n : Int) (w : World) (hs : s.size ≤ 1048576) :
    Calls Tryz.prog 78 #[.agg #[.int .i64 k, .string s, .int .i64 n]] w fun e w' => e = .returned (.bool (isBlk k s n)) ∧ New w w' := by
  go_enter Tryz.func78, Tryz.ntmps78
  rcases Bool.eq_false_or_eq_true (termB k s n) with h1 | h1
  · go_wp2_with fail
    refine (sTerm_any k s n _ hs).mono ?_; rintro e w1 ⟨rfl, b1⟩
    try with_reducible replace b1 := New.undrawN b1
    try with_reducible replace b1 := New.undraw b1
    obtain ⟨c1, f1⟩ := b1.rules
    have z1 := b1.size
    try simp only [World.size_alloc, World.size_drew, World.heap_drewN, World.size_setCell] at z1
    have z1_0 : w.heap.size < w1.heap.size := by omega
    go_wp2_with fail
    go_ret
    exact ⟨ret_bool (by rw [isBlk, h1]; simp), (by repeat (first | with_reducible exact New.refl _ | with_reducible assumption | with_reducible refine New.drew ?_ | with_reducible refine New.drewN ?_ _ | with_reducible refine New.alloc ?_ _ | with_reducible refine New.setCell ?_ (by first | (simp; done) | (simp; omega) | omega) _ | with_reducible refine New.trans ?_ (by with_reducible assumption)))⟩
  · go_wp2_with fail
    refine (sTerm_any k s n _ hs).mono ?_; rintro e w1 ⟨rfl, b1⟩
    try with_reducible replace b1 := New.undrawN b1
    try with_reducible replace b1 := New.undraw b1
    obtain ⟨c1, f1⟩ := b1.rules
    have z1 := b1.size
    try simp only [World.size_alloc, World.size_drew, World.heap_drewN, World.size_setCell] at z1
    have z1_0 : w.heap.size < w1.heap.size := by omega
    go_wp2_with fail
    go_ret
    exact ⟨ret_bool (by rw [isBlk, h1]; simp), (by repeat (first | with_reducible exact New.refl _ | with_reducible assumption | with_reducible refine New.drew ?_ | with_reducible refine New.drewN ?_ _ | with_reducible refine New.alloc ?_ _ | with_reducible refine New.setCell ?_ (by first | (simp; done) | (simp; omega) | omega) _ | with_reducible refine New.trans ?_ (by with_reducible assumption)))⟩
theorem iIsBlock_any (k : Int) (s : ByteArray) (n : Int) (w : World) (hs : s.size ≤ 1048576) (hk : KW w) :
    Calls Tryz.prog 47 #[.agg #[.int .i64 k, .string s, .int .i64 n]] w fun e w' => e = .returned (.bool (isBlk k s n)) ∧ New w w' := by
  have HK := Lib.hid hk; clear hk
  go_enter Tryz.func47, Tryz.ntmps47
  rcases Bool.eq_false_or_eq_true (termB k s n) with h1 | h1
  · go_wp2_with fail
    refine (iTerm_any k s n _ hs (HK.out.new (by repeat (first | with_reducible exact New.refl _ | with_reducible assumption | with_reducible refine New.drew ?_ | with_reducible refine New.drewN ?_ _ | with_reducible refine New.alloc ?_ _ | with_reducible refine New.setCell ?_ (by first | (simp; done) | (simp; omega) | omega) _ | with_reducible refine New.trans ?_ (by with_reducible assumption))))).mono ?_; rintro e w1 ⟨rfl, b1⟩
    try with_reducible replace b1 := New.undrawN b1
    try with_reducible replace b1 := New.undraw b1
    obtain ⟨c1, f1⟩ := b1.rules
    have z1 := b1.size
    try simp only [World.size_alloc, World.size_drew, World.heap_drewN, World.size_setCell] at z1
    have z1_0 : w.heap.size < w1.heap.size := by omega
    go_wp2_with fail
    go_ret
    exact ⟨ret_bool (by rw [isBlk, h1]; simp), (by repeat (first | with_reducible exact New.refl _ | with_reducible assumption | with_reducible refine New.drew ?_ | with_reducible refine New.drewN ?_ _ | with_reducible refine New.alloc ?_ _ | with_reducible refine New.setCell ?_ (by first | (simp; done) | (simp; omega) | omega) _ | with_reducible refine New.trans ?_ (by with_reducible assumption)))⟩
  · go_wp2_with fail
    refine (iTerm_any k s n _ hs (HK.out.new (by repeat (first | with_reducible exact New.refl _ | with_reducible assumption | with_reducible refine New.drew ?_ | with_reducible refine New.drewN ?_ _ | with_reducible refine New.alloc ?_ _ | with_reducible refine New.setCell ?_ (by first | (simp; done) | (simp; omega) | omega) _ | with_reducible refine New.trans ?_ (by with_reducible assumption))))).mono ?_; rintro e w1 ⟨rfl, b1⟩
    try with_reducible replace b1 := New.undrawN b1
    try with_reducible replace b1 := New.undraw b1
    obtain ⟨c1, f1⟩ := b1.rules
    have z1 := b1.size
    try simp only [World.size_alloc, World.size_drew, World.heap_drewN, World.size_setCell] at z1
    have z1_0 : w.heap.size < w1.heap.size := by omega
    go_wp2_with fail
    go_ret
    exact ⟨ret_bool (by rw [isBlk, h1]; simp), (by repeat (first | with_reducible exact New.refl _ | with_reducible assumption | with_reducible refine New.drew ?_ | with_reducible refine New.drewN ?_ _ | with_reducible refine New.alloc ?_ _ | with_reducible refine New.setCell ?_ (by first | (simp; done) | (simp; omega) | omega) _ | with_reducible refine New.trans ?_ (by with_reducible assumption)))⟩
def szT (s : ByteArray) (left : Int) : Int := if left - s.size < 0 then -1 else left - s.size
theorem szTerm_any (k : Int) (s : ByteArray) (n left : Int) (w : World) (hl : 0 ≤ left) (hl' : left ≤ 1048576) (hs : s.size ≤ 9223372036854775807) :
    Calls Tryz.prog 157 #[.agg #[.int .i64 k, .string s, .int .i64 n], .int .i64 left] w fun e w' => e = .returned (.int .i64 (szT s left)) ∧ New w w' := by
  go_enter Tryz.func157, Tryz.ntmps157
  by_cases h : left - s.size < 0
  · go_wp2_with fail
    go_ret
    exact ⟨ret_int (by rw [szT, if_pos h]), (by repeat (first | with_reducible exact New.refl _ | with_reducible assumption | with_reducible refine New.drew ?_ | with_reducible refine New.drewN ?_ _ | with_reducible refine New.alloc ?_ _ | with_reducible refine New.setCell ?_ (by first | (simp; done) | (simp; omega) | omega) _ | with_reducible refine New.trans ?_ (by with_reducible assumption)))⟩
  · go_wp2_with fail
    go_ret
    exact ⟨ret_int (by rw [szT, if_neg (Int.not_lt.2 (by assumption))]), (by repeat (first | with_reducible exact New.refl _ | with_reducible assumption | with_reducible refine New.drew ?_ | with_reducible refine New.drewN ?_ _ | with_reducible refine New.alloc ?_ _ | with_reducible refine New.setCell ?_ (by first | (simp; done) | (simp; omega) | omega) _ | with_reducible refine New.trans ?_ (by with_reducible assumption)))⟩
theorem toTerm_any (k : Int) (s : ByteArray) (n : Int) (w : World) :
    Calls Tryz.prog 160 #[.agg #[.int .i64 k, .string s, .int .i64 n]] w fun e w' => e = .returned (.agg #[.int .i64 k, .string s, .int .i64 n]) ∧ New w w' := by
  go_enter Tryz.func160, Tryz.ntmps160
  go_wp2_with fail
  exact bodyPost_ret (v := .agg #[.int .i64 k, .string s, .int .i64 n]) (by simp [results, Tryz.results160, go_sem]) rfl ⟨rfl, (by repeat (first | with_reducible exact New.refl _ | with_reducible assumption | with_reducible refine New.drew ?_ | with_reducible refine New.drewN ?_ _ | with_reducible refine New.alloc ?_ _ | with_reducible refine New.setCell ?_ (by first | (simp; done) | (simp; omega) | omega) _ | with_reducible refine New.trans ?_ (by with_reducible assumption)))⟩
end Go.Proofs.YteielmihlfakgaaGreatDoor
/- Contracts: the laws' helpers on lists of terms. -/
namespace Go.Proofs.YteielmihlfakgaaGreatDoor
open Go Go.Proofs Go.RowKit
set_option linter.unusedVariables false
set_option linter.unusedSimpArgs false
set_option maxRecDepth 100000
structure ETerm where (kind : Int) (name : ByteArray) (num : Int)
  deriving DecidableEq
def encTerm (x : ETerm) : List Value := [.int .i64 x.kind, .string x.name, .int .i64 x.num]
theorem encTerm_len (x : ETerm) : (encTerm x).length = 3 := rfl
def valTerm (x : ETerm) : Value := .agg #[.int .i64 x.kind, .string x.name, .int .i64 x.num]
theorem infoTerm : (Tryz.prog.info? 66).map (fun i => (i.zero, i.size, i.bytes)) = some (some (Value.agg #[Value.int .i64 0, Value.string ⟨#[]⟩, Value.int .i64 0]), 3, 32) := by kernel_rfl
theorem strEqTerm (s t : ByteArray) : (s.toList = t.toList) ↔ (s = t) := ⟨fun h => by rw [ByteArray.toList_eq, ByteArray.toList_eq] at h; exact ByteArray.ext (Array.toList_inj.1 h), fun h => by rw [h]⟩
theorem eqTerm_any (x y : ETerm) (w : World) : Calls Tryz.prog 166 #[.agg #[.int .i64 x.kind, .string x.name, .int .i64 x.num], .agg #[.int .i64 y.kind, .string y.name, .int .i64 y.num]] w fun e w' => e = .returned (.bool (decide (x = y))) ∧ New w w' := by
  obtain ⟨kind, name, num⟩ := x
  obtain ⟨kind', name', num'⟩ := y
  dsimp only
  go_enter Tryz.func166, Tryz.ntmps166
  go_wp2_with fail
  all_goals (go_ret; exact ⟨ret_bool (by simp_all [strEqTerm]), (by repeat (first | with_reducible exact New.refl _ | with_reducible assumption | with_reducible refine New.drew ?_ | with_reducible refine New.drewN ?_ _ | with_reducible refine New.alloc ?_ _ | with_reducible refine New.setCell ?_ (by first | (simp; done) | (simp; omega) | omega) _ | with_reducible refine New.trans ?_ (by with_reducible assumption)))⟩)
set_option maxHeartbeats 800000 in
theorem toTermS_any (v : Value) (xs : List ETerm) (w : World) (hv : Rd w v xs.length (xs.flatMap encTerm)) (hn : xs.length ≤ 1048576) :
    Calls Tryz.prog 132 #[v] w (RetSlice w 66 3 xs.length (xs.flatMap encTerm)) := by
  obtain ⟨a, cap, rfl, hm, HC⟩ := Rd.flat encTerm_len (by omega) hv
  clear hv
  obtain ⟨i0, hi, hz0, hz1, hz2⟩ := info_parts infoTerm
  go_enter Tryz.func132, Tryz.ntmps132
  go_wp2_with (at_make; refine wpList_make_full _ rfl _ _ 24 rfl w.heap.size 66 i0 (Value.agg #[Value.int .i64 0, Value.string ⟨#[]⟩, Value.int .i64 0]) 3 Tryz.underlying24 hi hz0 hz1 .i64 .i64 _ _ xs.length rfl rfl rfl rfl (by rw [hz2]; omega) (by unfold maxLen; omega) (Nat.le_refl _) ?_; intro w1 hown hgr)
  have b1 : New w w1 := (New.refl w).grown hgr (fun k hk => by cases hk)
  have hown1 : w1.ownsRow w.heap.size 66 3 (.slice (some ⟨w.heap.size, 0, none⟩) xs.length xs.length) xs.length ((xs.take 0).flatMap encTerm ++ (List.replicate (xs.length - 0) [Value.int .i64 0, Value.string ⟨#[]⟩, Value.int .i64 0]).flatten) := by
    have e := made_flat #[Value.int .i64 0, Value.string ⟨#[]⟩, Value.int .i64 0] xs.length (by decide)
    simp only [List.take_zero, List.flatMap_nil, List.nil_append, Nat.sub_zero]
    rw [← e]; exact hown
  clear hown hgr hz2 hz1 hz0 hi
  go_wp2_with fail
  go_loopw [4] (fun i wr => ∃ k : Nat, k ≤ xs.length ∧ i = .int .i64 k ∧ New w wr ∧ wr.ownsRow w.heap.size 66 3 (.slice (some ⟨w.heap.size, 0, none⟩) xs.length xs.length) xs.length ((xs.take k).flatMap encTerm ++ (List.replicate (xs.length - k) [Value.int .i64 0, Value.string ⟨#[]⟩, Value.int .i64 0]).flatten)) (fun i _ => xs.length - (intOf i).toNat)
  case atStart => exact ⟨0, Nat.zero_le _, rfl, b1, hown1⟩
  case round =>
    obtain ⟨k, hk, rfl, hb, hown⟩ := hrel
    clear b1 hown1
    obtain ⟨c, f⟩ := hb.rules
    by_cases hlt : k < xs.length
    · obtain ⟨b, off, rfl, hbl, hx⟩ := HC.out k hlt
      have x0 := hx 0 _ (by omega) rfl
      have x1 := hx 1 _ (by omega) rfl
      have x2 := hx 2 _ (by omega) rfl
      rw [Nat.add_zero] at x0
      replace hx := Lib.hid hx
      have hdn : ∀ i u, i < 3 → ([Value.int .i64 0, Value.string ⟨#[]⟩, Value.int .i64 0] : List Value)[i]? = some u → wr.cell? ⟨w.heap.size, k * 3 + i, none⟩ = some u := fun i u hi hu => by
        rw [hown.cellAt (k * 3 + i) (by omega), flat_zero_at encTerm 3 encTerm_len _ rfl xs k hlt i hi, hu]
      have d0 := hdn 0 _ (by omega) rfl
      have d1 := hdn 1 _ (by omega) rfl
      have d2 := hdn 2 _ (by omega) rfl
      rw [Nat.add_zero] at d0
      clear hdn
      have hwr : w.heap.size < wr.heap.size := (own_block_lt hown _ rfl).2
      have f0 := hown.frozenAt (k * 3)
      have f1 := hown.frozenAt (k * 3 + 1)
      have f2 := hown.frozenAt (k * 3 + 2)
      go_wp2_with fail
      refine (toTerm_any _ _ _ _).mono ?_; rintro e w2 ⟨rfl, b2⟩
      try with_reducible replace b2 := New.undrawN b2
      try with_reducible replace b2 := New.undraw b2
      obtain ⟨c2, f2⟩ := b2.rules
      have z2 := b2.size
      try simp only [World.size_alloc, World.size_drew, World.heap_drewN, World.size_setCell] at z2
      have z2_0 : w.heap.size < w2.heap.size := by omega
      go_wp2_with fail
      go_roundw
      case rel =>
        have h1 := ((((own_new hown b2).stored (k * 3) (.int .i64 xs[k].kind)).1.stored (k * 3 + 1) (.string xs[k].name)).1.stored (k * 3 + 2) (.int .i64 xs[k].num)).1
        have h2 := set_flat encTerm 3 encTerm_len [Value.int .i64 0, Value.string ⟨#[]⟩, Value.int .i64 0] rfl xs k hlt
        simp only [setFrom, encTerm] at h2
        rw [h2] at h1
        exact ⟨k + 1, by omega, by go_num, ((((hb.trans b2).setCell (Nat.le_refl _) _).setCell (Nat.le_refl _) _).setCell (Nat.le_refl _) _), h1⟩
      case measure => simp [intOf]; omega
    · obtain rfl : k = xs.length := by omega
      go_wp2_with fail
      go_ret
      exact ⟨_, rfl, hb, by simpa using hown⟩
def okTerm (x : ETerm) : Prop := x.name.size ≤ 9223372036854775807
def fitTerm (x : ETerm) : Prop := x.name.size ≤ 1048576
def sz1Term (x : ETerm) (left : Int) : Int := szT x.name left
theorem sz1Term_bd (x : ETerm) (left : Int) (h : 0 ≤ left) : -1 ≤ sz1Term x left ∧ sz1Term x left ≤ left := by rw [sz1Term, szT]; split <;> omega
theorem sz1Term_fit (x : ETerm) (left : Int) (h : 0 ≤ left) (h' : left ≤ 1048576) (h2 : 0 ≤ sz1Term x left) : fitTerm x := by
  rw [sz1Term, szT] at h2
  split at h2
  · omega
  · rw [fitTerm]; omega
def szETerm : List ETerm → Int → Int
  | [], left => left
  | x :: xs, left => if sz1Term x left < 0 then -1 else szETerm xs (sz1Term x left)
theorem szETerm_bd : ∀ (xs : List ETerm) (left : Int), 0 ≤ left → -1 ≤ szETerm xs left ∧ szETerm xs left ≤ left
  | [], left, h => by simp [szETerm]; omega
  | x :: xs, left, h => by
    have h1 := sz1Term_bd x left h
    rw [szETerm]
    split
    · omega
    · have h2 := szETerm_bd xs (sz1Term x left) (by omega)
      omega
theorem szETerm_fit : ∀ (xs : List ETerm) (left : Int), 0 ≤ left → left ≤ 1048576 → 0 ≤ szETerm xs left → ∀ x ∈ xs, fitTerm x
  | [], left, h, h', h2, x, hx => by cases hx
  | y :: xs, left, h, h', h2, x, hx => by
    have h1 := sz1Term_bd y left h
    rw [szETerm] at h2
    split at h2
    · omega
    · rename_i hn
      rcases List.mem_cons.1 hx with rfl | hx
      · exact sz1Term_fit _ left h h' (by omega)
      · exact szETerm_fit xs _ (by omega) (by omega) h2 x hx
def szTermS (xs : List ETerm) (left : Int) : Int := if left - xs.length < 0 then -1 else szETerm xs (left - xs.length)
theorem szTermS_bd (xs : List ETerm) (left : Int) (h : 0 ≤ left) : -1 ≤ szTermS xs left ∧ szTermS xs left ≤ left ∧ (0 ≤ szTermS xs left → (xs.length : Int) ≤ left) := by
  rw [szTermS]
  split
  · omega
  · have := szETerm_bd xs (left - xs.length) (by omega)
    omega
theorem szTermS_fit (xs : List ETerm) (left : Int) (h : 0 ≤ left) (h' : left ≤ 1048576) (h2 : 0 ≤ szTermS xs left) : ∀ x ∈ xs, fitTerm x := by
  rw [szTermS] at h2
  split at h2
  · omega
  · exact szETerm_fit xs _ (by omega) (by omega) h2
set_option maxHeartbeats 800000 in
theorem szTermS_any (v : Value) (xs : List ETerm) (left : Int) (w : World) (hv : Rd w v xs.length (xs.flatMap encTerm)) (hl : 0 ≤ left) (hl' : left ≤ 1048576) (hok : ∀ x ∈ xs, okTerm x) :
    Calls Tryz.prog 127 #[v, .int .i64 left] w fun e w' => e = .returned (.int .i64 (szTermS xs left)) ∧ New w w' := by
  obtain ⟨a, cap, rfl, hm, HC⟩ := Rd.flat encTerm_len (by omega) hv
  clear hv
  have HO := Lib.hid hok; clear hok
  by_cases h0 : left - (xs.length : Int) < 0
  · go_enter Tryz.func127, Tryz.ntmps127
    go_wp2_with fail
    go_ret
    exact ⟨ret_int (by rw [szTermS, if_pos h0]), New.refl _⟩
  · have HZ := Lib.hid (show szTermS xs left = szETerm xs (left - xs.length) by rw [szTermS, if_neg h0])
    have h1 : 0 ≤ left - (xs.length : Int) := by omega
    have hlen : xs.length ≤ 1048576 := by omega
    clear h0
    go_enter Tryz.func127, Tryz.ntmps127
    go_wp2_with fail
    go_loopw [1, 5] (fun l i wr => ∃ (k : Nat) (m : Int), k ≤ xs.length ∧ i = .int .i64 k ∧ l = .int .i64 m ∧ 0 ≤ m ∧ m ≤ 1048576 ∧ Hid (szTermS xs left = szETerm (xs.drop k) m) ∧ New w wr) (fun _ i _ => xs.length - (intOf i).toNat)
    case atStart => exact ⟨0, _, Nat.zero_le _, rfl, rfl, h1, by omega, Lib.hid (by rw [HZ.out]; simp), New.refl w⟩
    case round =>
      obtain ⟨k, m, hk, rfl, rfl, hm0, hm1, hz, hb⟩ := hrel
      obtain ⟨c, f⟩ := hb.rules
      have hzw := hb.size
      by_cases hlt : k < xs.length
      · obtain ⟨b, off, rfl, hbl, hx⟩ := HC.out k hlt
        have x0 := hx 0 _ (by omega) rfl
        have x1 := hx 1 _ (by omega) rfl
        have x2 := hx 2 _ (by omega) rfl
        rw [Nat.add_zero] at x0
        replace hx := Lib.hid hx
        have hbw : b < wr.heap.size := by omega
        have hd := Lib.hid (show xs.drop k = xs[k] :: xs.drop (k + 1) from List.drop_eq_getElem_cons hlt)
        have hbd := sz1Term_bd xs[k] m hm0
        have HX := Lib.hid (HO.out xs[k] (List.getElem_mem hlt))
        by_cases hn : sz1Term xs[k] m < 0
        · have hn' := hn
          simp only [sz1Term] at hn' hbd
          go_wp2_with fail
          refine (szTerm_any _ _ _ m _ hm0 hm1 HX.out).mono ?_; rintro e w3 ⟨rfl, b3⟩
          try with_reducible replace b3 := New.undrawN b3
          try with_reducible replace b3 := New.undraw b3
          obtain ⟨c3, f3⟩ := b3.rules
          have z3 := b3.size
          try simp only [World.size_alloc, World.size_drew, World.heap_drewN, World.size_setCell] at z3
          go_wp2_with fail
          go_ret
          exact ⟨ret_int (by rw [hz.out, hd.out, szETerm, if_pos (by omega)]), hb.trans b3⟩
        · have hn' := hn
          simp only [sz1Term] at hn' hbd
          go_wp2_with fail
          refine (szTerm_any _ _ _ m _ hm0 hm1 HX.out).mono ?_; rintro e w3 ⟨rfl, b3⟩
          try with_reducible replace b3 := New.undrawN b3
          try with_reducible replace b3 := New.undraw b3
          obtain ⟨c3, f3⟩ := b3.rules
          have z3 := b3.size
          try simp only [World.size_alloc, World.size_drew, World.heap_drewN, World.size_setCell] at z3
          go_wp2_with fail
          go_roundw
          case rel => exact ⟨k + 1, sz1Term xs[k] m, by omega, by go_num, rfl, by simp only [sz1Term]; omega, by simp only [sz1Term]; omega, Lib.hid (by rw [hz.out, hd.out, szETerm, if_neg (by omega)]), hb.trans b3⟩
          case measure => simp [intOf]; omega
      · obtain rfl : k = xs.length := by omega
        go_wp2_with fail
        go_ret
        exact ⟨ret_int (by rw [hz.out]; simp [szETerm]), hb⟩
set_option maxHeartbeats 800000 in
theorem eqTermS_any (v u : Value) (xs ys : List ETerm) (w : World) (hv : Rd w v xs.length (xs.flatMap encTerm)) (hu : Rd w u ys.length (ys.flatMap encTerm)) :
    Calls Tryz.prog 143 #[v, u] w fun e w' => e = .returned (.bool (decide (xs = ys))) ∧ New w w' := by
  obtain ⟨a, cap, rfl, hn, HC⟩ := Rd.flat encTerm_len (by omega) hv
  obtain ⟨a', cap', rfl, hn', HC'⟩ := Rd.flat encTerm_len (by omega) hu
  clear hv hu
  by_cases hlen : xs.length = ys.length
  · have hne : ((xs.length : Int) != ys.length) = false := by simp [hlen]
    have HL : Hid (xs.length = ys.length) := hlen
    have hle : xs.length ≤ ys.length := by omega
    have hge : ys.length ≤ xs.length := by omega
    clear hlen
    go_enter Tryz.func143, Tryz.ntmps143
    go_wp2_with fail
    go_loopw [5] (fun i wr => ∃ k : Nat, k ≤ xs.length ∧ i = .int .i64 k ∧ Hid (xs.take k = ys.take k) ∧ New w wr) (fun i _ => xs.length - (intOf i).toNat)
    case atStart => exact ⟨0, Nat.zero_le _, rfl, rfl, New.refl w⟩
    case round =>
      obtain ⟨k, hk, rfl, hpre, hb⟩ := hrel
      obtain ⟨c, f⟩ := hb.rules
      have hsz := hb.size
      by_cases hlt : k < xs.length
      · have hlt' : k < ys.length := by omega
        obtain ⟨b, off, rfl, hbl, hx⟩ := HC.out k hlt
        obtain ⟨b', off', rfl, hbl', hy⟩ := HC'.out k hlt'
        have hbw : b < wr.heap.size := by omega
        have hbw' : b' < wr.heap.size := by omega
        have x0 := hx 0 _ (by omega) rfl
        have x1 := hx 1 _ (by omega) rfl
        have x2 := hx 2 _ (by omega) rfl
        rw [Nat.add_zero] at x0
        have y0 := hy 0 _ (by omega) rfl
        have y1 := hy 1 _ (by omega) rfl
        have y2 := hy 2 _ (by omega) rfl
        rw [Nat.add_zero] at y0
        replace hx := Lib.hid hx
        replace hy := Lib.hid hy
        go_wp2_with fail
        have hq := fun (n : NewOf wr) b o => NewOf.cell n b o
        refine wp_region_new (by kernel_rfl) (by kernel_rfl) ?_
        repeat (first | go_big_quiet_skip | go_big_quiet_step ((first | exact newq (eqTerm_any xs[k] ys[k] _))) | quiet_step ((first | exact newq (eqTerm_any xs[k] ys[k] _))))
        refine wpQuiet_nil ?_
        rintro ⟨w3, b3⟩
        dsimp only
        try with_reducible replace b3 := New.undrawN b3
        try with_reducible replace b3 := New.undraw b3
        obtain ⟨c3, f3⟩ := b3.rules
        have z3 := b3.size
        try simp only [World.size_alloc, World.size_drew, World.heap_drewN, World.size_setCell] at z3
        go_wp2_with fail
        · go_ret
          have hh : (!decide (xs[k] = ys[k])) = true := by assumption
          refine ⟨ret_bool (Eq.symm (decide_eq_false ?_)), (by repeat (first | with_reducible exact New.refl _ | with_reducible assumption | with_reducible refine New.drew ?_ | with_reducible refine New.drewN ?_ _ | with_reducible refine New.alloc ?_ _ | with_reducible refine New.setCell ?_ (by first | (simp; done) | (simp; omega) | omega) _ | with_reducible refine New.trans ?_ (by with_reducible assumption)))⟩
          rintro rfl
          simp at hh
        · have hh : (!decide (xs[k] = ys[k])) = false := by assumption
          replace hh : xs[k] = ys[k] := by simpa using hh
          replace hh := Lib.hid hh
          go_roundw
          case rel => exact ⟨k + 1, by omega, by go_num, Lib.hid (by rw [List.take_succ_eq_append_getElem hlt, List.take_succ_eq_append_getElem hlt', hpre.out, hh.out]), (by repeat (first | with_reducible exact New.refl _ | with_reducible assumption | with_reducible refine New.drew ?_ | with_reducible refine New.drewN ?_ _ | with_reducible refine New.alloc ?_ _ | with_reducible refine New.setCell ?_ (by first | (simp; done) | (simp; omega) | omega) _ | with_reducible refine New.trans ?_ (by with_reducible assumption)))⟩
          case measure => simp [intOf]; omega
      · have hkx : k = xs.length := by omega
        have hky : k = ys.length := by omega
        have he : xs = ys := by
          have := hpre.out
          rwa [List.take_of_length_le (by omega), List.take_of_length_le (by omega)] at this
        have HE := Lib.hid he
        clear hkx hky he
        go_wp2_with fail
        go_ret
        exact ⟨ret_bool (decide_eq_true HE.out).symm, hb⟩
  · have hne : ((xs.length : Int) != ys.length) = true := by simp; omega
    go_enter Tryz.func143, Tryz.ntmps143
    go_wp2_with fail
    go_ret
    exact ⟨ret_bool (decide_eq_false (fun h => hlen (by rw [h]))).symm, New.refl w⟩











end Go.Proofs.YteielmihlfakgaaGreatDoor
/- Contracts: the heights of an expression list. -/
namespace Go.Proofs.YteielmihlfakgaaGreatDoor
open Go Go.Proofs Go.RowKit
set_option linter.unusedVariables false
set_option linter.unusedSimpArgs false
set_option maxRecDepth 100000
theorem infoI64h : (Tryz.prog.info? 2).map (fun i => (i.zero, i.size, i.bytes)) = some (some (.int .i64 0), 1, 8) := by kernel_rfl
def termE (t : ETerm) : Bool := termB t.kind t.name t.num
def hrun : List ETerm → Int → List Int → Option (List Int × Int)
  | [], n, acc => some (acc, n)
  | t :: ts, n, acc => if termE t = true ∧ takes t.kind ≤ n then hrun ts (n - takes t.kind + 1) (acc ++ [n - takes t.kind + 1]) else none
def heightsOf (ts : List ETerm) : List Int := match hrun ts 0 [] with | some (acc, _) => acc | none => []
def okH (ts : List ETerm) : Bool := match hrun ts 0 [] with | some (_, n) => n == 1 && decide (ts.length ≤ 40) | none => false
def oneH (ts : List ETerm) : Bool := match hrun ts 0 [] with | some (_, n) => n == 1 | none => false
def maxL (l : List Int) : Int := l.foldl max 0
theorem H_none {ts : List ETerm} (h : hrun ts 0 [] = none) : heightsOf ts = [] ∧ okH ts = false ∧ oneH ts = false := by
  refine ⟨?_, ?_, ?_⟩
  · rw [heightsOf, h]
  · rw [okH, h]
  · rw [oneH, h]
theorem H_some {ts : List ETerm} {acc : List Int} {n : Int} (h : hrun ts 0 [] = some (acc, n)) : heightsOf ts = acc ∧ okH ts = (n == 1 && decide (ts.length ≤ 40)) ∧ oneH ts = (n == 1) := by
  refine ⟨?_, ?_, ?_⟩
  · rw [heightsOf, h]
  · rw [okH, h]
  · rw [oneH, h]
theorem hrun_step {ts : List ETerm} {k : Nat} {n : Int} {acc : List Int} (hk : k < ts.length) (h1 : termE ts[k] = true) (h2 : takes ts[k].kind ≤ n) :
    hrun (ts.drop k) n acc = hrun (ts.drop (k + 1)) (n - takes ts[k].kind + 1) (acc ++ [n - takes ts[k].kind + 1]) := by
  rw [List.drop_eq_getElem_cons hk, hrun, if_pos ⟨h1, h2⟩]
theorem hrun_stop {ts : List ETerm} {k : Nat} {n : Int} {acc : List Int} (hk : k < ts.length) (h : termE ts[k] = false ∨ n < takes ts[k].kind) :
    hrun (ts.drop k) n acc = none := by
  rw [List.drop_eq_getElem_cons hk, hrun, if_neg]
  rintro ⟨h1, h2⟩
  rcases h with h | h
  · rw [h] at h1; cases h1
  · omega
theorem hrun_end {ts : List ETerm} {n : Int} {acc : List Int} : hrun (ts.drop ts.length) n acc = some (acc, n) := by rw [List.drop_length, hrun]
/-- A slice of numbers in new memory and a bool. -/
def RetIB (w : World) (L : List Int) (b : Bool) (e : Ending) (w' : World) : Prop := ∃ r, e = .returned (.tuple #[r, .bool b]) ∧ New w w' ∧ w'.ownsRow w.heap.size 2 1 r L.length (L.map (Value.int .i64))
set_option maxHeartbeats 1000000 in
theorem sHeights_any (v : Value) (xs : List ETerm) (w : World) (hv : Rd w v xs.length (xs.flatMap encTerm)) (hf : ∀ x ∈ xs, fitTerm x) (hn : xs.length ≤ 1048576) :
    Calls Tryz.prog 129 #[v] w (RetIB w (heightsOf xs) (okH xs)) := by
  obtain ⟨a, cap, rfl, hm, HC⟩ := Rd.flat encTerm_len (by omega) hv
  clear hv
  have HF := Lib.hid hf; clear hf
  obtain ⟨i0, hi, hz0, hz1, hz2⟩ := info_parts infoI64h
  go_enter Tryz.func129, Tryz.ntmps129
  go_wp2_with fail
  go_loopw [4, 5, 6] (fun o n i wr => ∃ (k : Nat) (m : Int) (acc : List Int), k ≤ xs.length ∧ i = .int .i64 k ∧ n = .int .i64 m ∧ 0 ≤ m ∧ m ≤ k ∧ acc.length = k ∧ Hid (hrun xs 0 [] = hrun (xs.drop k) m acc) ∧ wr.ownsRow w.heap.size 2 1 o acc.length (acc.map (Value.int .i64)) ∧ New w wr) (fun _ _ i _ => xs.length - (intOf i).toNat)
  case atStart => exact ⟨0, 0, [], Nat.zero_le _, rfl, rfl, by omega, by omega, rfl, Lib.hid (by simp), own_empty (Nat.le_refl _), (by repeat (first | with_reducible exact New.refl _ | with_reducible assumption | with_reducible refine New.drew ?_ | with_reducible refine New.drewN ?_ _ | with_reducible refine New.alloc ?_ _ | with_reducible refine New.setCell ?_ (by first | (simp; done) | (simp; omega) | omega) _ | with_reducible refine New.trans ?_ (by with_reducible assumption)))⟩
  case round =>
    obtain ⟨k, m, acc, hk, rfl, rfl, hm0, hm1, hal, hr, hown, hb⟩ := hrel
    obtain ⟨c, f'⟩ := hb.rules
    have hbz := hb.size
    by_cases hlt : k < xs.length
    · obtain ⟨b, off, rfl, hbl, hx⟩ := HC.out k hlt
      have x0 := hx 0 _ (by omega) rfl
      have x1 := hx 1 _ (by omega) rfl
      have x2 := hx 2 _ (by omega) rfl
      rw [Nat.add_zero] at x0
      replace hx := Lib.hid hx
      have hbw : b < wr.heap.size := by omega
      have HX := Lib.hid (HF.out xs[k] (List.getElem_mem hlt))
      have htb := takes_bd xs[k].kind
      rcases Bool.eq_false_or_eq_true (termE xs[k]) with h1 | h1
      · by_cases h2 : m < takes xs[k].kind
        · have HA := Lib.hid (hr.out.trans (hrun_stop (acc := acc) hlt (.inr h2)))
          simp only [termE] at h1
          go_wp2_with fail
          refine (sTerm_any _ _ _ _ HX.out).mono ?_; rintro e w1 ⟨rfl, b1⟩
          try with_reducible replace b1 := New.undrawN b1
          try with_reducible replace b1 := New.undraw b1
          obtain ⟨c1, f1⟩ := b1.rules
          have z1 := b1.size
          try simp only [World.size_alloc, World.size_drew, World.heap_drewN, World.size_setCell] at z1
          have z1_0 : b < w1.heap.size := by omega
          go_wp2_with fail
          go_wp2_with (first | (go_at_call 90; refine (sTakes_any _ _).mono ?_; rintro e _ ⟨rfl, rfl⟩))
          go_ret2
          rw [(H_none HA.out).1, (H_none HA.out).2.1]
          exact ⟨_, rfl, (by repeat (first | with_reducible exact New.refl _ | with_reducible assumption | with_reducible refine New.drew ?_ | with_reducible refine New.drewN ?_ _ | with_reducible refine New.alloc ?_ _ | with_reducible refine New.setCell ?_ (by first | (simp; done) | (simp; omega) | omega) _ | with_reducible refine New.trans ?_ (by with_reducible assumption))), World.ownsRow_nil _ _ _ _⟩
        · have HA := Lib.hid (hr.out.trans (hrun_step (acc := acc) hlt h1 (by omega)))
          simp only [termE] at h1
          go_wp2_with fail
          refine (sTerm_any _ _ _ _ HX.out).mono ?_; rintro e w1 ⟨rfl, b1⟩
          try with_reducible replace b1 := New.undrawN b1
          try with_reducible replace b1 := New.undraw b1
          obtain ⟨c1, f1⟩ := b1.rules
          have z1 := b1.size
          try simp only [World.size_alloc, World.size_drew, World.heap_drewN, World.size_setCell] at z1
          have z1_0 : b < w1.heap.size := by omega
          go_wp2_with fail
          go_wp2_with (first | (go_at_call 90; refine (sTakes_any _ _).mono ?_; rintro e _ ⟨rfl, rfl⟩) | (at_builtin; refine wpList_append_own _ rfl _ _ 57 rfl (w.heap.size) 2 i0 (.int .i64 0) 1 8 Tryz.underlying57 hi hz0 hz1 hz2 rfl (by decide) _ _ _ rfl ((own_new hown b1).alloc _) ⟨w1.heap.size, 0, none⟩ 1 1 [.int .i64 (m - takes xs[k].kind + 1)] rfl rfl (by intro j u hj; match j, hj with | 0, hj => simp at hj; subst hj; first | (simp [Addr.add]; done) | exact alloc_one rfl) (by intro u hu; simp at hu; subst hu; rfl) (by unfold maxLen; omega) (by omega) (by first | (simp; done) | (simp; omega) | omega) ?_; intro va wa howna hgra _))
          have ba : New w wa := New.grown ((hb.trans b1).alloc _) hgra (fun q hq => by have := (own_block_lt hown q hq).1; simpa using this)
          go_roundw
          case rel => exact ⟨k + 1, m - takes xs[k].kind + 1, acc ++ [m - takes xs[k].kind + 1], by omega, by go_num, rfl, by omega, by omega, by simp [hal], HA, by simpa using howna, ba⟩
          case measure => simp [intOf]; omega
      · have HA := Lib.hid (hr.out.trans (hrun_stop (acc := acc) hlt (.inl h1)))
        simp only [termE] at h1
        go_wp2_with fail
        refine (sTerm_any _ _ _ _ HX.out).mono ?_; rintro e w1 ⟨rfl, b1⟩
        try with_reducible replace b1 := New.undrawN b1
        try with_reducible replace b1 := New.undraw b1
        obtain ⟨c1, f1⟩ := b1.rules
        have z1 := b1.size
        try simp only [World.size_alloc, World.size_drew, World.heap_drewN, World.size_setCell] at z1
        have z1_0 : b < w1.heap.size := by omega
        go_wp2_with fail
        go_ret2
        rw [(H_none HA.out).1, (H_none HA.out).2.1]
        exact ⟨_, rfl, (by repeat (first | with_reducible exact New.refl _ | with_reducible assumption | with_reducible refine New.drew ?_ | with_reducible refine New.drewN ?_ _ | with_reducible refine New.alloc ?_ _ | with_reducible refine New.setCell ?_ (by first | (simp; done) | (simp; omega) | omega) _ | with_reducible refine New.trans ?_ (by with_reducible assumption))), World.ownsRow_nil _ _ _ _⟩
    · obtain rfl : k = xs.length := by omega
      have HA := Lib.hid (H_some (hr.out.trans hrun_end))
      go_wp2_with fail
      all_goals go_ret2
      all_goals rw [HA.out.1, HA.out.2.1]
      all_goals first | exact ⟨_, rfl, (by repeat (first | with_reducible exact New.refl _ | with_reducible assumption | with_reducible refine New.drew ?_ | with_reducible refine New.drewN ?_ _ | with_reducible refine New.alloc ?_ _ | with_reducible refine New.setCell ?_ (by first | (simp; done) | (simp; omega) | omega) _ | with_reducible refine New.trans ?_ (by with_reducible assumption))), hown⟩ | (refine ⟨_, ?_, (by repeat (first | with_reducible exact New.refl _ | with_reducible assumption | with_reducible refine New.drew ?_ | with_reducible refine New.drewN ?_ _ | with_reducible refine New.alloc ?_ _ | with_reducible refine New.setCell ?_ (by first | (simp; done) | (simp; omega) | omega) _ | with_reducible refine New.trans ?_ (by with_reducible assumption))), by simpa [hal] using hown⟩; by_cases h40 : xs.length ≤ 40 <;> simp_all <;> omega)
theorem maxL_app (l : List Int) (x : Int) : maxL (l ++ [x]) = max (maxL l) x := by simp [maxL]
theorem sIsExpression_any (v : Value) (xs : List ETerm) (w : World) (hv : Rd w v xs.length (xs.flatMap encTerm)) (hf : ∀ x ∈ xs, fitTerm x) (hn : xs.length ≤ 1048576) :
    Calls Tryz.prog 87 #[v] w fun e w' => e = .returned (.bool (okH xs)) ∧ New w w' := by
  have HV := Lib.hid hv; clear hv
  go_enter Tryz.func87, Tryz.ntmps87
  go_wp2_with fail
  refine (sHeights_any v xs _ HV.out hf hn).mono ?_; rintro e w1 ⟨r, rfl, b1, own1⟩
  obtain ⟨c1, f1⟩ := b1.rules
  have z1 := b1.size
  try simp only [World.size_alloc, World.size_drew, World.heap_drewN, World.size_setCell] at z1
  go_wp2_with fail
  go_ret
  exact ⟨rfl, (by repeat (first | with_reducible exact New.refl _ | with_reducible assumption | with_reducible refine New.drew ?_ | with_reducible refine New.drewN ?_ _ | with_reducible refine New.alloc ?_ _ | with_reducible refine New.setCell ?_ (by first | (simp; done) | (simp; omega) | omega) _ | with_reducible refine New.trans ?_ (by with_reducible assumption)))⟩
set_option maxHeartbeats 1000000 in
theorem height_any (v : Value) (xs : List ETerm) (w : World) (hv : Rd w v xs.length (xs.flatMap encTerm)) (hf : ∀ x ∈ xs, fitTerm x) (hn : xs.length ≤ 1048576) (hk : KW w) :
    Calls Tryz.prog 164 #[v] w fun e w' => e = .returned (.tuple #[.int .i64 (maxL (heightsOf xs)), .bool (oneH xs)]) ∧ New w w' := by
  obtain ⟨a, cap, rfl, hm, HC⟩ := Rd.flat encTerm_len (by omega) hv
  clear hv
  have HF := Lib.hid hf; clear hf
  have HK := Lib.hid hk; clear hk
  go_enter Tryz.func164, Tryz.ntmps164
  go_wp2_with fail
  go_loopw [4, 5, 10] (fun n mo i wr => ∃ (k : Nat) (m : Int) (acc : List Int), k ≤ xs.length ∧ i = .int .i64 k ∧ n = .int .i64 m ∧ mo = .int .i64 (maxL acc) ∧ 0 ≤ m ∧ m ≤ k ∧ Hid (hrun xs 0 [] = hrun (xs.drop k) m acc) ∧ New w wr) (fun _ _ i _ => xs.length - (intOf i).toNat)
  case atStart => exact ⟨0, 0, [], Nat.zero_le _, rfl, rfl, rfl, by omega, by omega, Lib.hid (by simp), (by repeat (first | with_reducible exact New.refl _ | with_reducible assumption | with_reducible refine New.drew ?_ | with_reducible refine New.drewN ?_ _ | with_reducible refine New.alloc ?_ _ | with_reducible refine New.setCell ?_ (by first | (simp; done) | (simp; omega) | omega) _ | with_reducible refine New.trans ?_ (by with_reducible assumption)))⟩
  case round =>
    obtain ⟨k, m, acc, hk, rfl, rfl, rfl, hm0, hm1, hr, hb⟩ := hrel
    obtain ⟨c, f'⟩ := hb.rules
    have hbz := hb.size
    by_cases hlt : k < xs.length
    · obtain ⟨b, off, rfl, hbl, hx⟩ := HC.out k hlt
      have x0 := hx 0 _ (by omega) rfl
      have x1 := hx 1 _ (by omega) rfl
      have x2 := hx 2 _ (by omega) rfl
      rw [Nat.add_zero] at x0
      replace hx := Lib.hid hx
      have hbw : b < wr.heap.size := by omega
      have HX := Lib.hid (HF.out xs[k] (List.getElem_mem hlt))
      have htb := takes_bd xs[k].kind
      have ht1 : 0 ≤ 1 - takes xs[k].kind + 1 := by omega
      rcases Bool.eq_false_or_eq_true (termE xs[k]) with h1 | h1
      · by_cases h2 : m < takes xs[k].kind
        · have HA := Lib.hid (H_none (hr.out.trans (hrun_stop (acc := acc) hlt (.inr h2))))
          simp only [termE] at h1
          go_wp2_with fail
          refine (iTerm_any _ _ _ _ HX.out (HK.out.new (by repeat (first | with_reducible exact New.refl _ | with_reducible assumption | with_reducible refine New.drew ?_ | with_reducible refine New.drewN ?_ _ | with_reducible refine New.alloc ?_ _ | with_reducible refine New.setCell ?_ (by first | (simp; done) | (simp; omega) | omega) _ | with_reducible refine New.trans ?_ (by with_reducible assumption))))).mono ?_; rintro e w1 ⟨rfl, b1⟩
          try with_reducible replace b1 := New.undrawN b1
          try with_reducible replace b1 := New.undraw b1
          obtain ⟨c1, f1⟩ := b1.rules
          have z1 := b1.size
          try simp only [World.size_alloc, World.size_drew, World.heap_drewN, World.size_setCell] at z1
          have z1_0 : wr.heap.size < w1.heap.size := by omega
          go_wp2_with fail
          go_wp2_with (first | (go_at_call 126; refine (iArguments_any _ _).mono ?_; rintro e _ ⟨rfl, rfl⟩))
          go_ret2
          rw [HA.out.1, HA.out.2.2]
          exact ⟨rfl, (by repeat (first | with_reducible exact New.refl _ | with_reducible assumption | with_reducible refine New.drew ?_ | with_reducible refine New.drewN ?_ _ | with_reducible refine New.alloc ?_ _ | with_reducible refine New.setCell ?_ (by first | (simp; done) | (simp; omega) | omega) _ | with_reducible refine New.trans ?_ (by with_reducible assumption)))⟩
        · have HA := Lib.hid (hr.out.trans (hrun_step (acc := acc) hlt h1 (by omega)))
          simp only [termE] at h1
          go_wp2_with fail
          refine (iTerm_any _ _ _ _ HX.out (HK.out.new (by repeat (first | with_reducible exact New.refl _ | with_reducible assumption | with_reducible refine New.drew ?_ | with_reducible refine New.drewN ?_ _ | with_reducible refine New.alloc ?_ _ | with_reducible refine New.setCell ?_ (by first | (simp; done) | (simp; omega) | omega) _ | with_reducible refine New.trans ?_ (by with_reducible assumption))))).mono ?_; rintro e w1 ⟨rfl, b1⟩
          try with_reducible replace b1 := New.undrawN b1
          try with_reducible replace b1 := New.undraw b1
          obtain ⟨c1, f1⟩ := b1.rules
          have z1 := b1.size
          try simp only [World.size_alloc, World.size_drew, World.heap_drewN, World.size_setCell] at z1
          have z1_0 : wr.heap.size < w1.heap.size := by omega
          go_wp2_with fail
          go_wp2_with (first | (go_at_call 126; refine (iArguments_any _ _).mono ?_; rintro e _ ⟨rfl, rfl⟩))
          go_roundw
          case rel => exact ⟨k + 1, m - takes xs[k].kind + 1, acc ++ [m - takes xs[k].kind + 1], by omega, by go_num, by go_num, by rw [maxL_app]; go_num, by omega, by omega, HA, (by repeat (first | with_reducible exact New.refl _ | with_reducible assumption | with_reducible refine New.drew ?_ | with_reducible refine New.drewN ?_ _ | with_reducible refine New.alloc ?_ _ | with_reducible refine New.setCell ?_ (by first | (simp; done) | (simp; omega) | omega) _ | with_reducible refine New.trans ?_ (by with_reducible assumption)))⟩
          case measure => simp [intOf]; omega
      · have HA := Lib.hid (H_none (hr.out.trans (hrun_stop (acc := acc) hlt (.inl h1))))
        simp only [termE] at h1
        go_wp2_with fail
        refine (iTerm_any _ _ _ _ HX.out (HK.out.new (by repeat (first | with_reducible exact New.refl _ | with_reducible assumption | with_reducible refine New.drew ?_ | with_reducible refine New.drewN ?_ _ | with_reducible refine New.alloc ?_ _ | with_reducible refine New.setCell ?_ (by first | (simp; done) | (simp; omega) | omega) _ | with_reducible refine New.trans ?_ (by with_reducible assumption))))).mono ?_; rintro e w1 ⟨rfl, b1⟩
        try with_reducible replace b1 := New.undrawN b1
        try with_reducible replace b1 := New.undraw b1
        obtain ⟨c1, f1⟩ := b1.rules
        have z1 := b1.size
        try simp only [World.size_alloc, World.size_drew, World.heap_drewN, World.size_setCell] at z1
        have z1_0 : wr.heap.size < w1.heap.size := by omega
        go_wp2_with fail
        go_ret2
        rw [HA.out.1, HA.out.2.2]
        exact ⟨rfl, (by repeat (first | with_reducible exact New.refl _ | with_reducible assumption | with_reducible refine New.drew ?_ | with_reducible refine New.drewN ?_ _ | with_reducible refine New.alloc ?_ _ | with_reducible refine New.setCell ?_ (by first | (simp; done) | (simp; omega) | omega) _ | with_reducible refine New.trans ?_ (by with_reducible assumption)))⟩
    · obtain rfl : k = xs.length := by omega
      have HA := Lib.hid (H_some (hr.out.trans hrun_end))
      go_wp2_with fail
      all_goals go_ret2
      all_goals rw [HA.out.1, HA.out.2.2]
      all_goals exact ⟨rfl, (by repeat (first | with_reducible exact New.refl _ | with_reducible assumption | with_reducible refine New.drew ?_ | with_reducible refine New.drewN ?_ _ | with_reducible refine New.alloc ?_ _ | with_reducible refine New.setCell ?_ (by first | (simp; done) | (simp; omega) | omega) _ | with_reducible refine New.trans ?_ (by with_reducible assumption)))⟩
theorem okH_one (xs : List ETerm) : okH xs = (oneH xs && decide (xs.length ≤ 40)) := by
  rw [okH, oneH]; split <;> simp
theorem iIsExpression_any (v : Value) (xs : List ETerm) (w : World) (hv : Rd w v xs.length (xs.flatMap encTerm)) (hf : ∀ x ∈ xs, fitTerm x) (hn : xs.length ≤ 1048576) (hk : KW w) :
    Calls Tryz.prog 140 #[v] w fun e w' => e = .returned (.bool (okH xs)) ∧ New w w' := by
  obtain ⟨a, cap, rfl, _⟩ := id hv
  have HV := Lib.hid hv; clear hv
  have HK := Lib.hid hk; clear hk
  have HO := Lib.hid (okH_one xs)
  rcases Bool.eq_false_or_eq_true (oneH xs) with h1 | h1
  all_goals go_enter Tryz.func140, Tryz.ntmps140
  all_goals go_wp2_with fail
  all_goals refine (height_any _ xs _ HV.out hf hn HK.out).mono ?_; rintro e w1 ⟨rfl, b1⟩
  all_goals go_wp2_with fail
  all_goals go_ret
  all_goals refine ⟨ret_bool ?_, (by repeat (first | with_reducible exact New.refl _ | with_reducible assumption | with_reducible refine New.drew ?_ | with_reducible refine New.drewN ?_ _ | with_reducible refine New.alloc ?_ _ | with_reducible refine New.setCell ?_ (by first | (simp; done) | (simp; omega) | omega) _ | with_reducible refine New.trans ?_ (by with_reducible assumption)))⟩
  all_goals rw [HO.out, h1]
  all_goals (simp; try omega)
end Go.Proofs.YteielmihlfakgaaGreatDoor
/- Append of a slice that reads, to a row of the call's own. -/
namespace Go.Proofs.YteielmihlfakgaaGreatDoor
open Go Go.Proofs Go.RowKit
set_option linter.unusedVariables false
set_option linter.unusedSimpArgs false
theorem wpList_append_rd {P : Program} {w : World} {ops : Array Oper} {rest : List Oper} {o : Oper} {a : Act} {Q : Exit → Act → World → Prop} (hgd : o.guard = none) (s x : Operand) (t : TypeId)
    (ho : o.op = .call { callee := .builtin .append, args := #[s, x], argTypes := #[t, t] })
    (base : Nat) (e : TypeId) (i : TypeInfo) (z : Value) (size bytes : Nat) (ht : P.underlying t = some (.slice e)) (hi : P.info? e = some i) (hz : i.zero = some z)
    (hsize : i.size = size) (hby : i.bytes = bytes) (hzs : z.cells.size = size) (hsz : 0 < size)
    (v : Value) (n : Nat) (xs : List Value) (hs : a.eval s = v) (hown : w.ownsRow base e size v n xs)
    (xv : Value) (m : Nat) (news : List Value) (hx : a.eval x = xv) (hrd : Rd w xv m news) (hl : news.length = m * size) (h1 : ∀ u ∈ news, u.oneCell' = true)
    (h63 : n + m ≤ maxLen) (hbytes : (n + m) * bytes ≤ 140737488355328) (hbase : base ≤ w.heap.size)
    (h : ∀ v' w', w'.ownsRow base e size v' (n + m) (xs ++ news) → w.grownBy w' v.ownBlock → wpList P ops Q rest (a.put o.dst v') w') : wpList P ops Q (o :: rest) a w := by
  obtain ⟨ad, cap, rfl, _, ⟨h0, _⟩, hc⟩ := hrd
  cases ad with
  | some ad =>
    refine wpList_append_own _ hgd s x t ho base e i z size bytes ht hi hz hsize hby hzs hsz v n xs hs hown ad m cap news hx hl (fun j u hu => ?_) h1 h63 hbytes hbase (fun v' w' h2 h3 _ => h v' w' h2 h3)
    obtain ⟨b, off, hae, _, hcell⟩ := hc j u hu
    cases hae
    have e : (⟨b, off, none⟩ : Addr).add j = ⟨b, off + j, none⟩ := by unfold Addr.add; split <;> simp_all
    rw [e]; exact hcell
  | none =>
    have hm : m = 0 := h0 rfl
    subst hm
    have hn : news = [] := List.eq_nil_of_length_eq_zero (by simpa using hl)
    subst hn
    obtain ⟨bs, c', hv, hle⟩ : ∃ (bs : Option Addr) (c' : Nat), v = .slice bs n c' ∧ n ≤ c' := by
      rcases hown.2 with ⟨rfl, rfl⟩ | ⟨g, cap', cur, rfl, _, _, hle, _⟩
      · exact ⟨none, 0, rfl, Nat.le_refl _⟩
      · exact ⟨_, cap', rfl, hle⟩
    refine wpList_plain hgd fun K hK => ?_
    have hrun := run_append_nothing (P := P) w t t o.type e i ht hi bs n c' hle (.slice none 0 cap) (Src.ofNil w ht cap)
    rw [← hv] at hrun
    unfold Oper.wp
    simp [execOp, ho, resolve, invoke, builtin, hs, hx, hrun, Result.andThen]
    exact hK _ _ (h v w (by simpa using hown) ⟨rfl, rfl, rfl, Nat.le_refl _, fun _ _ _ => rfl⟩)
/-- An append whose run is known. -/
theorem wpList_append_is {P : Program} {w w' : World} {ops : Array Oper} {rest : List Oper} {o : Oper} {a : Act} {Q : Exit → Act → World → Prop} (hgd : o.guard = none) (s x : Operand) (t tx : TypeId)
    (ho : o.op = .call { callee := .builtin .append, args := #[s, x], argTypes := #[t, tx] }) (v xv r : Value) (hs : a.eval s = v) (hx : a.eval x = xv)
    (hrun : (Builtin.append_ #[t, tx] o.type #[v, xv]).run P w = .ok r w') (h : wpList P ops Q rest (a.put o.dst r) w') : wpList P ops Q (o :: rest) a w := by
  refine wpList_plain hgd fun K hK => ?_
  unfold Oper.wp
  simp [execOp, ho, resolve, invoke, builtin, hs, hx, hrun, Result.andThen]
  exact hK _ _ h
end Go.Proofs.YteielmihlfakgaaGreatDoor
