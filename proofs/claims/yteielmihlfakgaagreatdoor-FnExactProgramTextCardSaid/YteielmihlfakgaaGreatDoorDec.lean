/- Decimal numerals: plain facts, no program in sight. -/
import Derived.Lib.ItoaNum
import Derived.Lib.ItoaMem
import Derived.Lib.ParseIntB
import Derived.Test.YteielmihlfakgaaGreatDoorVA
namespace Go.Proofs.YteielmihlfakgaaGreatDoor
open Go Go.RowKit
set_option linter.unusedVariables false
set_option linter.unusedSimpArgs false
def isDig (c : UInt8) : Bool := decide (48 ≤ c.toNat) && decide (c.toNat ≤ 57)
/-- What digits spell, behind a number. -/
def dv (acc : Nat) (l : List UInt8) : Nat := l.foldl (fun a c => a * 10 + (c.toNat - 48)) acc
theorem dv_nil (acc : Nat) : dv acc [] = acc := rfl
theorem dv_cons (acc : Nat) (c : UInt8) (l : List UInt8) : dv acc (c :: l) = dv (acc * 10 + (c.toNat - 48)) l := by simp only [dv, List.foldl_cons]
theorem dv_app (acc : Nat) (l m : List UInt8) : dv acc (l ++ m) = dv (dv acc l) m := by simp [dv, List.foldl_append]
theorem dv_le (acc : Nat) (l : List UInt8) : acc ≤ dv acc l := by
  induction l generalizing acc with
  | nil => exact Nat.le_refl _
  | cons c l ih => rw [dv_cons]; have := ih (acc * 10 + (c.toNat - 48)); omega
theorem dv_lt (acc : Nat) (l : List UInt8) (h : l.all isDig = true) : dv acc l < (acc + 1) * 10 ^ l.length := by
  induction l generalizing acc with
  | nil => simp [dv_nil]
  | cons c l ih =>
    simp only [List.all_cons, Bool.and_eq_true, isDig, decide_eq_true_eq] at h
    rw [dv_cons, List.length_cons, Nat.pow_succ]
    refine Nat.lt_of_lt_of_le (ih _ h.2) ?_
    rw [Nat.mul_comm (10 ^ l.length) 10, ← Nat.mul_assoc]
    exact Nat.mul_le_mul_right _ (by omega)
theorem digit_toNat {d : Nat} (h : d < 10) : (UInt8.ofNat (48 + d)).toNat = 48 + d := by simp; omega
theorem dec_lt {u : Nat} (h : u < 10) : Lib.decDigits u = [UInt8.ofNat (48 + u)] := by rw [Lib.decDigits, dif_pos h]
theorem dec_ge {u : Nat} (h : ¬ u < 10) : Lib.decDigits u = Lib.decDigits (u / 10) ++ [UInt8.ofNat (48 + u % 10)] := by rw [Lib.decDigits, dif_neg h]
theorem dec_ind {P : Nat → Prop} (h1 : ∀ u, u < 10 → P u) (h2 : ∀ u, ¬ u < 10 → P (u / 10) → P u) : ∀ u, P u := by
  intro u
  induction u using Nat.strongRecOn with
  | _ u ih =>
    by_cases h : u < 10
    · exact h1 u h
    · exact h2 u h (ih _ (by omega))
theorem dec_digits : ∀ u, (Lib.decDigits u).all isDig = true := by
  refine dec_ind (fun u h => ?_) (fun u h ih => ?_)
  · rw [dec_lt h]; simp only [List.all_cons, List.all_nil, isDig, digit_toNat h]; simp; omega
  · rw [dec_ge h, List.all_append, ih]; simp only [List.all_cons, List.all_nil, isDig, digit_toNat (show u % 10 < 10 by omega)]; simp; omega
theorem dv_dec : ∀ u, dv 0 (Lib.decDigits u) = u := by
  refine dec_ind (fun u h => ?_) (fun u h ih => ?_)
  · rw [dec_lt h, dv_cons, dv_nil, digit_toNat h]; omega
  · rw [dec_ge h, dv_app, ih, dv_cons, dv_nil, digit_toNat (show u % 10 < 10 by omega)]; omega
theorem dec_ne : ∀ u, 1 ≤ (Lib.decDigits u).length := by
  refine dec_ind (fun u h => ?_) (fun u h ih => ?_)
  · rw [dec_lt h]; simp
  · rw [dec_ge h]; simp
theorem dec_len : ∀ (k u : Nat), u < 10 ^ (k + 1) → (Lib.decDigits u).length ≤ k + 1 := by
  intro k
  induction k with
  | zero => intro u h; rw [dec_lt (by simpa using h)]; simp
  | succ k ih =>
    intro u h
    by_cases h1 : u < 10
    · rw [dec_lt h1]; simp
    · rw [dec_ge h1, List.length_append]
      have := ih (u / 10) (by rw [Nat.pow_succ] at h; omega)
      simp; omega
theorem dec_inj {u v : Nat} (h : Lib.decDigits u = Lib.decDigits v) : u = v := by rw [← dv_dec u, h, dv_dec]
/-- ParseUint reads digits. -/
theorem parseUintM_digits (M : Nat) (hM : M ≤ 18446744073709551615) : ∀ (l : List UInt8) (acc : Nat), l.all isDig = true → dv acc l ≤ M → dv acc l < 9223372036854775808 → Lib.parseUintM M acc l = .ok (dv acc l)
  | [], acc, _, _, _ => rfl
  | c :: l, acc, h, h1, h2 => by
    simp only [List.all_cons, Bool.and_eq_true, isDig, decide_eq_true_eq] at h
    have h3 := dv_le (acc * 10 + (c.toNat - 48)) l
    rw [dv_cons] at h1 h2
    rw [Lib.parseUintM, if_pos h.1, if_neg (by omega), if_neg (by omega), parseUintM_digits M hM l _ h.2 h1 h2, dv_cons]
theorem head_digit {l : List UInt8} {c : UInt8} {r : List UInt8} (e : l = c :: r) (h : l.all isDig = true) : 48 ≤ c.toNat ∧ c.toNat ≤ 57 := by
  subst e; simp only [List.all_cons, Bool.and_eq_true, isDig, decide_eq_true_eq] at h; exact h.1
theorem parse_digits {l : List UInt8} (h0 : l ≠ []) (h : l.all isDig = true) (h1 : dv 0 l < 9223372036854775808) : Lib.parseIntB 64 l = .ok (dv 0 l : Int) := by
  cases l with
  | nil => exact absurd rfl h0
  | cons c r =>
    have hc := head_digit rfl h
    have e1 : ¬ (c.toNat = 43 ∨ c.toNat = 45) := by omega
    have e2 : ¬ c.toNat = 45 := by omega
    have hu : Lib.parseUintB 64 (c :: r) = .ok (dv 0 (c :: r)) := by
      rw [Lib.parseUintB, if_neg h0]
      have e64 : 2 ^ 64 - 1 = 18446744073709551615 := by decide
      rw [e64]
      exact parseUintM_digits _ (Nat.le_refl _) _ _ h (by omega) h1
    have e63 : 2 ^ (64 - 1) = 9223372036854775808 := by decide
    unfold Lib.parseIntB
    dsimp only
    rw [if_neg e1, hu]
    dsimp only
    rw [e63, if_neg (by omega), if_neg (by omega), if_neg e2]
theorem parse_dec {u : Nat} (h : u < 9223372036854775808) : Lib.parseIntB 64 (Lib.decDigits u) = .ok (u : Int) := by
  have h1 := dec_ne u
  rw [parse_digits (by intro e; rw [e] at h1; simp at h1) (dec_digits u) (by rw [dv_dec]; exact h), dv_dec]
/-- readNumber's answer. -/
def rdN (l : List UInt8) : Int × Bool := match Lib.parseIntB 64 l with
  | .ok v => (v, Lib.itoa v == l)
  | .range => (Lib.intSat 64 l, false)
  | _ => (0, false)
/-- The reference's. -/
def svD (l : List UInt8) : Bool := decide (1 ≤ l.length) && decide (l.length ≤ 12) && l.all isDig
def sval (l : List UInt8) : Int × Bool := if svD l = true then ((dv 0 l : Nat), Lib.decDigits (dv 0 l) == l) else (0, false)
theorem itoa_nat (u : Nat) : Lib.itoa (u : Int) = Lib.decDigits u := Lib.itoa_nonneg u
theorem itoa_nn {v : Int} (h : 0 ≤ v) : Lib.itoa v = Lib.decDigits v.toNat := by
  obtain ⟨u, rfl⟩ := Int.eq_ofNat_of_zero_le h; rw [itoa_nat]; rfl
theorem rdN_dec {u : Nat} (h : u < 9223372036854775808) : rdN (Lib.decDigits u) = ((u : Int), true) := by
  rw [rdN, parse_dec h]; simp [itoa_nat]
theorem rdN_ok {l : List UInt8} (h : (rdN l).2 = true) : l = Lib.itoa (rdN l).1 := by
  unfold rdN at h ⊢
  rcases hp : Lib.parseIntB 64 l with v | _ | _
  · rw [hp] at h; simp at h; simp [h]
  · rw [hp] at h; simp at h
  · rw [hp] at h; simp at h
theorem sval_dec {u : Nat} (h : u < 1000000000000) : sval (Lib.decDigits u) = ((u : Int), true) := by
  have h1 := dec_ne u
  have h2 := dec_len 11 u (by simpa using h)
  rw [sval, if_pos (by rw [svD, dec_digits]; simp; omega), dv_dec]; simp
theorem sval_ok {l : List UInt8} (h : (sval l).2 = true) : l = Lib.decDigits (sval l).1.toNat ∧ 0 ≤ (sval l).1 ∧ (sval l).1 < 1000000000000 ∧ svD l = true := by
  unfold sval at h ⊢
  by_cases hs : svD l = true
  · rw [if_pos hs] at h ⊢
    have hd := hs
    simp only [svD, Bool.and_eq_true, decide_eq_true_eq] at hd
    have h3 := dv_lt 0 l hd.2
    have h4 : 10 ^ l.length ≤ 10 ^ 12 := Nat.pow_le_pow_right (by omega) hd.1.2
    refine ⟨by simpa using (beq_iff_eq.1 h).symm, by simp, ?_, hs⟩
    show ((dv 0 l : Nat) : Int) < 1000000000000
    omega
  · rw [if_neg hs] at h; simp at h
theorem sval_nonneg (l : List UInt8) : 0 ≤ (sval l).1 := by
  unfold sval; split <;> simp
theorem sval_lt (l : List UInt8) : (sval l).1 < 1000000000000 := by
  unfold sval
  split
  · rename_i hs
    simp only [svD, Bool.and_eq_true, decide_eq_true_eq] at hs
    have h3 := dv_lt 0 l hs.2
    have h4 : 10 ^ l.length ≤ 10 ^ 12 := Nat.pow_le_pow_right (by omega) hs.1.2
    show ((dv 0 l : Nat) : Int) < 1000000000000
    omega
  · simp
/-- Both readings of a number of at most M. -/
theorem num_same (l : List UInt8) (M : Int) (hM : M < 1000000000000) : ((rdN l).2 && inB (rdN l).1 0 M) = ((sval l).2 && decide ((sval l).1 ≤ M)) := by
  rw [Bool.eq_iff_iff]
  simp only [Bool.and_eq_true, decide_eq_true_eq, inB_iff]
  constructor
  · rintro ⟨h1, h2, h3⟩
    have e := rdN_ok h1
    rw [itoa_nn h2] at e
    obtain ⟨u, hu⟩ := Int.eq_ofNat_of_zero_le h2
    rw [hu] at e h3
    have h4 := sval_dec (u := u) (by omega)
    have e' : l = Lib.decDigits u := by rw [Int.toNat_natCast] at e; exact e
    rw [e', h4]; exact ⟨rfl, h3⟩
  · rintro ⟨h1, h2⟩
    obtain ⟨e, h3, h4, _⟩ := sval_ok h1
    obtain ⟨u, hu⟩ := Int.eq_ofNat_of_zero_le h3
    rw [hu] at e h2 h4
    have h5 := rdN_dec (u := u) (by omega)
    have e' : l = Lib.decDigits u := by rw [Int.toNat_natCast] at e; exact e
    rw [e', h5]; exact ⟨rfl, by simp, h2⟩
end Go.Proofs.YteielmihlfakgaaGreatDoor
