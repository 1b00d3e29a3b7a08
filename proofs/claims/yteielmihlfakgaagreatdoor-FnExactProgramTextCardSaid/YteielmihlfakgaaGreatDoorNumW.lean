/- Contracts: numbers and their texts. -/
import Derived.Test.YteielmihlfakgaaGreatDoorProg
import Derived.Test.YteielmihlfakgaaGreatDoorLibW
import Derived.Test.YteielmihlfakgaaGreatDoorDec
import Derived.Test.YteielmihlfakgaaGreatDoorVB
import Derived.Test.YteielmihlfakgaaGreatDoorUG
import Derived.Test.YteielmihlfakgaaGreatDoorVA
import Derived.Test.YteielmihlfakgaaGreatDoorDecS
namespace Go.Proofs.YteielmihlfakgaaGreatDoor
open Go Go.Proofs Go.RowKit
set_option linter.unusedVariables false
set_option linter.unusedSimpArgs false
set_option maxRecDepth 100000
theorem iDecimal_any (n : Int) (w : World) (h0 : -9223372036854775808 ≤ n) (h1 : n ≤ 9223372036854775807) (hp : PW w) :
    Calls Tryz.prog 68 #[.int .i64 n] w fun e w' => e = .returned (.string (strL (Lib.itoa n))) ∧ New w w' := by
  have HC := Lib.hid (Tryz.strconv_FormatInt_10 n h0 h1 w hp)
  clear h0 h1
  go_enter Tryz.func68, Tryz.ntmps68
  go_wp2_with fail
  refine HC.out.mono ?_
  rintro e w1 ⟨rfl, k, os, rfl⟩
  go_wp2_with fail
  go_ret
  exact ⟨rfl, new_grow _ _⟩
theorem parse_bd {l : List UInt8} {v : Int} (h : Lib.parseIntB 64 l = .ok v) : -9223372036854775808 ≤ v ∧ v ≤ 9223372036854775807 := by
  have e63 : 2 ^ (64 - 1) = 9223372036854775808 := by decide
  unfold Lib.parseIntB at h
  rw [e63] at h
  dsimp only at h
  split at h
  · cases h
  · split at h
    · cases h
    · cases h
    · split at h
      · cases h
      · split at h
        · cases h
        · injection h with h
          split at h <;> omega
set_option maxHeartbeats 400000 in
theorem iReadNumber_any (s : ByteArray) (w : World) (hs : s.size ≤ 1048576) (hp : PW w) (he : ER w) :
    Calls Tryz.prog 31 #[.string s] w fun e w' => e = .returned (.tuple #[.int .i64 (rdN s.data.toList).1, .bool (rdN s.data.toList).2]) ∧ New w w' := by
  rcases hl : Lib.parseIntB 64 s.data.toList with v | _ | _
  · skip
    obtain ⟨hv0, hv1⟩ := parse_bd hl
    have er : rdN s.data.toList = (v, Lib.itoa v == s.data.toList) := by rw [rdN, hl]
    rw [er]
    have HC := Lib.hid (Tryz.strconv_ParseInt_10_at64_ok s (by omega) v hl w)
    have HP := Lib.hid hp
    replace hl := Lib.hid hl
    clear hp he er
    go_enter Tryz.func31, Tryz.ntmps31
    go_wp2_with fail
    refine HC.out.mono ?_
    rintro e w1 ⟨rfl, hw1⟩
    have b1 : New w w1 := by rcases hw1 with rfl | ⟨t, rfl⟩; exact New.refl _; exact new_bytes _ _ _
    clear hw1
    go_wp2_with fail
    refine (iDecimal_any v w1 hv0 hv1 (HP.out.new b1)).mono ?_; rintro e w2 ⟨rfl, b2⟩
    try with_reducible replace b2 := New.undrawN b2
    try with_reducible replace b2 := New.undraw b2
    obtain ⟨c2, f2⟩ := b2.rules
    have z2 := b2.size
    try simp only [World.size_alloc, World.size_drew, World.heap_drewN, World.size_setCell] at z2
    go_wp2_with fail
    refine bodyPost_ret (v := .tuple #[.int .i64 v, .bool (Lib.itoa v == s.data.toList)]) ?_ rfl ⟨rfl, (by repeat (first | with_reducible exact New.refl _ | with_reducible assumption | with_reducible refine New.drew ?_ | with_reducible refine New.drewN ?_ _ | with_reducible refine New.alloc ?_ _ | with_reducible refine New.setCell ?_ (by first | (simp; done) | (simp; omega) | omega) _ | with_reducible refine New.trans ?_ (by with_reducible assumption)))⟩
    simp [results, Tryz.results31, go_sem, strL_cmp]
  · skip
    have er : rdN s.data.toList = (0, false) := by rw [rdN, hl]
    rw [er]
    obtain ⟨⟨tp, p, h1⟩, _⟩ := he
    have HC := Lib.hid (parse_wrong s (by omega) (fun v h => by rw [hl] at h; cases h) (fun h => by rw [hl] at h; cases h) tp p w h1)
    clear hp er h1 hl
    go_enter Tryz.func31, Tryz.ntmps31
    go_wp2_with fail
    refine HC.out.mono ?_
    rintro e w1 ⟨N, rfl, _, b1⟩
    replace b1 : New w w1 := b1
    go_wp2_with fail
    go_ret2
    exact ⟨rfl, (by repeat (first | with_reducible exact New.refl _ | with_reducible assumption | with_reducible refine New.drew ?_ | with_reducible refine New.drewN ?_ _ | with_reducible refine New.alloc ?_ _ | with_reducible refine New.setCell ?_ (by first | (simp; done) | (simp; omega) | omega) _ | with_reducible refine New.trans ?_ (by with_reducible assumption)))⟩
  · skip
    have er : rdN s.data.toList = (Lib.intSat 64 s.data.toList, false) := by rw [rdN, hl]
    rw [er]
    obtain ⟨_, ⟨tp, p, h1⟩⟩ := he
    have HC := Lib.hid (Tryz.strconv_ParseInt_10_at64_range_var s (by omega) hl tp p w h1)
    clear hp er h1 hl
    generalize Lib.intSat 64 s.data.toList = v at *
    go_enter Tryz.func31, Tryz.ntmps31
    go_wp2_with fail
    refine HC.out.mono ?_
    rintro e w1 ⟨N, rfl, _, _, b1⟩
    replace b1 : New w w1 := b1
    go_wp2_with fail
    go_ret2
    exact ⟨rfl, (by repeat (first | with_reducible exact New.refl _ | with_reducible assumption | with_reducible refine New.drew ?_ | with_reducible refine New.drewN ?_ _ | with_reducible refine New.alloc ?_ _ | with_reducible refine New.setCell ?_ (by first | (simp; done) | (simp; omega) | omega) _ | with_reducible refine New.trans ?_ (by with_reducible assumption)))⟩
def isCnt (l : List UInt8) : Bool := (rdN l).2 && inB (rdN l).1 0 9999
theorem take_snocB (s : ByteArray) (k : Nat) (h : k < s.size) : s.data.toList.take (k + 1) = s.data.toList.take k ++ [s[k]] := by
  rw [List.take_succ_eq_append_getElem (by simpa using h)]; rfl
theorem all_take {p : UInt8 → Bool} {s : ByteArray} {k : Nat} (hk : k < s.size) (h : p s[k] = false) : s.data.toList.all p = false := by
  rw [Bool.eq_false_iff]; intro h'
  rw [allB_at.1 h' k hk] at h; cases h
set_option maxHeartbeats 1000000 in
theorem sValue_any (s : ByteArray) (w : World) (hs : s.size ≤ 1048576) :
    Calls Tryz.prog 76 #[.string s] w fun e w' => e = .returned (.tuple #[.int .i64 (sval s.data.toList).1, .bool (sval s.data.toList).2]) ∧ New w w' := by
  have hlen : s.data.toList.length = s.size := by rw [Array.length_toList]; rfl
  obtain ⟨R, hR⟩ : ∃ R, sval s.data.toList = R := ⟨_, rfl⟩
  rw [hR]
  replace hR := Lib.hid hR
  obtain ⟨rv, rb⟩ := R
  by_cases h12 : 1 ≤ s.size ∧ s.size ≤ 12
  · obtain ⟨h1, h2⟩ := h12
    have hb1 : ¬ ((s.size : Int) < 1) := by omega
    have hb2 : ¬ ((12 : Int) < (s.size : Int)) := by omega
    have HL := Lib.hid hlen
    clear hlen
    go_enter Tryz.func76, Tryz.ntmps76
    go_wp2_with fail
    go_loop [4, 5] (fun n i => ∃ k : Nat, k ≤ s.size ∧ i = .int .i64 k ∧ n = .int .i64 (dv 0 (s.data.toList.take k) : Nat) ∧ Hid ((s.data.toList.take k).all isDig = true)) (fun _ i => s.size - (intOf i).toNat)
    case atStart => exact ⟨0, Nat.zero_le _, rfl, rfl, Lib.hid (by simp)⟩
    case round =>
      obtain ⟨k, hk, rfl, rfl, hd⟩ := hrel
      have hlt0 := dv_lt 0 _ hd.out
      have hlen2 : (s.data.toList.take k).length ≤ k := List.length_take_le _ _
      have hpow : 10 ^ (s.data.toList.take k).length ≤ 10 ^ 12 := Nat.pow_le_pow_right (by omega) (by omega)
      have hn : dv 0 (s.data.toList.take k) < 1000000000000 := by omega
      clear hlt0 hpow hlen2
      by_cases hlt : k < s.size
      · have HT := Lib.hid (take_snocB s k hlt)
        rcases Bool.eq_false_or_eq_true (isDig s[k]) with h | h
        · have h' := h
          simp only [isDig, Bool.and_eq_true, decide_eq_true_eq] at h'
          obtain ⟨hc1, hc2⟩ := h'
          have hc1' : ¬ ((s[k].toNat : Int) < 48) := by omega
          have hc2' : ¬ ((57 : Int) < (s[k].toNat : Int)) := by omega
          have HA := Lib.hid (show (s.data.toList.take (k + 1)).all isDig = true by rw [HT.out, List.all_append, hd.out]; simp [h])
          have HV := Lib.hid (show dv 0 (s.data.toList.take (k + 1)) = dv 0 (s.data.toList.take k) * 10 + (s[k].toNat - 48) by rw [HT.out, dv_app]; rfl)
          go_wp2_with fail
          go_round
          case rel => exact ⟨k + 1, by omega, by go_num, by rw [HV.out]; exact congrArg (Value.int .i64) (by omega), HA⟩
          case measure => simp [intOf]; omega
        · have hF : sval s.data.toList = (0, false) := by rw [sval, if_neg (by rw [svD, all_take hlt h]; simp)]
          obtain ⟨rfl, rfl⟩ := Prod.mk.inj (hR.out.symm.trans hF)
          have h' := h
          simp only [isDig, Bool.and_eq_false_iff, decide_eq_false_iff_not] at h'
          clear HT hd hR hF
          by_cases hc : (s[k].toNat : Int) < 48
          · go_wp2_with fail
            go_ret2
            exact ⟨rfl, New.refl _⟩
          · have hc2 : (57 : Int) < (s[k].toNat : Int) := by omega
            clear h'
            go_wp2_with fail
            go_ret2
            exact ⟨rfl, New.refl _⟩
      · obtain rfl : k = s.size := by omega
        have hall : s.data.toList.take s.size = s.data.toList := List.take_of_length_le (by rw [HL.out]; exact Nat.le_refl _)
        rw [hall] at hd hn
        obtain ⟨m, hm⟩ : ∃ m, dv 0 (s.data.toList.take s.size) = m := ⟨_, rfl⟩
        rw [hm]
        rw [hall] at hm
        have hF : sval s.data.toList = (((dv 0 s.data.toList : Nat) : Int), Lib.decDigits (dv 0 s.data.toList) == s.data.toList) := by rw [sval, if_pos (by rw [svD, hd.out, HL.out]; simp; omega)]
        obtain ⟨rfl, rfl⟩ := Prod.mk.inj (hR.out.symm.trans hF)
        have HD := Lib.hid (fun (w0 : World) => sDec_any (dv 0 s.data.toList) w0 (by omega))
        rw [hm] at HD
        subst hm
        clear hall hF hR
        go_wp2_with fail
        refine (HD.out _).mono ?_; rintro e w1 ⟨rfl, b1⟩
        try with_reducible replace b1 := New.undrawN b1
        try with_reducible replace b1 := New.undraw b1
        obtain ⟨c1, f1⟩ := b1.rules
        have z1 := b1.size
        try simp only [World.size_alloc, World.size_drew, World.heap_drewN, World.size_setCell] at z1
        go_wp2_with fail
        refine bodyPost_ret (v := .tuple #[.int .i64 (dv 0 s.data.toList : Nat), .bool (Lib.decDigits (dv 0 s.data.toList) == s.data.toList)]) ?_ rfl ⟨rfl, (by repeat (first | with_reducible exact New.refl _ | with_reducible assumption | with_reducible refine New.drew ?_ | with_reducible refine New.drewN ?_ _ | with_reducible refine New.alloc ?_ _ | with_reducible refine New.setCell ?_ (by first | (simp; done) | (simp; omega) | omega) _ | with_reducible refine New.trans ?_ (by with_reducible assumption)))⟩
        simp [results, Tryz.results76, go_sem, strL_cmp]
  · have hF : sval s.data.toList = (0, false) := by rw [sval, if_neg (by rw [svD, hlen]; simp; omega)]
    obtain ⟨rfl, rfl⟩ := Prod.mk.inj (hR.out.symm.trans hF)
    clear hlen hR
    by_cases h1 : (s.size : Int) < 1
    · go_enter Tryz.func76, Tryz.ntmps76
      go_wp2_with fail
      go_ret2
      exact ⟨rfl, New.refl _⟩
    · have h2 : (12 : Int) < (s.size : Int) := by omega
      clear h12
      go_enter Tryz.func76, Tryz.ntmps76
      go_wp2_with fail
      go_ret2
      exact ⟨rfl, New.refl _⟩
def isNumB (l : List UInt8) : Bool := (sval l).2 && decide ((sval l).1 ≤ 9999)
theorem isCnt_num (l : List UInt8) : isCnt l = isNumB l := num_same l 9999 (by omega)
theorem sNumber_any (s : ByteArray) (w : World) (hs : s.size ≤ 1048576) :
    Calls Tryz.prog 88 #[.string s] w fun e w' => e = .returned (.bool (isNumB s.data.toList)) ∧ New w w' := by
  have HC := Lib.hid (sValue_any s w hs)
  unfold isNumB
  generalize sval s.data.toList = R at HC
  obtain ⟨v, ok⟩ := R
  cases ok with
  | false =>
    go_enter Tryz.func88, Tryz.ntmps88
    go_wp2_with fail
    refine (HC.out).mono ?_; rintro e w1 ⟨rfl, b1⟩
    try with_reducible replace b1 := New.undrawN b1
    try with_reducible replace b1 := New.undraw b1
    obtain ⟨c1, f1⟩ := b1.rules
    have z1 := b1.size
    try simp only [World.size_alloc, World.size_drew, World.heap_drewN, World.size_setCell] at z1
    go_wp2_with fail
    go_ret
    exact ⟨rfl, (by repeat (first | with_reducible exact New.refl _ | with_reducible assumption | with_reducible refine New.drew ?_ | with_reducible refine New.drewN ?_ _ | with_reducible refine New.alloc ?_ _ | with_reducible refine New.setCell ?_ (by first | (simp; done) | (simp; omega) | omega) _ | with_reducible refine New.trans ?_ (by with_reducible assumption)))⟩
  | true =>
    go_enter Tryz.func88, Tryz.ntmps88
    go_wp2_with fail
    refine (HC.out).mono ?_; rintro e w1 ⟨rfl, b1⟩
    try with_reducible replace b1 := New.undrawN b1
    try with_reducible replace b1 := New.undraw b1
    obtain ⟨c1, f1⟩ := b1.rules
    have z1 := b1.size
    try simp only [World.size_alloc, World.size_drew, World.heap_drewN, World.size_setCell] at z1
    go_wp2_with fail
    go_ret
    exact ⟨by simp, (by repeat (first | with_reducible exact New.refl _ | with_reducible assumption | with_reducible refine New.drew ?_ | with_reducible refine New.drewN ?_ _ | with_reducible refine New.alloc ?_ _ | with_reducible refine New.setCell ?_ (by first | (simp; done) | (simp; omega) | omega) _ | with_reducible refine New.trans ?_ (by with_reducible assumption)))⟩
end Go.Proofs.YteielmihlfakgaaGreatDoor
