/- Contracts: numbers and their texts. -/
import Derived.Test.YtekpbmoagabmeaaGreatDoorProg
import Derived.Test.YtekpbmoagabmeaaGreatDoorLibW
import Derived.Test.YtekpbmoagabmeaaGreatDoorDec
import Derived.Test.YtekpbmoagabmeaaGreatDoorNum
import Derived.Test.YtekpbmoagabmeaaGreatDoorRegionG
import Derived.Test.YtekpbmoagabmeaaGreatDoorCells
import Derived.Test.YtekpbmoagabmeaaGreatDoorBytes
namespace Go.Proofs.YtekpbmoagabmeaaGreatDoor
open Go Go.Proofs Go.RowKit
set_option linter.unusedVariables false
set_option linter.unusedSimpArgs false
set_option maxRecDepth 100000
/-- A string of these bytes. -/
def strL (l : List UInt8) : ByteArray := ⟨l.toArray⟩
theorem strL_list (l : List UInt8) : (strL l).data.toList = l := by simp [strL]
theorem bytes_eq {a b : ByteArray} (h : a.data.toList = b.data.toList) : a = b := by
  cases a; cases b; simp only [ByteArray.mk.injEq]; exact Array.ext' h
theorem strL_size (l : List UInt8) : (strL l).size = l.length := by show l.toArray.size = _; simp
theorem strL_app (l m : List UInt8) : strL l ++ strL m = strL (l ++ m) := by
  apply bytes_eq; rw [ByteArray.data_append]; simp [strL]
theorem strL_back (s : ByteArray) : strL s.data.toList = s := by apply bytes_eq; simp [strL]
theorem strL_cmp (l : List UInt8) (s : ByteArray) : ((strL l).toList == s.toList) = (l == s.data.toList) := by rw [ByteArray.toList_eq, ByteArray.toList_eq, strL_list]
theorem iDecimal_any (n : Int) (w : World) (h0 : -9223372036854775808 ≤ n) (h1 : n ≤ 9223372036854775807) (hp : PW w) :
    Calls Tryz.prog 80 #[.int .i64 n] w fun e w' => e = .returned (.string (strL (Lib.itoa n))) ∧ New w w' := by
  have HC := Lib.hid (Tryz.strconv_FormatInt_10 n h0 h1 w hp)
  clear h0 h1
  go_enter Tryz.func80, Tryz.ntmps80
  go_wp2_with fail
  refine HC.out.mono ?_
  rintro e w1 ⟨rfl, k, os, rfl⟩
  go_wp2_with fail
  go_ret
  exact ⟨rfl, new_grow _ _⟩
theorem parse_bd {l : List UInt8} {v : Int} (h : Lib.parseIntB 64 l = .ok v) : -9223372036854775808 ≤ v ∧ v ≤ 9223372036854775807 := by
  have e63 : 2 ^ (64 - 1) = 9223372036854775808 := by decide
  unfold Lib.parseIntB at h
  rw [e63] at h
  dsimp only at h
  split at h
  · cases h
  · split at h
    · cases h
    · cases h
    · split at h
      · cases h
      · split at h
        · cases h
        · injection h with h
          split at h <;> omega
set_option maxHeartbeats 400000 in
theorem iReadNumber_any (s : ByteArray) (w : World) (hs : s.size ≤ 1048576) (hp : PW w) (he : ER w) :
    Calls Tryz.prog 35 #[.string s] w fun e w' => e = .returned (.tuple #[.int .i64 (rdN s.data.toList).1, .bool (rdN s.data.toList).2]) ∧ New w w' := by
  rcases hl : Lib.parseIntB 64 s.data.toList with v | _ | _
  · skip
    obtain ⟨hv0, hv1⟩ := parse_bd hl
    have er : rdN s.data.toList = (v, Lib.itoa v == s.data.toList) := by rw [rdN, hl]
    rw [er]
    have HC := Lib.hid (Tryz.strconv_ParseInt_10_at64_ok s (by omega) v hl w)
    have HP := Lib.hid hp
    replace hl := Lib.hid hl
    clear hp he er
    go_enter Tryz.func35, Tryz.ntmps35
    go_wp2_with fail
    refine HC.out.mono ?_
    rintro e w1 ⟨rfl, hw1⟩
    have b1 : New w w1 := by rcases hw1 with rfl | ⟨t, rfl⟩; exact New.refl _; exact new_bytes _ _ _
    clear hw1
    go_wp2_with fail
    refine (iDecimal_any v w1 hv0 hv1 (HP.out.new b1)).mono ?_; rintro e w2 ⟨rfl, b2⟩
    try with_reducible replace b2 := New.undrawN b2
    try with_reducible replace b2 := New.undraw b2
    obtain ⟨c2, f2⟩ := b2.rules
    have z2 := b2.size
    try simp only [World.size_alloc, World.size_drew, World.heap_drewN, World.size_setCell] at z2
    go_wp2_with fail
    refine bodyPost_ret (v := .tuple #[.int .i64 v, .bool (Lib.itoa v == s.data.toList)]) ?_ rfl ⟨rfl, (by repeat (first | with_reducible exact New.refl _ | with_reducible assumption | with_reducible refine New.drew ?_ | with_reducible refine New.drewN ?_ _ | with_reducible refine New.alloc ?_ _ | with_reducible refine New.setCell ?_ (by first | (simp; done) | (simp; omega) | omega) _ | with_reducible refine New.trans ?_ (by with_reducible assumption)))⟩
    simp [results, Tryz.results35, go_sem, strL_cmp]
  · skip
    have er : rdN s.data.toList = (0, false) := by rw [rdN, hl]
    rw [er]
    obtain ⟨⟨tp, p, h1⟩, _⟩ := he
    have HC := Lib.hid (parse_wrong s (by omega) (fun v h => by rw [hl] at h; cases h) (fun h => by rw [hl] at h; cases h) tp p w h1)
    clear hp er h1 hl
    go_enter Tryz.func35, Tryz.ntmps35
    go_wp2_with fail
    refine HC.out.mono ?_
    rintro e w1 ⟨N, rfl, _, b1⟩
    replace b1 : New w w1 := b1
    go_wp2_with fail
    go_ret2
    exact ⟨rfl, (by repeat (first | with_reducible exact New.refl _ | with_reducible assumption | with_reducible refine New.drew ?_ | with_reducible refine New.drewN ?_ _ | with_reducible refine New.alloc ?_ _ | with_reducible refine New.setCell ?_ (by first | (simp; done) | (simp; omega) | omega) _ | with_reducible refine New.trans ?_ (by with_reducible assumption)))⟩
  · skip
    have er : rdN s.data.toList = (Lib.intSat 64 s.data.toList, false) := by rw [rdN, hl]
    rw [er]
    obtain ⟨_, ⟨tp, p, h1⟩⟩ := he
    have HC := Lib.hid (Tryz.strconv_ParseInt_10_at64_range_var s (by omega) hl tp p w h1)
    clear hp er h1 hl
    generalize Lib.intSat 64 s.data.toList = v at *
    go_enter Tryz.func35, Tryz.ntmps35
    go_wp2_with fail
    refine HC.out.mono ?_
    rintro e w1 ⟨N, rfl, _, _, b1⟩
    replace b1 : New w w1 := b1
    go_wp2_with fail
    go_ret2
    exact ⟨rfl, (by repeat (first | with_reducible exact New.refl _ | with_reducible assumption | with_reducible refine New.drew ?_ | with_reducible refine New.drewN ?_ _ | with_reducible refine New.alloc ?_ _ | with_reducible refine New.setCell ?_ (by first | (simp; done) | (simp; omega) | omega) _ | with_reducible refine New.trans ?_ (by with_reducible assumption)))⟩
def isCnt (l : List UInt8) : Bool := (rdN l).2 && inB (rdN l).1 0 9999
/-- One byte in new memory. -/
def ByteAt (w : World) (X : Value) (d : Int) : Prop := ∃ b, X = .slice (some ⟨b, 0, none⟩) 1 1 ∧ b < w.heap.size ∧ w.cell? ⟨b, 0, none⟩ = some (.int .u8 d)
theorem ByteAt.new {w w' : World} {X : Value} {d : Int} (h : ByteAt w X d) (hn : New w w') : ByteAt w' X d := by
  obtain ⟨b, rfl, hb, hc⟩ := h
  exact ⟨b, rfl, Nat.lt_of_lt_of_le hb hn.size, (hn.cell hb).trans hc⟩
theorem byteAt_alloc (w : World) (d : Int) (T : TypeId) : ByteAt (w.alloc (.cells #[.int .u8 d] T)) (.slice (some ⟨w.heap.size, 0, none⟩) 1 1) d :=
  ⟨_, rfl, by simp, by rw [cell_alloc_new _ _ _ _ _ rfl]; rfl⟩
theorem conv_byte (w : World) (b d cap : Nat) (z : Int) (hd : d < 256) (hz : z = (d : Int)) (hc : w.cell? ⟨b, 0, none⟩ = some (.int .u8 z)) :
    (convert 31 9 (.slice (some ⟨b, 0, none⟩) 1 cap)).run Tryz.prog w = .ok (.string (strL [UInt8.ofNat d])) w := by
  subst hz
  have h := run_convert_bytes_back (P := Tryz.prog) w 31 9 5 ⟨b, 0, none⟩ cap [UInt8.ofNat d] Tryz.underlying31 Tryz.underlying5 Tryz.underlying9 (fun j hj => by
    have hj0 : j = 0 := by simpa using hj
    subst hj0
    have e : (⟨b, 0, none⟩ : Addr).add 0 = ⟨b, 0, none⟩ := by unfold Addr.add; split <;> simp_all
    rw [e, hc]
    have : (UInt8.ofNat d).toNat = d := by simp; omega
    simp [this])
  exact h
/-- A digit's byte. -/
def dch (d : Nat) : UInt8 := UInt8.ofNat (48 + d)
theorem conv_digit (w : World) (b d cap : Nat) (z : Int) (hd : d < 10) (hz : z = 48 + (d : Int)) (hc : w.cell? ⟨b, 0, none⟩ = some (.int .u8 z)) :
    (convert 31 9 (.slice (some ⟨b, 0, none⟩) 1 cap)).run Tryz.prog w = .ok (.string (strL [dch d])) w := conv_byte w b (48 + d) cap z (by omega) (by omega) hc
theorem dec_lt' {u : Nat} (h : u < 10) : Lib.decDigits u = [dch u] := dec_lt h
theorem dec_ge' {u : Nat} (h : ¬ u < 10) : Lib.decDigits u = Lib.decDigits (u / 10) ++ [dch (u % 10)] := dec_ge h
theorem i64_in' (x : Int) (h : -9223372036854775808 ≤ x) (h' : x ≤ 9223372036854775807) : IntKind.i64.wrap x = x := IntWalk.i64_in _ ⟨h, h'⟩
theorem ret_str {l m : List UInt8} (h : l = m) : Ending.returned (.string (strL l)) = .returned (.string (strL m)) := by rw [h]
set_option maxHeartbeats 1000000 in
theorem sDec_any : ∀ (u : Nat) (w : World), u ≤ 9223372036854775807 → Calls Tryz.prog 53 #[.int .i64 (u : Int)] w fun e w' => e = .returned (.string (strL (Lib.decDigits u))) ∧ New w w' := by
  refine dec_ind (fun u h w hu => ?_) (fun u h ih w hu => ?_)
  · have hcv := fun (w0 : World) => conv_digit (w0.alloc (.cells #[.int .u8 (48 + (u : Int))] 5)) w0.heap.size u 1 (48 + (u : Int)) h rfl (by rw [cell_alloc_new _ _ _ _ _ rfl]; rfl)
    have hd := Lib.hid (dec_lt' h)
    have h10 : (u : Int) < 10 := by omega
    go_enter Tryz.func53, Tryz.ntmps53
    go_wp2_with fail
    go_ret
    exact ⟨ret_str hd.out.symm, (by repeat (first | with_reducible exact New.refl _ | with_reducible assumption | with_reducible refine New.drew ?_ | with_reducible refine New.drewN ?_ _ | with_reducible refine New.alloc ?_ _ | with_reducible refine New.setCell ?_ (by first | (simp; done) | (simp; omega) | omega) _ | with_reducible refine New.trans ?_ (by with_reducible assumption)))⟩
  · have h10 : ¬ (u : Int) < 10 := by omega
    have HI := Lib.hid (fun (w0 : World) => ih w0 (by omega))
    rw [show (((u / 10 : Nat) : Int)) = (u : Int) / 10 by omega] at HI
    have hd := Lib.hid (dec_ge' h)
    have hm := Lib.hid (show (48 + (u : Int) % 10) = 48 + ((u % 10 : Nat) : Int) by omega)
    clear ih
    go_enter Tryz.func53, Tryz.ntmps53
    go_wp2_with fail
    have g1 := i64_in' ((u : Int) / 10) (by omega) (by omega)
    have g2 : (u : Int).tmod 10 = (u : Int) % 10 := Int.tmod_eq_emod_of_nonneg (by omega)
    have g3 := i64_in' (48 + (u : Int) % 10) (by omega) (by omega)
    have g4 : IntKind.u8.wrap (48 + (u : Int) % 10) = 48 + (u : Int) % 10 := by show (48 + (u : Int) % 10) % 256 = _; omega
    have g5 : ¬ (9223372036854775807 < (strL (Lib.decDigits (u / 10))).size + (strL [dch (u % 10)]).size) := by
      rw [strL_size, strL_size]
      have := dec_len 18 (u / 10) (by omega)
      simp; omega
    refine RG.wp_facts [fun X _ => X = .int .i64 (u : Int), fun X _ => X = .int .i64 ((u : Int) / 10), fun X _ => X = .string (strL (Lib.decDigits (u / 10))), fun X _ => X = .int .i64 (u : Int), fun X _ => X = .int .i64 ((u : Int) % 10), fun X _ => X = .int .i64 (48 + (u : Int) % 10), fun X _ => X = .int .u8 (48 + (u : Int) % 10), fun X W' => ByteAt W' X (48 + (u : Int) % 10), fun X _ => X = .string (strL [dch (u % 10)]), fun X _ => X = .string (strL (Lib.decDigits (u / 10)) ++ strL [dch (u % 10)])] (by kernel_rfl) (by kernel_rfl) ⟨RG.stable_eq _, RG.stable_eq _, RG.stable_eq _, RG.stable_eq _, RG.stable_eq _, RG.stable_eq _, RG.stable_eq _, fun X w0 w1 hn ⟨b17, t17, l17, c17⟩ => ByteAt.new ⟨b17, t17, l17, c17⟩ hn, RG.stable_eq _, RG.stable_eq _, trivial⟩ ?_ ?_
    · refine ⟨?_, ?_, ?_, ?_, ?_, ?_, ?_, ?_, ?_, ?_, trivial⟩
      · intro a w9 hw ho hk
        refine .inl ⟨by rfl, ?_⟩
        have t2 := ho 0 rfl
        dsimp at t2
        try with_reducible replace hw := New.undrawN hw
        try with_reducible replace hw := New.undraw hw
        obtain ⟨c, f'⟩ := hw.rules
        go_simp
        exact New.refl _
      · intro a w9 hw ho hk
        refine .inl ⟨by rfl, ?_⟩
        have t10 : a.tmps[10]?.getD undef = .int .i64 (u : Int) := hk 0 10 (by kernel_rfl) rfl
        go_simp
        exact New.refl _
      · intro a w9 hw ho hk
        refine .inl ⟨by rfl, ?_⟩
        have t11 : a.tmps[11]?.getD undef = .int .i64 ((u : Int) / 10) := hk 1 11 (by kernel_rfl) rfl
        go_simp
        refine (HI.out _).mono ?_; rintro e w2 ⟨rfl, hb⟩
        first | exact ⟨hb, _, rfl, by simp⟩ | exact ⟨hb, by simp⟩
      · intro a w9 hw ho hk
        refine .inl ⟨by rfl, ?_⟩
        have t2 := ho 0 rfl
        dsimp at t2
        try with_reducible replace hw := New.undrawN hw
        try with_reducible replace hw := New.undraw hw
        obtain ⟨c, f'⟩ := hw.rules
        go_simp
        exact New.refl _
      · intro a w9 hw ho hk
        refine .inl ⟨by rfl, ?_⟩
        have t13 : a.tmps[13]?.getD undef = .int .i64 (u : Int) := hk 3 13 (by kernel_rfl) rfl
        go_simp
        exact New.refl _
      · intro a w9 hw ho hk
        refine .inl ⟨by rfl, ?_⟩
        have t14 : a.tmps[14]?.getD undef = .int .i64 ((u : Int) % 10) := hk 4 14 (by kernel_rfl) rfl
        go_simp
        exact New.refl _
      · intro a w9 hw ho hk
        refine .inl ⟨by rfl, ?_⟩
        have t15 : a.tmps[15]?.getD undef = .int .i64 (48 + (u : Int) % 10) := hk 5 15 (by kernel_rfl) rfl
        go_simp
        exact New.refl _
      · intro a w9 hw ho hk
        refine .inl ⟨by rfl, ?_⟩
        have t16 : a.tmps[16]?.getD undef = .int .u8 (48 + (u : Int) % 10) := hk 6 16 (by kernel_rfl) rfl
        go_simp
        first | exact ⟨(New.refl _).alloc _, _, rfl, byteAt_alloc _ _ _⟩ | exact ⟨(New.refl _).alloc _, byteAt_alloc _ _ _⟩
      · intro a w9 hw ho hk
        refine .inl ⟨by rfl, ?_⟩
        obtain ⟨b17, t17, l17, c17⟩ : ByteAt w9 (a.tmps[17]?.getD undef) (48 + (u : Int) % 10) := hk 7 17 (by kernel_rfl) rfl
        have hcv := conv_digit w9 b17 (u % 10) 1 _ (by omega) hm.out c17; go_simp; exact New.refl _
      · intro a w9 hw ho hk
        refine .inl ⟨by rfl, ?_⟩
        have t12 : a.tmps[12]?.getD undef = .string (strL (Lib.decDigits (u / 10))) := hk 2 12 (by kernel_rfl) rfl
        have t18 : a.tmps[18]?.getD undef = .string (strL [dch (u % 10)]) := hk 8 18 (by kernel_rfl) rfl
        go_simp
        exact New.refl _
    intro w1 b1 y0 g0 y1 g1 y2 g2 y3 g3 y4 g4 y5 g5 y6 g6 y7 g7 y8 g8 y9 g9
    obtain ⟨b17, rfl, l17, c17⟩ := g7
    subst g0 g1 g2 g3 g4 g5 g6 g8 g9
    try with_reducible replace b1 := New.undrawN b1
    try with_reducible replace b1 := New.undraw b1
    obtain ⟨c1, f1⟩ := b1.rules
    have z1 := b1.size
    try simp only [World.size_alloc, World.size_drew, World.heap_drewN, World.size_setCell] at z1
    simp only [RG.EndAll, List.nil_append, List.cons_append, List.length_cons, List.length_nil, Nat.zero_add, Nat.reduceAdd, List.take_succ_cons, List.take_zero, List.drop_succ_cons, List.drop_zero, RG.putAll, Act.put, List.setIfInBounds_toArray, List.set_cons_succ, List.set_cons_zero]
    go_wp2_with fail
    go_ret
    exact ⟨by rw [hd.out, ← strL_app]; rfl, (by repeat (first | with_reducible exact New.refl _ | with_reducible assumption | with_reducible refine New.drew ?_ | with_reducible refine New.drewN ?_ _ | with_reducible refine New.alloc ?_ _ | with_reducible refine New.setCell ?_ (by first | (simp; done) | (simp; omega) | omega) _ | with_reducible refine New.trans ?_ (by with_reducible assumption)))⟩
theorem take_snocB (s : ByteArray) (k : Nat) (h : k < s.size) : s.data.toList.take (k + 1) = s.data.toList.take k ++ [s[k]] := by
  rw [List.take_succ_eq_append_getElem (by simpa using h)]; rfl
theorem all_take {p : UInt8 → Bool} {s : ByteArray} {k : Nat} (hk : k < s.size) (h : p s[k] = false) : s.data.toList.all p = false := by
  rw [Bool.eq_false_iff]; intro h'
  rw [allB_at.1 h' k hk] at h; cases h
set_option maxHeartbeats 1000000 in
theorem sValue_any (s : ByteArray) (w : World) (hs : s.size ≤ 1048576) :
    Calls Tryz.prog 73 #[.string s] w fun e w' => e = .returned (.tuple #[.int .i64 (sval s.data.toList).1, .bool (sval s.data.toList).2]) ∧ New w w' := by
  have hlen : s.data.toList.length = s.size := by rw [Array.length_toList]; rfl
  obtain ⟨R, hR⟩ : ∃ R, sval s.data.toList = R := ⟨_, rfl⟩
  rw [hR]
  replace hR := Lib.hid hR
  obtain ⟨rv, rb⟩ := R
  by_cases h12 : 1 ≤ s.size ∧ s.size ≤ 12
  · obtain ⟨h1, h2⟩ := h12
    have hb1 : ¬ ((s.size : Int) < 1) := by omega
    have hb2 : ¬ ((12 : Int) < (s.size : Int)) := by omega
    have HL := Lib.hid hlen
    clear hlen
    go_enter Tryz.func73, Tryz.ntmps73
    go_wp2_with fail
    go_loop [4, 5] (fun n i => ∃ k : Nat, k ≤ s.size ∧ i = .int .i64 k ∧ n = .int .i64 (dv 0 (s.data.toList.take k) : Nat) ∧ Hid ((s.data.toList.take k).all isDig = true)) (fun _ i => s.size - (intOf i).toNat)
    case atStart => exact ⟨0, Nat.zero_le _, rfl, rfl, Lib.hid (by simp)⟩
    case round =>
      obtain ⟨k, hk, rfl, rfl, hd⟩ := hrel
      have hlt0 := dv_lt 0 _ hd.out
      have hlen2 : (s.data.toList.take k).length ≤ k := List.length_take_le _ _
      have hpow : 10 ^ (s.data.toList.take k).length ≤ 10 ^ 12 := Nat.pow_le_pow_right (by omega) (by omega)
      have hn : dv 0 (s.data.toList.take k) < 1000000000000 := by omega
      clear hlt0 hpow hlen2
      by_cases hlt : k < s.size
      · have HT := Lib.hid (take_snocB s k hlt)
        rcases Bool.eq_false_or_eq_true (isDig s[k]) with h | h
        · have h' := h
          simp only [isDig, Bool.and_eq_true, decide_eq_true_eq] at h'
          obtain ⟨hc1, hc2⟩ := h'
          have hc1' : ¬ ((s[k].toNat : Int) < 48) := by omega
          have hc2' : ¬ ((57 : Int) < (s[k].toNat : Int)) := by omega
          have HA := Lib.hid (show (s.data.toList.take (k + 1)).all isDig = true by rw [HT.out, List.all_append, hd.out]; simp [h])
          have HV := Lib.hid (show dv 0 (s.data.toList.take (k + 1)) = dv 0 (s.data.toList.take k) * 10 + (s[k].toNat - 48) by rw [HT.out, dv_app]; rfl)
          go_wp2_with fail
          go_round
          case rel => exact ⟨k + 1, by omega, by go_num, by rw [HV.out]; exact congrArg (Value.int .i64) (by omega), HA⟩
          case measure => simp [intOf]; omega
        · have hF : sval s.data.toList = (0, false) := by rw [sval, if_neg (by rw [svD, all_take hlt h]; simp)]
          obtain ⟨rfl, rfl⟩ := Prod.mk.inj (hR.out.symm.trans hF)
          have h' := h
          simp only [isDig, Bool.and_eq_false_iff, decide_eq_false_iff_not] at h'
          clear HT hd hR hF
          by_cases hc : (s[k].toNat : Int) < 48
          · go_wp2_with fail
            go_ret2
            exact ⟨rfl, New.refl _⟩
          · have hc2 : (57 : Int) < (s[k].toNat : Int) := by omega
            clear h'
            go_wp2_with fail
            go_ret2
            exact ⟨rfl, New.refl _⟩
      · obtain rfl : k = s.size := by omega
        have hall : s.data.toList.take s.size = s.data.toList := List.take_of_length_le (by rw [HL.out]; exact Nat.le_refl _)
        rw [hall] at hd hn
        obtain ⟨m, hm⟩ : ∃ m, dv 0 (s.data.toList.take s.size) = m := ⟨_, rfl⟩
        rw [hm]
        rw [hall] at hm
        have hF : sval s.data.toList = (((dv 0 s.data.toList : Nat) : Int), Lib.decDigits (dv 0 s.data.toList) == s.data.toList) := by rw [sval, if_pos (by rw [svD, hd.out, HL.out]; simp; omega)]
        obtain ⟨rfl, rfl⟩ := Prod.mk.inj (hR.out.symm.trans hF)
        have HD := Lib.hid (fun (w0 : World) => sDec_any (dv 0 s.data.toList) w0 (by omega))
        rw [hm] at HD
        subst hm
        clear hall hF hR
        go_wp2_with fail
        refine (HD.out _).mono ?_; rintro e w1 ⟨rfl, b1⟩
        try with_reducible replace b1 := New.undrawN b1
        try with_reducible replace b1 := New.undraw b1
        obtain ⟨c1, f1⟩ := b1.rules
        have z1 := b1.size
        try simp only [World.size_alloc, World.size_drew, World.heap_drewN, World.size_setCell] at z1
        go_wp2_with fail
        refine bodyPost_ret (v := .tuple #[.int .i64 (dv 0 s.data.toList : Nat), .bool (Lib.decDigits (dv 0 s.data.toList) == s.data.toList)]) ?_ rfl ⟨rfl, (by repeat (first | with_reducible exact New.refl _ | with_reducible assumption | with_reducible refine New.drew ?_ | with_reducible refine New.drewN ?_ _ | with_reducible refine New.alloc ?_ _ | with_reducible refine New.setCell ?_ (by first | (simp; done) | (simp; omega) | omega) _ | with_reducible refine New.trans ?_ (by with_reducible assumption)))⟩
        simp [results, Tryz.results73, go_sem, strL_cmp]
  · have hF : sval s.data.toList = (0, false) := by rw [sval, if_neg (by rw [svD, hlen]; simp; omega)]
    obtain ⟨rfl, rfl⟩ := Prod.mk.inj (hR.out.symm.trans hF)
    clear hlen hR
    by_cases h1 : (s.size : Int) < 1
    · go_enter Tryz.func73, Tryz.ntmps73
      go_wp2_with fail
      go_ret2
      exact ⟨rfl, New.refl _⟩
    · have h2 : (12 : Int) < (s.size : Int) := by omega
      clear h12
      go_enter Tryz.func73, Tryz.ntmps73
      go_wp2_with fail
      go_ret2
      exact ⟨rfl, New.refl _⟩
def isNumB (l : List UInt8) : Bool := (sval l).2 && decide ((sval l).1 ≤ 9999)
theorem isCnt_num (l : List UInt8) : isCnt l = isNumB l := num_same l 9999 (by omega)
theorem sNumber_any (s : ByteArray) (w : World) (hs : s.size ≤ 1048576) :
    Calls Tryz.prog 101 #[.string s] w fun e w' => e = .returned (.bool (isNumB s.data.toList)) ∧ New w w' := by
  have HC := Lib.hid (sValue_any s w hs)
  unfold isNumB
  generalize sval s.data.toList = R at HC
  obtain ⟨v, ok⟩ := R
  cases ok with
  | false =>
    go_enter Tryz.func101, Tryz.ntmps101
    go_wp2_with fail
    refine (HC.out).mono ?_; rintro e w1 ⟨rfl, b1⟩
    try with_reducible replace b1 := New.undrawN b1
    try with_reducible replace b1 := New.undraw b1
    obtain ⟨c1, f1⟩ := b1.rules
    have z1 := b1.size
    try simp only [World.size_alloc, World.size_drew, World.heap_drewN, World.size_setCell] at z1
    go_wp2_with fail
    go_ret
    exact ⟨rfl, (by repeat (first | with_reducible exact New.refl _ | with_reducible assumption | with_reducible refine New.drew ?_ | with_reducible refine New.drewN ?_ _ | with_reducible refine New.alloc ?_ _ | with_reducible refine New.setCell ?_ (by first | (simp; done) | (simp; omega) | omega) _ | with_reducible refine New.trans ?_ (by with_reducible assumption)))⟩
  | true =>
    go_enter Tryz.func101, Tryz.ntmps101
    go_wp2_with fail
    refine (HC.out).mono ?_; rintro e w1 ⟨rfl, b1⟩
    try with_reducible replace b1 := New.undrawN b1
    try with_reducible replace b1 := New.undraw b1
    obtain ⟨c1, f1⟩ := b1.rules
    have z1 := b1.size
    try simp only [World.size_alloc, World.size_drew, World.heap_drewN, World.size_setCell] at z1
    go_wp2_with fail
    go_ret
    exact ⟨by simp, (by repeat (first | with_reducible exact New.refl _ | with_reducible assumption | with_reducible refine New.drew ?_ | with_reducible refine New.drewN ?_ _ | with_reducible refine New.alloc ?_ _ | with_reducible refine New.setCell ?_ (by first | (simp; done) | (simp; omega) | omega) _ | with_reducible refine New.trans ?_ (by with_reducible assumption)))⟩
end Go.Proofs.YtekpbmoagabmeaaGreatDoor
