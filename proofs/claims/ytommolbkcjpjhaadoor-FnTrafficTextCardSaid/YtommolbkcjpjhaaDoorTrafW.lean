/- Contracts: texts of traffics. -/
import Derived.Test.YtommolbkcjpjhaaDoorProg
import Derived.Test.YtommolbkcjpjhaaDoorNumW
import Derived.Test.YtommolbkcjpjhaaDoorTrafU
import Derived.Test.YtommolbkcjpjhaaDoorPtrW
namespace Go.Proofs.YtommolbkcjpjhaaDoor
open Go Go.Proofs Go.RowKit
set_option linter.unusedVariables false
set_option linter.unusedSimpArgs false
set_option maxRecDepth 100000
def phL (q : Nat) : UInt8 := if q = 0 then 114 else if q = 1 then 104 else 99
def tpiece (p : Int) : List UInt8 := 32 :: (Lib.decDigits (p.toNat / 3) ++ [phL (p.toNat % 3)])
def ttext (n : Int) (ps : List Int) : List UInt8 := Lib.decDigits n.toNat ++ ps.flatMap tpiece
theorem ttext_next {n : Int} {ps : List Int} {k : Nat} (h : k < ps.length) : ttext n (ps.take (k + 1)) = ttext n (ps.take k) ++ tpiece ps[k] := by
  rw [ttext, ttext, List.take_succ_eq_append_getElem h, List.flatMap_append, List.append_assoc]; simp
theorem dec_one {u : Nat} (h : u < 10) : (Lib.decDigits u).length = 1 := by rw [dec_lt h]; rfl
theorem tpiece_len {n p : Int} (hn : n ≤ 8) (h0 : 0 ≤ p) (h1 : p ≤ 3 * n - 1) : (tpiece p).length = 3 := by
  rw [tpiece, List.length_cons, List.length_append, dec_one (by omega)]; rfl
theorem ttext_len {n : Int} (hn : 2 ≤ n ∧ n ≤ 8) : ∀ {ps : List Int}, (∀ p ∈ ps, 0 ≤ p ∧ p ≤ 3 * n - 1) → (ttext n ps).length = 1 + 3 * ps.length := by
  intro ps h
  rw [ttext, List.length_append, dec_one (by omega)]
  induction ps with
  | nil => rfl
  | cons p ps ih =>
    have := ih (fun q hq => h q (by simp [hq]))
    have hp := h p (by simp)
    rw [List.flatMap_cons, List.length_append, tpiece_len hn.2 hp.1 hp.2, List.length_cons]; omega
theorem piece_str (A D : List UInt8) (c : UInt8) : strL (A ++ 32 :: (D ++ [c])) = strL A ++ ((strL [32] ++ strL D) ++ strL [c]) := by rw [strL_app, strL_app, strL_app]; simp
theorem traf_places {n : Int} {ps : List Int} (h : isTraf n ps = true) : (2 ≤ n ∧ n ≤ 8) ∧ ps.length ≤ 4 ∧ ∀ p ∈ ps, 0 ≤ p ∧ p ≤ 3 * n - 1 := by
  obtain ⟨h1, ⟨_, h2⟩, h3⟩ := isTraf_ok h
  refine ⟨h1, h2, fun p hp => ?_⟩
  have := h3 p hp
  omega
set_option maxHeartbeats 2000000 in
theorem iTrafficText2_any (n : Int) (v : Value) (ps : List Int) (w : World) (hv : RdI w v ps) (ht : isTraf n ps = true) (hp : PW w) :
    Calls Tryd.prog 19 #[.agg #[.int .i64 n, v]] w fun e w' => e = .returned (.string (strL (ttext n ps))) ∧ New w w' := by
  obtain ⟨⟨hn1, hn2⟩, hl4, hps⟩ := traf_places ht
  obtain ⟨a, cap, rfl, hm, HC⟩ := hv.open
  have HP := Lib.hid hp
  have HPS := Lib.hid hps
  have HD := Lib.hid (fun (u : Nat) (h : u ≤ 1000) (w0 : World) (hw : New w w0) => by
    have h1 := iDecimal_any (u : Int) w0 (by omega) (by omega) (HP.out.new hw)
    rw [itoa_nat] at h1
    exact h1)
  have HLN := Lib.hid (fun (k : Nat) (hk : k ≤ ps.length) => (by rw [strL_size, ttext_len ⟨hn1, hn2⟩ (fun p hp => hps p (List.mem_of_mem_take hp)), List.length_take_of_le hk] : (strL (ttext n (ps.take k))).size = 1 + 3 * k))
  obtain ⟨nn, rfl⟩ := Int.eq_ofNat_of_zero_le (show 0 ≤ n by omega)
  clear hv ht hp hps
  go_enter Tryd.func19, Tryd.ntmps19
  go_wp2_with fail
  refine (HD.out nn (by omega) _ (by repeat (first | with_reducible exact New.refl _ | with_reducible assumption | with_reducible refine New.drew ?_ | with_reducible refine New.drewN ?_ _ | with_reducible refine New.alloc ?_ _ | with_reducible refine New.setCell ?_ (by first | (simp; done) | (simp; omega) | omega) _ | with_reducible refine New.trans ?_ (by with_reducible assumption)))).mono ?_; rintro e w1 ⟨rfl, b1⟩
  try with_reducible replace b1 := New.undrawN b1
  try with_reducible replace b1 := New.undraw b1
  obtain ⟨c1, f1⟩ := b1.rules
  have z1 := b1.size
  try simp only [World.size_alloc, World.size_drew, World.heap_drewN, World.size_setCell] at z1
  have z1_0 : w.heap.size < w1.heap.size := by omega
  go_wp2_with fail
  go_loopw [3, 12] (fun t i wr => ∃ k : Nat, k ≤ ps.length ∧ i = .int .i64 k ∧ t = .string (strL (ttext nn (ps.take k))) ∧ New w wr) (fun _ i _ => ps.length - (intOf i).toNat)
  case atStart => exact ⟨0, Nat.zero_le _, rfl, by simp [ttext], (by repeat (first | with_reducible exact New.refl _ | with_reducible assumption | with_reducible refine New.drew ?_ | with_reducible refine New.drewN ?_ _ | with_reducible refine New.alloc ?_ _ | with_reducible refine New.setCell ?_ (by first | (simp; done) | (simp; omega) | omega) _ | with_reducible refine New.trans ?_ (by with_reducible assumption)))⟩
  case round =>
    obtain ⟨k, hk, rfl, rfl, hN⟩ := hrel
    by_cases hlt : k < ps.length
    · obtain ⟨b, off, rfl, hbl, hx⟩ := HC.out wr hN k hlt
      have hpk := HPS.out ps[k] (List.getElem_mem hlt)
      have HT := Lib.hid (ttext_next (n := (nn : Int)) hlt)
      have hz := HLN.out k hk
      generalize ps[k] = p at hx hpk HT
      obtain ⟨m, rfl⟩ := Int.eq_ofNat_of_zero_le hpk.1
      have hm24 : m < 24 := by omega
      have HDm := HD.out (m / 3) (by omega)
      rw [show (((m / 3 : Nat) : Int)) = (m : Int) / 3 by omega] at HDm
      replace HDm := Lib.hid HDm
      have hzs : (strL (Lib.decDigits (m / 3))).size = 1 := by rw [strL_size, dec_one (by omega)]
      rcases (by omega : m % 3 = 0 ∨ m % 3 = 1 ∨ m % 3 = 2) with h3 | h3 | h3
      · skip
        have g1 := i64_in' ((m : Int) / 3) (by omega) (by omega)
        have g2 : (m : Int).tmod 3 = 0 := by rw [Int.tmod_eq_emod_of_nonneg (by omega)]; omega
        have g3w : IntKind.i64.wrap 1 = 1 := i64_in' 1 (by omega) (by omega)
        have g4w : ({ data := #[114, 104, 99] } : ByteArray).extract 0 1 = ⟨#[114]⟩ := by decide +kernel
        have g5w : ¬ (9223372036854775807 < 1 + 3 * k + 3) := by omega
        have hph : phL (m % 3) = 114 := by rw [h3]; rfl
        have hpt := Lib.hid (show tpiece (m : Int) = 32 :: (Lib.decDigits (m / 3) ++ [114]) by rw [tpiece, Int.toNat_natCast, hph])
        clear hph h3
        go_wp2_with fail
        refine RG.wp_facts [fun X _ => X = .string (strL (ttext nn (ps.take k))), fun X _ => X = .int .i64 (m : Int), fun X _ => X = .int .i64 ((m : Int) / 3), fun X _ => X = .string (strL (Lib.decDigits (m / 3))), fun X _ => X = .string (⟨#[32]⟩ ++ strL (Lib.decDigits (m / 3))), fun X _ => X = .int .i64 (m : Int), fun X _ => X = .int .i64 0, fun X _ => X = .int .i64 (m : Int), fun X _ => X = .int .i64 0, fun X _ => X = .int .i64 1, fun X _ => X = .string ⟨#[114]⟩, fun X _ => X = .string ((⟨#[32]⟩ ++ strL (Lib.decDigits (m / 3))) ++ ⟨#[114]⟩), fun X _ => X = .string (strL (ttext nn (ps.take k)) ++ ((⟨#[32]⟩ ++ strL (Lib.decDigits (m / 3))) ++ ⟨#[114]⟩))] (by kernel_rfl) (by kernel_rfl) ⟨RG.stable_eq _, RG.stable_eq _, RG.stable_eq _, RG.stable_eq _, RG.stable_eq _, RG.stable_eq _, RG.stable_eq _, RG.stable_eq _, RG.stable_eq _, RG.stable_eq _, RG.stable_eq _, RG.stable_eq _, RG.stable_eq _, trivial⟩ ?_ ?_
        · refine ⟨?_, ?_, ?_, ?_, ?_, ?_, ?_, ?_, ?_, ?_, ?_, ?_, ?_, trivial⟩
          · intro a w9 hw ho hk
            refine .inl ⟨by rfl, ?_⟩
            have t2 := ho 3 rfl
            dsimp at t2
            try with_reducible replace hw := New.undrawN hw
            try with_reducible replace hw := New.undraw hw
            obtain ⟨c, f'⟩ := hw.rules
            go_simp
            exact New.refl _
          · intro a w9 hw ho hk
            refine .inl ⟨by rfl, ?_⟩
            have t2 := ho 5 rfl
            dsimp at t2
            try with_reducible replace hw := New.undrawN hw
            try with_reducible replace hw := New.undraw hw
            obtain ⟨c, f'⟩ := hw.rules
            go_simp
            exact New.refl _
          · intro a w9 hw ho hk
            refine .inl ⟨by rfl, ?_⟩
            have t17 : a.tmps[17]?.getD undef = .int .i64 (m : Int) := hk 1 17 (by kernel_rfl) rfl
            go_simp
            exact New.refl _
          · intro a w9 hw ho hk
            refine .inl ⟨by rfl, ?_⟩
            have t18 : a.tmps[18]?.getD undef = .int .i64 ((m : Int) / 3) := hk 2 18 (by kernel_rfl) rfl
            go_simp
            refine (HDm.out _ ((show New w wr by exact (by repeat (first | with_reducible exact New.refl _ | with_reducible assumption | with_reducible refine New.drew ?_ | with_reducible refine New.drewN ?_ _ | with_reducible refine New.alloc ?_ _ | with_reducible refine New.setCell ?_ (by first | (simp; done) | (simp; omega) | omega) _ | with_reducible refine New.trans ?_ (by with_reducible assumption)))).trans hw)).mono ?_; rintro e w2 ⟨rfl, hb⟩
            first | exact ⟨hb, _, rfl, by simp⟩ | exact ⟨hb, by simp⟩
          · intro a w9 hw ho hk
            refine .inl ⟨by rfl, ?_⟩
            have t19 : a.tmps[19]?.getD undef = .string (strL (Lib.decDigits (m / 3))) := hk 3 19 (by kernel_rfl) rfl
            go_simp
            exact New.refl _
          · intro a w9 hw ho hk
            refine .inl ⟨by rfl, ?_⟩
            have t2 := ho 5 rfl
            dsimp at t2
            try with_reducible replace hw := New.undrawN hw
            try with_reducible replace hw := New.undraw hw
            obtain ⟨c, f'⟩ := hw.rules
            go_simp
            exact New.refl _
          · intro a w9 hw ho hk
            refine .inl ⟨by rfl, ?_⟩
            have t21 : a.tmps[21]?.getD undef = .int .i64 (m : Int) := hk 5 21 (by kernel_rfl) rfl
            go_simp
            exact New.refl _
          · intro a w9 hw ho hk
            refine .inl ⟨by rfl, ?_⟩
            have t2 := ho 5 rfl
            dsimp at t2
            try with_reducible replace hw := New.undrawN hw
            try with_reducible replace hw := New.undraw hw
            obtain ⟨c, f'⟩ := hw.rules
            go_simp
            exact New.refl _
          · intro a w9 hw ho hk
            refine .inl ⟨by rfl, ?_⟩
            have t23 : a.tmps[23]?.getD undef = .int .i64 (m : Int) := hk 7 23 (by kernel_rfl) rfl
            go_simp
            exact New.refl _
          · intro a w9 hw ho hk
            refine .inl ⟨by rfl, ?_⟩
            have t24 : a.tmps[24]?.getD undef = .int .i64 0 := hk 8 24 (by kernel_rfl) rfl
            go_simp
            exact New.refl _
          · intro a w9 hw ho hk
            refine .inl ⟨by rfl, ?_⟩
            have t22 : a.tmps[22]?.getD undef = .int .i64 0 := hk 6 22 (by kernel_rfl) rfl
            have t25 : a.tmps[25]?.getD undef = .int .i64 1 := hk 9 25 (by kernel_rfl) rfl
            go_simp
            exact New.refl _
          · intro a w9 hw ho hk
            refine .inl ⟨by rfl, ?_⟩
            have t20 : a.tmps[20]?.getD undef = .string (⟨#[32]⟩ ++ strL (Lib.decDigits (m / 3))) := hk 4 20 (by kernel_rfl) rfl
            have t26 : a.tmps[26]?.getD undef = .string ⟨#[114]⟩ := hk 10 26 (by kernel_rfl) rfl
            go_simp
            exact New.refl _
          · intro a w9 hw ho hk
            refine .inl ⟨by rfl, ?_⟩
            have t16 : a.tmps[16]?.getD undef = .string (strL (ttext nn (ps.take k))) := hk 0 16 (by kernel_rfl) rfl
            have t27 : a.tmps[27]?.getD undef = .string ((⟨#[32]⟩ ++ strL (Lib.decDigits (m / 3))) ++ ⟨#[114]⟩) := hk 11 27 (by kernel_rfl) rfl
            go_simp
            exact New.refl _
        intro w2 b2 y0 g0 y1 g1' y2 g2' y3 g3 y4 g4 y5 g5 y6 g6 y7 g7 y8 g8 y9 g9 y10 g10 y11 g11 y12 g12
        subst g0 g1' g2' g3 g4 g5 g6 g7 g8 g9 g10 g11 g12
        try with_reducible replace b2 := New.undrawN b2
        try with_reducible replace b2 := New.undraw b2
        obtain ⟨c2, f2⟩ := b2.rules
        have z2 := b2.size
        try simp only [World.size_alloc, World.size_drew, World.heap_drewN, World.size_setCell] at z2
        simp only [RG.EndAll, List.nil_append, List.cons_append, List.length_cons, List.length_nil, Nat.zero_add, Nat.reduceAdd, List.take_succ_cons, List.take_zero, List.drop_succ_cons, List.drop_zero, RG.putAll, Act.put, List.setIfInBounds_toArray, List.set_cons_succ, List.set_cons_zero]
        go_wp2_with fail
        go_roundw
        case rel => exact ⟨k + 1, by omega, by go_num, by rw [HT.out, hpt.out, piece_str]; rfl, (by repeat (first | with_reducible exact New.refl _ | with_reducible assumption | with_reducible refine New.drew ?_ | with_reducible refine New.drewN ?_ _ | with_reducible refine New.alloc ?_ _ | with_reducible refine New.setCell ?_ (by first | (simp; done) | (simp; omega) | omega) _ | with_reducible refine New.trans ?_ (by with_reducible assumption)))⟩
        case measure => simp [intOf]; omega
      · skip
        have g1 := i64_in' ((m : Int) / 3) (by omega) (by omega)
        have g2 : (m : Int).tmod 3 = 1 := by rw [Int.tmod_eq_emod_of_nonneg (by omega)]; omega
        have g3w : IntKind.i64.wrap 2 = 2 := i64_in' 2 (by omega) (by omega)
        have g4w : ({ data := #[114, 104, 99] } : ByteArray).extract 1 2 = ⟨#[104]⟩ := by decide +kernel
        have g5w : ¬ (9223372036854775807 < 1 + 3 * k + 3) := by omega
        have hph : phL (m % 3) = 104 := by rw [h3]; rfl
        have hpt := Lib.hid (show tpiece (m : Int) = 32 :: (Lib.decDigits (m / 3) ++ [104]) by rw [tpiece, Int.toNat_natCast, hph])
        clear hph h3
        go_wp2_with fail
        refine RG.wp_facts [fun X _ => X = .string (strL (ttext nn (ps.take k))), fun X _ => X = .int .i64 (m : Int), fun X _ => X = .int .i64 ((m : Int) / 3), fun X _ => X = .string (strL (Lib.decDigits (m / 3))), fun X _ => X = .string (⟨#[32]⟩ ++ strL (Lib.decDigits (m / 3))), fun X _ => X = .int .i64 (m : Int), fun X _ => X = .int .i64 1, fun X _ => X = .int .i64 (m : Int), fun X _ => X = .int .i64 1, fun X _ => X = .int .i64 2, fun X _ => X = .string ⟨#[104]⟩, fun X _ => X = .string ((⟨#[32]⟩ ++ strL (Lib.decDigits (m / 3))) ++ ⟨#[104]⟩), fun X _ => X = .string (strL (ttext nn (ps.take k)) ++ ((⟨#[32]⟩ ++ strL (Lib.decDigits (m / 3))) ++ ⟨#[104]⟩))] (by kernel_rfl) (by kernel_rfl) ⟨RG.stable_eq _, RG.stable_eq _, RG.stable_eq _, RG.stable_eq _, RG.stable_eq _, RG.stable_eq _, RG.stable_eq _, RG.stable_eq _, RG.stable_eq _, RG.stable_eq _, RG.stable_eq _, RG.stable_eq _, RG.stable_eq _, trivial⟩ ?_ ?_
        · refine ⟨?_, ?_, ?_, ?_, ?_, ?_, ?_, ?_, ?_, ?_, ?_, ?_, ?_, trivial⟩
          · intro a w9 hw ho hk
            refine .inl ⟨by rfl, ?_⟩
            have t2 := ho 3 rfl
            dsimp at t2
            try with_reducible replace hw := New.undrawN hw
            try with_reducible replace hw := New.undraw hw
            obtain ⟨c, f'⟩ := hw.rules
            go_simp
            exact New.refl _
          · intro a w9 hw ho hk
            refine .inl ⟨by rfl, ?_⟩
            have t2 := ho 5 rfl
            dsimp at t2
            try with_reducible replace hw := New.undrawN hw
            try with_reducible replace hw := New.undraw hw
            obtain ⟨c, f'⟩ := hw.rules
            go_simp
            exact New.refl _
          · intro a w9 hw ho hk
            refine .inl ⟨by rfl, ?_⟩
            have t17 : a.tmps[17]?.getD undef = .int .i64 (m : Int) := hk 1 17 (by kernel_rfl) rfl
            go_simp
            exact New.refl _
          · intro a w9 hw ho hk
            refine .inl ⟨by rfl, ?_⟩
            have t18 : a.tmps[18]?.getD undef = .int .i64 ((m : Int) / 3) := hk 2 18 (by kernel_rfl) rfl
            go_simp
            refine (HDm.out _ ((show New w wr by exact (by repeat (first | with_reducible exact New.refl _ | with_reducible assumption | with_reducible refine New.drew ?_ | with_reducible refine New.drewN ?_ _ | with_reducible refine New.alloc ?_ _ | with_reducible refine New.setCell ?_ (by first | (simp; done) | (simp; omega) | omega) _ | with_reducible refine New.trans ?_ (by with_reducible assumption)))).trans hw)).mono ?_; rintro e w2 ⟨rfl, hb⟩
            first | exact ⟨hb, _, rfl, by simp⟩ | exact ⟨hb, by simp⟩
          · intro a w9 hw ho hk
            refine .inl ⟨by rfl, ?_⟩
            have t19 : a.tmps[19]?.getD undef = .string (strL (Lib.decDigits (m / 3))) := hk 3 19 (by kernel_rfl) rfl
            go_simp
            exact New.refl _
          · intro a w9 hw ho hk
            refine .inl ⟨by rfl, ?_⟩
            have t2 := ho 5 rfl
            dsimp at t2
            try with_reducible replace hw := New.undrawN hw
            try with_reducible replace hw := New.undraw hw
            obtain ⟨c, f'⟩ := hw.rules
            go_simp
            exact New.refl _
          · intro a w9 hw ho hk
            refine .inl ⟨by rfl, ?_⟩
            have t21 : a.tmps[21]?.getD undef = .int .i64 (m : Int) := hk 5 21 (by kernel_rfl) rfl
            go_simp
            exact New.refl _
          · intro a w9 hw ho hk
            refine .inl ⟨by rfl, ?_⟩
            have t2 := ho 5 rfl
            dsimp at t2
            try with_reducible replace hw := New.undrawN hw
            try with_reducible replace hw := New.undraw hw
            obtain ⟨c, f'⟩ := hw.rules
            go_simp
            exact New.refl _
          · intro a w9 hw ho hk
            refine .inl ⟨by rfl, ?_⟩
            have t23 : a.tmps[23]?.getD undef = .int .i64 (m : Int) := hk 7 23 (by kernel_rfl) rfl
            go_simp
            exact New.refl _
          · intro a w9 hw ho hk
            refine .inl ⟨by rfl, ?_⟩
            have t24 : a.tmps[24]?.getD undef = .int .i64 1 := hk 8 24 (by kernel_rfl) rfl
            go_simp
            exact New.refl _
          · intro a w9 hw ho hk
            refine .inl ⟨by rfl, ?_⟩
            have t22 : a.tmps[22]?.getD undef = .int .i64 1 := hk 6 22 (by kernel_rfl) rfl
            have t25 : a.tmps[25]?.getD undef = .int .i64 2 := hk 9 25 (by kernel_rfl) rfl
            go_simp
            exact New.refl _
          · intro a w9 hw ho hk
            refine .inl ⟨by rfl, ?_⟩
            have t20 : a.tmps[20]?.getD undef = .string (⟨#[32]⟩ ++ strL (Lib.decDigits (m / 3))) := hk 4 20 (by kernel_rfl) rfl
            have t26 : a.tmps[26]?.getD undef = .string ⟨#[104]⟩ := hk 10 26 (by kernel_rfl) rfl
            go_simp
            exact New.refl _
          · intro a w9 hw ho hk
            refine .inl ⟨by rfl, ?_⟩
            have t16 : a.tmps[16]?.getD undef = .string (strL (ttext nn (ps.take k))) := hk 0 16 (by kernel_rfl) rfl
            have t27 : a.tmps[27]?.getD undef = .string ((⟨#[32]⟩ ++ strL (Lib.decDigits (m / 3))) ++ ⟨#[104]⟩) := hk 11 27 (by kernel_rfl) rfl
            go_simp
            exact New.refl _
        intro w2 b2 y0 g0 y1 g1' y2 g2' y3 g3 y4 g4 y5 g5 y6 g6 y7 g7 y8 g8 y9 g9 y10 g10 y11 g11 y12 g12
        subst g0 g1' g2' g3 g4 g5 g6 g7 g8 g9 g10 g11 g12
        try with_reducible replace b2 := New.undrawN b2
        try with_reducible replace b2 := New.undraw b2
        obtain ⟨c2, f2⟩ := b2.rules
        have z2 := b2.size
        try simp only [World.size_alloc, World.size_drew, World.heap_drewN, World.size_setCell] at z2
        simp only [RG.EndAll, List.nil_append, List.cons_append, List.length_cons, List.length_nil, Nat.zero_add, Nat.reduceAdd, List.take_succ_cons, List.take_zero, List.drop_succ_cons, List.drop_zero, RG.putAll, Act.put, List.setIfInBounds_toArray, List.set_cons_succ, List.set_cons_zero]
        go_wp2_with fail
        go_roundw
        case rel => exact ⟨k + 1, by omega, by go_num, by rw [HT.out, hpt.out, piece_str]; rfl, (by repeat (first | with_reducible exact New.refl _ | with_reducible assumption | with_reducible refine New.drew ?_ | with_reducible refine New.drewN ?_ _ | with_reducible refine New.alloc ?_ _ | with_reducible refine New.setCell ?_ (by first | (simp; done) | (simp; omega) | omega) _ | with_reducible refine New.trans ?_ (by with_reducible assumption)))⟩
        case measure => simp [intOf]; omega
      · skip
        have g1 := i64_in' ((m : Int) / 3) (by omega) (by omega)
        have g2 : (m : Int).tmod 3 = 2 := by rw [Int.tmod_eq_emod_of_nonneg (by omega)]; omega
        have g3w : IntKind.i64.wrap 3 = 3 := i64_in' 3 (by omega) (by omega)
        have g4w : ({ data := #[114, 104, 99] } : ByteArray).extract 2 3 = ⟨#[99]⟩ := by decide +kernel
        have g5w : ¬ (9223372036854775807 < 1 + 3 * k + 3) := by omega
        have hph : phL (m % 3) = 99 := by rw [h3]; rfl
        have hpt := Lib.hid (show tpiece (m : Int) = 32 :: (Lib.decDigits (m / 3) ++ [99]) by rw [tpiece, Int.toNat_natCast, hph])
        clear hph h3
        go_wp2_with fail
        refine RG.wp_facts [fun X _ => X = .string (strL (ttext nn (ps.take k))), fun X _ => X = .int .i64 (m : Int), fun X _ => X = .int .i64 ((m : Int) / 3), fun X _ => X = .string (strL (Lib.decDigits (m / 3))), fun X _ => X = .string (⟨#[32]⟩ ++ strL (Lib.decDigits (m / 3))), fun X _ => X = .int .i64 (m : Int), fun X _ => X = .int .i64 2, fun X _ => X = .int .i64 (m : Int), fun X _ => X = .int .i64 2, fun X _ => X = .int .i64 3, fun X _ => X = .string ⟨#[99]⟩, fun X _ => X = .string ((⟨#[32]⟩ ++ strL (Lib.decDigits (m / 3))) ++ ⟨#[99]⟩), fun X _ => X = .string (strL (ttext nn (ps.take k)) ++ ((⟨#[32]⟩ ++ strL (Lib.decDigits (m / 3))) ++ ⟨#[99]⟩))] (by kernel_rfl) (by kernel_rfl) ⟨RG.stable_eq _, RG.stable_eq _, RG.stable_eq _, RG.stable_eq _, RG.stable_eq _, RG.stable_eq _, RG.stable_eq _, RG.stable_eq _, RG.stable_eq _, RG.stable_eq _, RG.stable_eq _, RG.stable_eq _, RG.stable_eq _, trivial⟩ ?_ ?_
        · refine ⟨?_, ?_, ?_, ?_, ?_, ?_, ?_, ?_, ?_, ?_, ?_, ?_, ?_, trivial⟩
          · intro a w9 hw ho hk
            refine .inl ⟨by rfl, ?_⟩
            have t2 := ho 3 rfl
            dsimp at t2
            try with_reducible replace hw := New.undrawN hw
            try with_reducible replace hw := New.undraw hw
            obtain ⟨c, f'⟩ := hw.rules
            go_simp
            exact New.refl _
          · intro a w9 hw ho hk
            refine .inl ⟨by rfl, ?_⟩
            have t2 := ho 5 rfl
            dsimp at t2
            try with_reducible replace hw := New.undrawN hw
            try with_reducible replace hw := New.undraw hw
            obtain ⟨c, f'⟩ := hw.rules
            go_simp
            exact New.refl _
          · intro a w9 hw ho hk
            refine .inl ⟨by rfl, ?_⟩
            have t17 : a.tmps[17]?.getD undef = .int .i64 (m : Int) := hk 1 17 (by kernel_rfl) rfl
            go_simp
            exact New.refl _
          · intro a w9 hw ho hk
            refine .inl ⟨by rfl, ?_⟩
            have t18 : a.tmps[18]?.getD undef = .int .i64 ((m : Int) / 3) := hk 2 18 (by kernel_rfl) rfl
            go_simp
            refine (HDm.out _ ((show New w wr by exact (by repeat (first | with_reducible exact New.refl _ | with_reducible assumption | with_reducible refine New.drew ?_ | with_reducible refine New.drewN ?_ _ | with_reducible refine New.alloc ?_ _ | with_reducible refine New.setCell ?_ (by first | (simp; done) | (simp; omega) | omega) _ | with_reducible refine New.trans ?_ (by with_reducible assumption)))).trans hw)).mono ?_; rintro e w2 ⟨rfl, hb⟩
            first | exact ⟨hb, _, rfl, by simp⟩ | exact ⟨hb, by simp⟩
          · intro a w9 hw ho hk
            refine .inl ⟨by rfl, ?_⟩
            have t19 : a.tmps[19]?.getD undef = .string (strL (Lib.decDigits (m / 3))) := hk 3 19 (by kernel_rfl) rfl
            go_simp
            exact New.refl _
          · intro a w9 hw ho hk
            refine .inl ⟨by rfl, ?_⟩
            have t2 := ho 5 rfl
            dsimp at t2
            try with_reducible replace hw := New.undrawN hw
            try with_reducible replace hw := New.undraw hw
            obtain ⟨c, f'⟩ := hw.rules
            go_simp
            exact New.refl _
          · intro a w9 hw ho hk
            refine .inl ⟨by rfl, ?_⟩
            have t21 : a.tmps[21]?.getD undef = .int .i64 (m : Int) := hk 5 21 (by kernel_rfl) rfl
            go_simp
            exact New.refl _
          · intro a w9 hw ho hk
            refine .inl ⟨by rfl, ?_⟩
            have t2 := ho 5 rfl
            dsimp at t2
            try with_reducible replace hw := New.undrawN hw
            try with_reducible replace hw := New.undraw hw
            obtain ⟨c, f'⟩ := hw.rules
            go_simp
            exact New.refl _
          · intro a w9 hw ho hk
            refine .inl ⟨by rfl, ?_⟩
            have t23 : a.tmps[23]?.getD undef = .int .i64 (m : Int) := hk 7 23 (by kernel_rfl) rfl
            go_simp
            exact New.refl _
          · intro a w9 hw ho hk
            refine .inl ⟨by rfl, ?_⟩
            have t24 : a.tmps[24]?.getD undef = .int .i64 2 := hk 8 24 (by kernel_rfl) rfl
            go_simp
            exact New.refl _
          · intro a w9 hw ho hk
            refine .inl ⟨by rfl, ?_⟩
            have t22 : a.tmps[22]?.getD undef = .int .i64 2 := hk 6 22 (by kernel_rfl) rfl
            have t25 : a.tmps[25]?.getD undef = .int .i64 3 := hk 9 25 (by kernel_rfl) rfl
            go_simp
            exact New.refl _
          · intro a w9 hw ho hk
            refine .inl ⟨by rfl, ?_⟩
            have t20 : a.tmps[20]?.getD undef = .string (⟨#[32]⟩ ++ strL (Lib.decDigits (m / 3))) := hk 4 20 (by kernel_rfl) rfl
            have t26 : a.tmps[26]?.getD undef = .string ⟨#[99]⟩ := hk 10 26 (by kernel_rfl) rfl
            go_simp
            exact New.refl _
          · intro a w9 hw ho hk
            refine .inl ⟨by rfl, ?_⟩
            have t16 : a.tmps[16]?.getD undef = .string (strL (ttext nn (ps.take k))) := hk 0 16 (by kernel_rfl) rfl
            have t27 : a.tmps[27]?.getD undef = .string ((⟨#[32]⟩ ++ strL (Lib.decDigits (m / 3))) ++ ⟨#[99]⟩) := hk 11 27 (by kernel_rfl) rfl
            go_simp
            exact New.refl _
        intro w2 b2 y0 g0 y1 g1' y2 g2' y3 g3 y4 g4 y5 g5 y6 g6 y7 g7 y8 g8 y9 g9 y10 g10 y11 g11 y12 g12
        subst g0 g1' g2' g3 g4 g5 g6 g7 g8 g9 g10 g11 g12
        try with_reducible replace b2 := New.undrawN b2
        try with_reducible replace b2 := New.undraw b2
        obtain ⟨c2, f2⟩ := b2.rules
        have z2 := b2.size
        try simp only [World.size_alloc, World.size_drew, World.heap_drewN, World.size_setCell] at z2
        simp only [RG.EndAll, List.nil_append, List.cons_append, List.length_cons, List.length_nil, Nat.zero_add, Nat.reduceAdd, List.take_succ_cons, List.take_zero, List.drop_succ_cons, List.drop_zero, RG.putAll, Act.put, List.setIfInBounds_toArray, List.set_cons_succ, List.set_cons_zero]
        go_wp2_with fail
        go_roundw
        case rel => exact ⟨k + 1, by omega, by go_num, by rw [HT.out, hpt.out, piece_str]; rfl, (by repeat (first | with_reducible exact New.refl _ | with_reducible assumption | with_reducible refine New.drew ?_ | with_reducible refine New.drewN ?_ _ | with_reducible refine New.alloc ?_ _ | with_reducible refine New.setCell ?_ (by first | (simp; done) | (simp; omega) | omega) _ | with_reducible refine New.trans ?_ (by with_reducible assumption)))⟩
        case measure => simp [intOf]; omega
    · obtain rfl : k = ps.length := by omega
      rw [List.take_length] at *
      go_wp2_with fail
      go_ret
      exact ⟨rfl, (by repeat (first | with_reducible exact New.refl _ | with_reducible assumption | with_reducible refine New.drew ?_ | with_reducible refine New.drewN ?_ _ | with_reducible refine New.alloc ?_ _ | with_reducible refine New.setCell ?_ (by first | (simp; done) | (simp; omega) | omega) _ | with_reducible refine New.trans ?_ (by with_reducible assumption)))⟩
theorem iTrafficText_any (n : Int) (v : Value) (ps : List Int) (w : World) (hv : RdI w v ps) (hp : PW w) :
    Calls Tryd.prog 7 #[.agg #[.int .i64 n, v]] w fun e w' => e = .returned (.string (strL (if isTraf n ps then ttext n ps else []))) ∧ New w w' := by
  have HT := Lib.hid (fun (w0 : World) (h : RdI w0 v ps) => iIsTraffic_any n v ps w0 h)
  have HX := Lib.hid (fun (ht : isTraf n ps = true) (w0 : World) (h : RdI w0 v ps) (k : PW w0) => iTrafficText2_any n v ps w0 h ht k)
  have HP := Lib.hid hp
  have HV := Lib.hid hv
  obtain ⟨a, cap, rfl, hm, _⟩ := hv
  clear hp
  cases ht : isTraf n ps with
  | true =>
    rw [if_pos rfl]
    have HY := Lib.hid (HX.out ht)
    rw [ht] at HT
    clear ht HX
    go_enter Tryd.func7, Tryd.ntmps7
    go_wp2_with fail
    refine (HT.out _ (HV.out.new (by repeat (first | with_reducible exact New.refl _ | with_reducible assumption | with_reducible refine New.drew ?_ | with_reducible refine New.drewN ?_ _ | with_reducible refine New.alloc ?_ _ | with_reducible refine New.setCell ?_ (by first | (simp; done) | (simp; omega) | omega) _ | with_reducible refine New.trans ?_ (by with_reducible assumption))))).mono ?_; rintro e w1 ⟨rfl, b1⟩
    try with_reducible replace b1 := New.undrawN b1
    try with_reducible replace b1 := New.undraw b1
    obtain ⟨c1, f1⟩ := b1.rules
    have z1 := b1.size
    try simp only [World.size_alloc, World.size_drew, World.heap_drewN, World.size_setCell] at z1
    have z1_0 : w.heap.size < w1.heap.size := by omega
    go_wp2_with fail
    refine (HY.out _ (HV.out.new (by repeat (first | with_reducible exact New.refl _ | with_reducible assumption | with_reducible refine New.drew ?_ | with_reducible refine New.drewN ?_ _ | with_reducible refine New.alloc ?_ _ | with_reducible refine New.setCell ?_ (by first | (simp; done) | (simp; omega) | omega) _ | with_reducible refine New.trans ?_ (by with_reducible assumption)))) (HP.out.new (by repeat (first | with_reducible exact New.refl _ | with_reducible assumption | with_reducible refine New.drew ?_ | with_reducible refine New.drewN ?_ _ | with_reducible refine New.alloc ?_ _ | with_reducible refine New.setCell ?_ (by first | (simp; done) | (simp; omega) | omega) _ | with_reducible refine New.trans ?_ (by with_reducible assumption))))).mono ?_; rintro e w2 ⟨rfl, b2⟩
    try with_reducible replace b2 := New.undrawN b2
    try with_reducible replace b2 := New.undraw b2
    obtain ⟨c2, f2⟩ := b2.rules
    have z2 := b2.size
    try simp only [World.size_alloc, World.size_drew, World.heap_drewN, World.size_setCell] at z2
    go_wp2_with fail
    go_ret
    exact ⟨rfl, (by repeat (first | with_reducible exact New.refl _ | with_reducible assumption | with_reducible refine New.drew ?_ | with_reducible refine New.drewN ?_ _ | with_reducible refine New.alloc ?_ _ | with_reducible refine New.setCell ?_ (by first | (simp; done) | (simp; omega) | omega) _ | with_reducible refine New.trans ?_ (by with_reducible assumption)))⟩
  | false =>
    rw [if_neg (by simp)]
    rw [ht] at HT
    clear ht HX
    go_enter Tryd.func7, Tryd.ntmps7
    go_wp2_with fail
    refine (HT.out _ (HV.out.new (by repeat (first | with_reducible exact New.refl _ | with_reducible assumption | with_reducible refine New.drew ?_ | with_reducible refine New.drewN ?_ _ | with_reducible refine New.alloc ?_ _ | with_reducible refine New.setCell ?_ (by first | (simp; done) | (simp; omega) | omega) _ | with_reducible refine New.trans ?_ (by with_reducible assumption))))).mono ?_; rintro e w1 ⟨rfl, b1⟩
    try with_reducible replace b1 := New.undrawN b1
    try with_reducible replace b1 := New.undraw b1
    obtain ⟨c1, f1⟩ := b1.rules
    have z1 := b1.size
    try simp only [World.size_alloc, World.size_drew, World.heap_drewN, World.size_setCell] at z1
    have z1_0 : w.heap.size < w1.heap.size := by omega
    go_wp2_with fail
    go_ret
    exact ⟨rfl, (by repeat (first | with_reducible exact New.refl _ | with_reducible assumption | with_reducible refine New.drew ?_ | with_reducible refine New.drewN ?_ _ | with_reducible refine New.alloc ?_ _ | with_reducible refine New.setCell ?_ (by first | (simp; done) | (simp; omega) | omega) _ | with_reducible refine New.trans ?_ (by with_reducible assumption)))⟩
/-- The letters of the phases, laid. -/
def PhAt (w : World) (X : Value) : Prop := ∃ b, X = .slice (some ⟨b, 0, none⟩) 3 3 ∧ b < w.heap.size ∧ w.cell? ⟨b, 0, none⟩ = some (.string ⟨#[114]⟩) ∧ w.cell? ⟨b, 1, none⟩ = some (.string ⟨#[104]⟩) ∧ w.cell? ⟨b, 2, none⟩ = some (.string ⟨#[99]⟩)
theorem PhAt.new {w w' : World} {X : Value} (h : PhAt w X) (hn : New w w') : PhAt w' X := by
  obtain ⟨b, rfl, hb, h0, h1, h2⟩ := h
  exact ⟨b, rfl, Nat.lt_of_lt_of_le hb hn.size, (hn.cell hb).trans h0, (hn.cell hb).trans h1, (hn.cell hb).trans h2⟩
theorem phAt_alloc (w : World) (T : TypeId) : PhAt (w.alloc (.cells #[.string ⟨#[114]⟩, .string ⟨#[104]⟩, .string ⟨#[99]⟩] T)) (.slice (some ⟨w.heap.size, 0, none⟩) 3 3) :=
  ⟨_, rfl, by simp, by rw [cell_alloc_new _ _ _ _ _ rfl]; rfl, by rw [cell_alloc_new _ _ _ _ _ rfl]; rfl, by rw [cell_alloc_new _ _ _ _ _ rfl]; rfl⟩
theorem piece_str2 (A D : List UInt8) (c : UInt8) : strL (A ++ 32 :: (D ++ [c])) = ((strL A ++ strL [32]) ++ strL D) ++ strL [c] := by rw [strL_app, strL_app, strL_app]; simp
set_option maxHeartbeats 4000000 in
theorem sTrafficText_any (n : Int) (v : Value) (ps : List Int) (w : World) (hv : RdI w v ps) :
    Calls Tryd.prog 11 #[.agg #[.int .i64 n, v]] w fun e w' => e = .returned (.string (strL (if isTraf n ps then ttext n ps else []))) ∧ New w w' := by
  have HT := Lib.hid (fun (w0 : World) (h : RdI w0 v ps) => sIsTraffic_any n v ps w0 h)
  have HV := Lib.hid hv
  cases ht : isTraf n ps with
  | false =>
    obtain ⟨a, cap, rfl, hm, _⟩ := hv
    rw [if_neg (by simp)]
    rw [ht] at HT
    clear ht
    go_enter Tryd.func11, Tryd.ntmps11
    go_wp2_with fail
    refine (HT.out _ (HV.out.new (by repeat (first | with_reducible exact New.refl _ | with_reducible assumption | with_reducible refine New.drew ?_ | with_reducible refine New.drewN ?_ _ | with_reducible refine New.alloc ?_ _ | with_reducible refine New.setCell ?_ (by first | (simp; done) | (simp; omega) | omega) _ | with_reducible refine New.trans ?_ (by with_reducible assumption))))).mono ?_; rintro e w1 ⟨rfl, b1⟩
    try with_reducible replace b1 := New.undrawN b1
    try with_reducible replace b1 := New.undraw b1
    obtain ⟨c1, f1⟩ := b1.rules
    have z1 := b1.size
    try simp only [World.size_alloc, World.size_drew, World.heap_drewN, World.size_setCell] at z1
    have z1_0 : w.heap.size < w1.heap.size := by omega
    go_wp2_with fail
    go_ret
    exact ⟨rfl, (by repeat (first | with_reducible exact New.refl _ | with_reducible assumption | with_reducible refine New.drew ?_ | with_reducible refine New.drewN ?_ _ | with_reducible refine New.alloc ?_ _ | with_reducible refine New.setCell ?_ (by first | (simp; done) | (simp; omega) | omega) _ | with_reducible refine New.trans ?_ (by with_reducible assumption)))⟩
  | true =>
    obtain ⟨a, cap, rfl, hm, HC⟩ := hv.open
    rw [if_pos rfl]
    obtain ⟨⟨hn1, hn2⟩, hl4, hps⟩ := traf_places ht
    rw [ht] at HT
    have HPS := Lib.hid hps
    have HD := Lib.hid (fun (u : Nat) (h : u ≤ 1000) (w0 : World) => sDec_any u w0 (by omega))
    have HLN := Lib.hid (fun (k : Nat) (hk : k ≤ ps.length) => (by rw [strL_size, ttext_len ⟨hn1, hn2⟩ (fun p hp => hps p (List.mem_of_mem_take hp)), List.length_take_of_le hk] : (strL (ttext n (ps.take k))).size = 1 + 3 * k))
    obtain ⟨nn, rfl⟩ := Int.eq_ofNat_of_zero_le (show 0 ≤ n by omega)
    clear hv ht hps
    go_enter Tryd.func11, Tryd.ntmps11
    go_wp2_with fail
    refine (HT.out _ (HV.out.new (by repeat (first | with_reducible exact New.refl _ | with_reducible assumption | with_reducible refine New.drew ?_ | with_reducible refine New.drewN ?_ _ | with_reducible refine New.alloc ?_ _ | with_reducible refine New.setCell ?_ (by first | (simp; done) | (simp; omega) | omega) _ | with_reducible refine New.trans ?_ (by with_reducible assumption))))).mono ?_; rintro e w1 ⟨rfl, b1⟩
    try with_reducible replace b1 := New.undrawN b1
    try with_reducible replace b1 := New.undraw b1
    obtain ⟨c1, f1⟩ := b1.rules
    have z1 := b1.size
    try simp only [World.size_alloc, World.size_drew, World.heap_drewN, World.size_setCell] at z1
    have z1_0 : w.heap.size < w1.heap.size := by omega
    go_wp2_with fail
    refine (HD.out nn (by omega) _).mono ?_; rintro e w2 ⟨rfl, b2⟩
    try with_reducible replace b2 := New.undrawN b2
    try with_reducible replace b2 := New.undraw b2
    obtain ⟨c2, f2⟩ := b2.rules
    have z2 := b2.size
    try simp only [World.size_alloc, World.size_drew, World.heap_drewN, World.size_setCell] at z2
    have z2_0 : w.heap.size < w2.heap.size := by omega
    go_wp2_with fail
    have kb1 : w2.cell? ⟨w.heap.size, 1, none⟩ = some (.slice a ps.length cap) := by rw [c2 _ _ (by omega), c1 _ _ (by simp)]; simp
    have hz2 : w.heap.size < w2.heap.size := by omega
    clear c1 c2 f1 f2
    go_loopw [3, 4] (fun t i wr => ∃ k : Nat, k ≤ ps.length ∧ i = .int .i64 k ∧ t = .string (strL (ttext nn (ps.take k))) ∧ New w2 wr) (fun _ i _ => ps.length - (intOf i).toNat)
    case atStart => exact ⟨0, Nat.zero_le _, rfl, by simp [ttext], New.refl _⟩
    case round =>
      obtain ⟨k, hk, rfl, rfl, hN⟩ := hrel
      have hNz := hN.size
      have hzr : w.heap.size < wr.heap.size := by omega
      have kb : wr.cell? ⟨w.heap.size, 1, none⟩ = some (.slice a ps.length cap) := (hN.cell hz2).trans kb1
      clear kb1
      by_cases hlt : k < ps.length
      · obtain ⟨b, off, rfl, hbl, hx⟩ := HC.out wr ((show New w w2 by exact (by repeat (first | with_reducible exact New.refl _ | with_reducible assumption | with_reducible refine New.drew ?_ | with_reducible refine New.drewN ?_ _ | with_reducible refine New.alloc ?_ _ | with_reducible refine New.setCell ?_ (by first | (simp; done) | (simp; omega) | omega) _ | with_reducible refine New.trans ?_ (by with_reducible assumption)))).trans hN) k hlt
        have hbr : b < wr.heap.size := by omega
        have hpk := HPS.out ps[k] (List.getElem_mem hlt)
        have HT := Lib.hid (ttext_next (n := (nn : Int)) hlt)
        have hz := HLN.out k hk
        generalize ps[k] = p at hx hpk HT
        obtain ⟨m, rfl⟩ := Int.eq_ofNat_of_zero_le hpk.1
        have hm24 : m < 24 := by omega
        have HDm := HD.out (m / 3) (by omega)
        rw [show (((m / 3 : Nat) : Int)) = (m : Int) / 3 by omega] at HDm
        replace HDm := Lib.hid HDm
        have hzs : (strL (Lib.decDigits (m / 3))).size = 1 := by rw [strL_size, dec_one (by omega)]
        rcases (by omega : m % 3 = 0 ∨ m % 3 = 1 ∨ m % 3 = 2) with h3 | h3 | h3
        · skip
          have g1 := i64_in' ((m : Int) / 3) (by omega) (by omega)
          have g2 : (m : Int).tmod 3 = 0 := by rw [Int.tmod_eq_emod_of_nonneg (by omega)]; omega
          have g5w : ¬ (9223372036854775807 < 1 + 3 * k + 1) := by omega
          have g6w : ¬ (9223372036854775807 < 1 + 3 * k + 1 + 1) := by omega
          have g7w : ¬ (9223372036854775807 < 1 + 3 * k + 1 + 1 + 1) := by omega
          have hph : phL (m % 3) = 114 := by rw [h3]; rfl
          have hpt := Lib.hid (show tpiece (m : Int) = 32 :: (Lib.decDigits (m / 3) ++ [114]) by rw [tpiece, Int.toNat_natCast, hph])
          clear hph h3
          go_wp2_with fail
          refine RG.wp_facts [fun X _ => X = .string (strL (ttext nn (ps.take k))), fun X _ => X = .string (strL (ttext nn (ps.take k)) ++ ⟨#[32]⟩), fun X _ => X = .pointer (some ⟨w.heap.size, 1, none⟩), fun X _ => X = .slice (some ⟨b, off, none⟩) ps.length cap, fun X _ => X = .int .i64 k, fun X _ => X = .pointer (some ⟨b, off + k, none⟩), fun X _ => X = .int .i64 (m : Int), fun X _ => X = .int .i64 ((m : Int) / 3), fun X _ => X = .string (strL (Lib.decDigits (m / 3))), fun X _ => X = .string ((strL (ttext nn (ps.take k)) ++ ⟨#[32]⟩) ++ strL (Lib.decDigits (m / 3))), fun X W' => PhAt W' X, fun X _ => X = .pointer (some ⟨w.heap.size, 1, none⟩), fun X _ => X = .slice (some ⟨b, off, none⟩) ps.length cap, fun X _ => X = .int .i64 k, fun X _ => X = .pointer (some ⟨b, off + k, none⟩), fun X _ => X = .int .i64 (m : Int), fun X _ => X = .int .i64 0, fun X W' => PtrTo W' X (.string ⟨#[114]⟩), fun X _ => X = .string ⟨#[114]⟩, fun X _ => X = .string (((strL (ttext nn (ps.take k)) ++ ⟨#[32]⟩) ++ strL (Lib.decDigits (m / 3))) ++ ⟨#[114]⟩)] (by kernel_rfl) (by kernel_rfl) ⟨RG.stable_eq _, RG.stable_eq _, RG.stable_eq _, RG.stable_eq _, RG.stable_eq _, RG.stable_eq _, RG.stable_eq _, RG.stable_eq _, RG.stable_eq _, RG.stable_eq _, fun X w0 w1 hn k28 => k28.new hn, RG.stable_eq _, RG.stable_eq _, RG.stable_eq _, RG.stable_eq _, RG.stable_eq _, RG.stable_eq _, fun X w0 w1 hn k35 => k35.new hn, RG.stable_eq _, RG.stable_eq _, trivial⟩ ?_ ?_
          · refine ⟨?_, ?_, ?_, ?_, ?_, ?_, ?_, ?_, ?_, ?_, ?_, ?_, ?_, ?_, ?_, ?_, ?_, ?_, ?_, ?_, trivial⟩
            · intro a w9 hw ho hk
              refine .inl ⟨by rfl, ?_⟩
              have t2 := ho 3 rfl
              dsimp at t2
              try with_reducible replace hw := New.undrawN hw
              try with_reducible replace hw := New.undraw hw
              obtain ⟨c, f'⟩ := hw.rules
              go_simp
              exact New.refl _
            · intro a w9 hw ho hk
              refine .inl ⟨by rfl, ?_⟩
              have t18 : a.tmps[18]?.getD undef = .string (strL (ttext nn (ps.take k))) := hk 0 18 (by kernel_rfl) rfl
              go_simp
              exact New.refl _
            · intro a w9 hw ho hk
              refine .inl ⟨by rfl, ?_⟩
              have t2 := ho 1 rfl
              dsimp at t2
              try with_reducible replace hw := New.undrawN hw
              try with_reducible replace hw := New.undraw hw
              obtain ⟨c, f'⟩ := hw.rules
              go_simp
              exact New.refl _
            · intro a w9 hw ho hk
              refine .inl ⟨by rfl, ?_⟩
              have t20 : a.tmps[20]?.getD undef = .pointer (some ⟨w.heap.size, 1, none⟩) := hk 2 20 (by kernel_rfl) rfl
              try with_reducible replace hw := New.undrawN hw
              try with_reducible replace hw := New.undraw hw
              obtain ⟨c, f'⟩ := hw.rules
              go_simp
              exact New.refl _
            · intro a w9 hw ho hk
              refine .inl ⟨by rfl, ?_⟩
              have t2 := ho 4 rfl
              dsimp at t2
              try with_reducible replace hw := New.undrawN hw
              try with_reducible replace hw := New.undraw hw
              obtain ⟨c, f'⟩ := hw.rules
              go_simp
              exact New.refl _
            · intro a w9 hw ho hk
              refine .inl ⟨by rfl, ?_⟩
              have t21 : a.tmps[21]?.getD undef = .slice (some ⟨b, off, none⟩) ps.length cap := hk 3 21 (by kernel_rfl) rfl
              have t22 : a.tmps[22]?.getD undef = .int .i64 k := hk 4 22 (by kernel_rfl) rfl
              go_simp
              exact New.refl _
            · intro a w9 hw ho hk
              refine .inl ⟨by rfl, ?_⟩
              have t23 : a.tmps[23]?.getD undef = .pointer (some ⟨b, off + k, none⟩) := hk 5 23 (by kernel_rfl) rfl
              try with_reducible replace hw := New.undrawN hw
              try with_reducible replace hw := New.undraw hw
              obtain ⟨c, f'⟩ := hw.rules
              go_simp
              exact New.refl _
            · intro a w9 hw ho hk
              refine .inl ⟨by rfl, ?_⟩
              have t24 : a.tmps[24]?.getD undef = .int .i64 (m : Int) := hk 6 24 (by kernel_rfl) rfl
              go_simp
              exact New.refl _
            · intro a w9 hw ho hk
              refine .inl ⟨by rfl, ?_⟩
              have t25 : a.tmps[25]?.getD undef = .int .i64 ((m : Int) / 3) := hk 7 25 (by kernel_rfl) rfl
              go_simp
              refine (HDm.out _).mono ?_; rintro e w2 ⟨rfl, hb⟩
              first | exact ⟨hb, _, rfl, by simp⟩ | exact ⟨hb, by simp⟩
            · intro a w9 hw ho hk
              refine .inl ⟨by rfl, ?_⟩
              have t19 : a.tmps[19]?.getD undef = .string (strL (ttext nn (ps.take k)) ++ ⟨#[32]⟩) := hk 1 19 (by kernel_rfl) rfl
              have t26 : a.tmps[26]?.getD undef = .string (strL (Lib.decDigits (m / 3))) := hk 8 26 (by kernel_rfl) rfl
              go_simp
              exact New.refl _
            · intro a w9 hw ho hk
              refine .inl ⟨by rfl, ?_⟩
              go_simp; first | exact ⟨(New.refl _).alloc _, _, rfl, phAt_alloc _ _⟩ | exact ⟨(New.refl _).alloc _, phAt_alloc _ _⟩
            · intro a w9 hw ho hk
              refine .inl ⟨by rfl, ?_⟩
              have t2 := ho 1 rfl
              dsimp at t2
              try with_reducible replace hw := New.undrawN hw
              try with_reducible replace hw := New.undraw hw
              obtain ⟨c, f'⟩ := hw.rules
              go_simp
              exact New.refl _
            · intro a w9 hw ho hk
              refine .inl ⟨by rfl, ?_⟩
              have t29 : a.tmps[29]?.getD undef = .pointer (some ⟨w.heap.size, 1, none⟩) := hk 11 29 (by kernel_rfl) rfl
              try with_reducible replace hw := New.undrawN hw
              try with_reducible replace hw := New.undraw hw
              obtain ⟨c, f'⟩ := hw.rules
              go_simp
              exact New.refl _
            · intro a w9 hw ho hk
              refine .inl ⟨by rfl, ?_⟩
              have t2 := ho 4 rfl
              dsimp at t2
              try with_reducible replace hw := New.undrawN hw
              try with_reducible replace hw := New.undraw hw
              obtain ⟨c, f'⟩ := hw.rules
              go_simp
              exact New.refl _
            · intro a w9 hw ho hk
              refine .inl ⟨by rfl, ?_⟩
              have t30 : a.tmps[30]?.getD undef = .slice (some ⟨b, off, none⟩) ps.length cap := hk 12 30 (by kernel_rfl) rfl
              have t31 : a.tmps[31]?.getD undef = .int .i64 k := hk 13 31 (by kernel_rfl) rfl
              go_simp
              exact New.refl _
            · intro a w9 hw ho hk
              refine .inl ⟨by rfl, ?_⟩
              have t32 : a.tmps[32]?.getD undef = .pointer (some ⟨b, off + k, none⟩) := hk 14 32 (by kernel_rfl) rfl
              try with_reducible replace hw := New.undrawN hw
              try with_reducible replace hw := New.undraw hw
              obtain ⟨c, f'⟩ := hw.rules
              go_simp
              exact New.refl _
            · intro a w9 hw ho hk
              refine .inl ⟨by rfl, ?_⟩
              have t33 : a.tmps[33]?.getD undef = .int .i64 (m : Int) := hk 15 33 (by kernel_rfl) rfl
              go_simp
              exact New.refl _
            · intro a w9 hw ho hk
              refine .inl ⟨by rfl, ?_⟩
              obtain k28 : PhAt w9 (a.tmps[28]?.getD undef) := hk 10 28 (by kernel_rfl) rfl
              have t34 : a.tmps[34]?.getD undef = .int .i64 0 := hk 16 34 (by kernel_rfl) rfl
              obtain ⟨b28, t28, l28, c0, c1, c2⟩ := k28; go_simp; first | exact ⟨New.refl _, _, rfl, b28, _, rfl, l28, by simpa using c0⟩ | exact ⟨New.refl _, b28, _, rfl, l28, by simpa using c0⟩
            · intro a w9 hw ho hk
              refine .inl ⟨by rfl, ?_⟩
              obtain k35 : PtrTo w9 (a.tmps[35]?.getD undef) (.string ⟨#[114]⟩) := hk 17 35 (by kernel_rfl) rfl
              obtain ⟨b35, o35, t35, l35, c35⟩ := k35; go_simp; exact New.refl _
            · intro a w9 hw ho hk
              refine .inl ⟨by rfl, ?_⟩
              have t27 : a.tmps[27]?.getD undef = .string ((strL (ttext nn (ps.take k)) ++ ⟨#[32]⟩) ++ strL (Lib.decDigits (m / 3))) := hk 9 27 (by kernel_rfl) rfl
              have t36 : a.tmps[36]?.getD undef = .string ⟨#[114]⟩ := hk 18 36 (by kernel_rfl) rfl
              go_simp
              exact New.refl _
          intro w2 b2 y0 g0' y1 g1' y2 g2' y3 g3' y4 g4' y5 g5' y6 g6' y7 g7' y8 g8' y9 g9' y10 g10' y11 g11' y12 g12' y13 g13' y14 g14' y15 g15' y16 g16' y17 g17' y18 g18' y19 g19'
          subst g0' g1' g2' g3' g4' g5' g6' g7' g8' g9' g11' g12' g13' g14' g15' g16' g18' g19'
          try with_reducible replace b2 := New.undrawN b2
          try with_reducible replace b2 := New.undraw b2
          obtain ⟨c2, f2⟩ := b2.rules
          have z2 := b2.size
          try simp only [World.size_alloc, World.size_drew, World.heap_drewN, World.size_setCell] at z2
          simp only [RG.EndAll, List.nil_append, List.cons_append, List.length_cons, List.length_nil, Nat.zero_add, Nat.reduceAdd, List.take_succ_cons, List.take_zero, List.drop_succ_cons, List.drop_zero, RG.putAll, Act.put, List.setIfInBounds_toArray, List.set_cons_succ, List.set_cons_zero]
          go_wp2_with fail
          go_roundw
          case rel => exact ⟨k + 1, by omega, by go_num, by rw [HT.out, hpt.out, piece_str2]; rfl, (by repeat (first | with_reducible exact New.refl _ | with_reducible assumption | with_reducible refine New.drew ?_ | with_reducible refine New.drewN ?_ _ | with_reducible refine New.alloc ?_ _ | with_reducible refine New.setCell ?_ (by first | (simp; done) | (simp; omega) | omega) _ | with_reducible refine New.trans ?_ (by with_reducible assumption)))⟩
          case measure => simp [intOf]; omega
        · skip
          have g1 := i64_in' ((m : Int) / 3) (by omega) (by omega)
          have g2 : (m : Int).tmod 3 = 1 := by rw [Int.tmod_eq_emod_of_nonneg (by omega)]; omega
          have g5w : ¬ (9223372036854775807 < 1 + 3 * k + 1) := by omega
          have g6w : ¬ (9223372036854775807 < 1 + 3 * k + 1 + 1) := by omega
          have g7w : ¬ (9223372036854775807 < 1 + 3 * k + 1 + 1 + 1) := by omega
          have hph : phL (m % 3) = 104 := by rw [h3]; rfl
          have hpt := Lib.hid (show tpiece (m : Int) = 32 :: (Lib.decDigits (m / 3) ++ [104]) by rw [tpiece, Int.toNat_natCast, hph])
          clear hph h3
          go_wp2_with fail
          refine RG.wp_facts [fun X _ => X = .string (strL (ttext nn (ps.take k))), fun X _ => X = .string (strL (ttext nn (ps.take k)) ++ ⟨#[32]⟩), fun X _ => X = .pointer (some ⟨w.heap.size, 1, none⟩), fun X _ => X = .slice (some ⟨b, off, none⟩) ps.length cap, fun X _ => X = .int .i64 k, fun X _ => X = .pointer (some ⟨b, off + k, none⟩), fun X _ => X = .int .i64 (m : Int), fun X _ => X = .int .i64 ((m : Int) / 3), fun X _ => X = .string (strL (Lib.decDigits (m / 3))), fun X _ => X = .string ((strL (ttext nn (ps.take k)) ++ ⟨#[32]⟩) ++ strL (Lib.decDigits (m / 3))), fun X W' => PhAt W' X, fun X _ => X = .pointer (some ⟨w.heap.size, 1, none⟩), fun X _ => X = .slice (some ⟨b, off, none⟩) ps.length cap, fun X _ => X = .int .i64 k, fun X _ => X = .pointer (some ⟨b, off + k, none⟩), fun X _ => X = .int .i64 (m : Int), fun X _ => X = .int .i64 1, fun X W' => PtrTo W' X (.string ⟨#[104]⟩), fun X _ => X = .string ⟨#[104]⟩, fun X _ => X = .string (((strL (ttext nn (ps.take k)) ++ ⟨#[32]⟩) ++ strL (Lib.decDigits (m / 3))) ++ ⟨#[104]⟩)] (by kernel_rfl) (by kernel_rfl) ⟨RG.stable_eq _, RG.stable_eq _, RG.stable_eq _, RG.stable_eq _, RG.stable_eq _, RG.stable_eq _, RG.stable_eq _, RG.stable_eq _, RG.stable_eq _, RG.stable_eq _, fun X w0 w1 hn k28 => k28.new hn, RG.stable_eq _, RG.stable_eq _, RG.stable_eq _, RG.stable_eq _, RG.stable_eq _, RG.stable_eq _, fun X w0 w1 hn k35 => k35.new hn, RG.stable_eq _, RG.stable_eq _, trivial⟩ ?_ ?_
          · refine ⟨?_, ?_, ?_, ?_, ?_, ?_, ?_, ?_, ?_, ?_, ?_, ?_, ?_, ?_, ?_, ?_, ?_, ?_, ?_, ?_, trivial⟩
            · intro a w9 hw ho hk
              refine .inl ⟨by rfl, ?_⟩
              have t2 := ho 3 rfl
              dsimp at t2
              try with_reducible replace hw := New.undrawN hw
              try with_reducible replace hw := New.undraw hw
              obtain ⟨c, f'⟩ := hw.rules
              go_simp
              exact New.refl _
            · intro a w9 hw ho hk
              refine .inl ⟨by rfl, ?_⟩
              have t18 : a.tmps[18]?.getD undef = .string (strL (ttext nn (ps.take k))) := hk 0 18 (by kernel_rfl) rfl
              go_simp
              exact New.refl _
            · intro a w9 hw ho hk
              refine .inl ⟨by rfl, ?_⟩
              have t2 := ho 1 rfl
              dsimp at t2
              try with_reducible replace hw := New.undrawN hw
              try with_reducible replace hw := New.undraw hw
              obtain ⟨c, f'⟩ := hw.rules
              go_simp
              exact New.refl _
            · intro a w9 hw ho hk
              refine .inl ⟨by rfl, ?_⟩
              have t20 : a.tmps[20]?.getD undef = .pointer (some ⟨w.heap.size, 1, none⟩) := hk 2 20 (by kernel_rfl) rfl
              try with_reducible replace hw := New.undrawN hw
              try with_reducible replace hw := New.undraw hw
              obtain ⟨c, f'⟩ := hw.rules
              go_simp
              exact New.refl _
            · intro a w9 hw ho hk
              refine .inl ⟨by rfl, ?_⟩
              have t2 := ho 4 rfl
              dsimp at t2
              try with_reducible replace hw := New.undrawN hw
              try with_reducible replace hw := New.undraw hw
              obtain ⟨c, f'⟩ := hw.rules
              go_simp
              exact New.refl _
            · intro a w9 hw ho hk
              refine .inl ⟨by rfl, ?_⟩
              have t21 : a.tmps[21]?.getD undef = .slice (some ⟨b, off, none⟩) ps.length cap := hk 3 21 (by kernel_rfl) rfl
              have t22 : a.tmps[22]?.getD undef = .int .i64 k := hk 4 22 (by kernel_rfl) rfl
              go_simp
              exact New.refl _
            · intro a w9 hw ho hk
              refine .inl ⟨by rfl, ?_⟩
              have t23 : a.tmps[23]?.getD undef = .pointer (some ⟨b, off + k, none⟩) := hk 5 23 (by kernel_rfl) rfl
              try with_reducible replace hw := New.undrawN hw
              try with_reducible replace hw := New.undraw hw
              obtain ⟨c, f'⟩ := hw.rules
              go_simp
              exact New.refl _
            · intro a w9 hw ho hk
              refine .inl ⟨by rfl, ?_⟩
              have t24 : a.tmps[24]?.getD undef = .int .i64 (m : Int) := hk 6 24 (by kernel_rfl) rfl
              go_simp
              exact New.refl _
            · intro a w9 hw ho hk
              refine .inl ⟨by rfl, ?_⟩
              have t25 : a.tmps[25]?.getD undef = .int .i64 ((m : Int) / 3) := hk 7 25 (by kernel_rfl) rfl
              go_simp
              refine (HDm.out _).mono ?_; rintro e w2 ⟨rfl, hb⟩
              first | exact ⟨hb, _, rfl, by simp⟩ | exact ⟨hb, by simp⟩
            · intro a w9 hw ho hk
              refine .inl ⟨by rfl, ?_⟩
              have t19 : a.tmps[19]?.getD undef = .string (strL (ttext nn (ps.take k)) ++ ⟨#[32]⟩) := hk 1 19 (by kernel_rfl) rfl
              have t26 : a.tmps[26]?.getD undef = .string (strL (Lib.decDigits (m / 3))) := hk 8 26 (by kernel_rfl) rfl
              go_simp
              exact New.refl _
            · intro a w9 hw ho hk
              refine .inl ⟨by rfl, ?_⟩
              go_simp; first | exact ⟨(New.refl _).alloc _, _, rfl, phAt_alloc _ _⟩ | exact ⟨(New.refl _).alloc _, phAt_alloc _ _⟩
            · intro a w9 hw ho hk
              refine .inl ⟨by rfl, ?_⟩
              have t2 := ho 1 rfl
              dsimp at t2
              try with_reducible replace hw := New.undrawN hw
              try with_reducible replace hw := New.undraw hw
              obtain ⟨c, f'⟩ := hw.rules
              go_simp
              exact New.refl _
            · intro a w9 hw ho hk
              refine .inl ⟨by rfl, ?_⟩
              have t29 : a.tmps[29]?.getD undef = .pointer (some ⟨w.heap.size, 1, none⟩) := hk 11 29 (by kernel_rfl) rfl
              try with_reducible replace hw := New.undrawN hw
              try with_reducible replace hw := New.undraw hw
              obtain ⟨c, f'⟩ := hw.rules
              go_simp
              exact New.refl _
            · intro a w9 hw ho hk
              refine .inl ⟨by rfl, ?_⟩
              have t2 := ho 4 rfl
              dsimp at t2
              try with_reducible replace hw := New.undrawN hw
              try with_reducible replace hw := New.undraw hw
              obtain ⟨c, f'⟩ := hw.rules
              go_simp
              exact New.refl _
            · intro a w9 hw ho hk
              refine .inl ⟨by rfl, ?_⟩
              have t30 : a.tmps[30]?.getD undef = .slice (some ⟨b, off, none⟩) ps.length cap := hk 12 30 (by kernel_rfl) rfl
              have t31 : a.tmps[31]?.getD undef = .int .i64 k := hk 13 31 (by kernel_rfl) rfl
              go_simp
              exact New.refl _
            · intro a w9 hw ho hk
              refine .inl ⟨by rfl, ?_⟩
              have t32 : a.tmps[32]?.getD undef = .pointer (some ⟨b, off + k, none⟩) := hk 14 32 (by kernel_rfl) rfl
              try with_reducible replace hw := New.undrawN hw
              try with_reducible replace hw := New.undraw hw
              obtain ⟨c, f'⟩ := hw.rules
              go_simp
              exact New.refl _
            · intro a w9 hw ho hk
              refine .inl ⟨by rfl, ?_⟩
              have t33 : a.tmps[33]?.getD undef = .int .i64 (m : Int) := hk 15 33 (by kernel_rfl) rfl
              go_simp
              exact New.refl _
            · intro a w9 hw ho hk
              refine .inl ⟨by rfl, ?_⟩
              obtain k28 : PhAt w9 (a.tmps[28]?.getD undef) := hk 10 28 (by kernel_rfl) rfl
              have t34 : a.tmps[34]?.getD undef = .int .i64 1 := hk 16 34 (by kernel_rfl) rfl
              obtain ⟨b28, t28, l28, c0, c1, c2⟩ := k28; go_simp; first | exact ⟨New.refl _, _, rfl, b28, _, rfl, l28, by simpa using c1⟩ | exact ⟨New.refl _, b28, _, rfl, l28, by simpa using c1⟩
            · intro a w9 hw ho hk
              refine .inl ⟨by rfl, ?_⟩
              obtain k35 : PtrTo w9 (a.tmps[35]?.getD undef) (.string ⟨#[104]⟩) := hk 17 35 (by kernel_rfl) rfl
              obtain ⟨b35, o35, t35, l35, c35⟩ := k35; go_simp; exact New.refl _
            · intro a w9 hw ho hk
              refine .inl ⟨by rfl, ?_⟩
              have t27 : a.tmps[27]?.getD undef = .string ((strL (ttext nn (ps.take k)) ++ ⟨#[32]⟩) ++ strL (Lib.decDigits (m / 3))) := hk 9 27 (by kernel_rfl) rfl
              have t36 : a.tmps[36]?.getD undef = .string ⟨#[104]⟩ := hk 18 36 (by kernel_rfl) rfl
              go_simp
              exact New.refl _
          intro w2 b2 y0 g0' y1 g1' y2 g2' y3 g3' y4 g4' y5 g5' y6 g6' y7 g7' y8 g8' y9 g9' y10 g10' y11 g11' y12 g12' y13 g13' y14 g14' y15 g15' y16 g16' y17 g17' y18 g18' y19 g19'
          subst g0' g1' g2' g3' g4' g5' g6' g7' g8' g9' g11' g12' g13' g14' g15' g16' g18' g19'
          try with_reducible replace b2 := New.undrawN b2
          try with_reducible replace b2 := New.undraw b2
          obtain ⟨c2, f2⟩ := b2.rules
          have z2 := b2.size
          try simp only [World.size_alloc, World.size_drew, World.heap_drewN, World.size_setCell] at z2
          simp only [RG.EndAll, List.nil_append, List.cons_append, List.length_cons, List.length_nil, Nat.zero_add, Nat.reduceAdd, List.take_succ_cons, List.take_zero, List.drop_succ_cons, List.drop_zero, RG.putAll, Act.put, List.setIfInBounds_toArray, List.set_cons_succ, List.set_cons_zero]
          go_wp2_with fail
          go_roundw
          case rel => exact ⟨k + 1, by omega, by go_num, by rw [HT.out, hpt.out, piece_str2]; rfl, (by repeat (first | with_reducible exact New.refl _ | with_reducible assumption | with_reducible refine New.drew ?_ | with_reducible refine New.drewN ?_ _ | with_reducible refine New.alloc ?_ _ | with_reducible refine New.setCell ?_ (by first | (simp; done) | (simp; omega) | omega) _ | with_reducible refine New.trans ?_ (by with_reducible assumption)))⟩
          case measure => simp [intOf]; omega
        · skip
          have g1 := i64_in' ((m : Int) / 3) (by omega) (by omega)
          have g2 : (m : Int).tmod 3 = 2 := by rw [Int.tmod_eq_emod_of_nonneg (by omega)]; omega
          have g5w : ¬ (9223372036854775807 < 1 + 3 * k + 1) := by omega
          have g6w : ¬ (9223372036854775807 < 1 + 3 * k + 1 + 1) := by omega
          have g7w : ¬ (9223372036854775807 < 1 + 3 * k + 1 + 1 + 1) := by omega
          have hph : phL (m % 3) = 99 := by rw [h3]; rfl
          have hpt := Lib.hid (show tpiece (m : Int) = 32 :: (Lib.decDigits (m / 3) ++ [99]) by rw [tpiece, Int.toNat_natCast, hph])
          clear hph h3
          go_wp2_with fail
          refine RG.wp_facts [fun X _ => X = .string (strL (ttext nn (ps.take k))), fun X _ => X = .string (strL (ttext nn (ps.take k)) ++ ⟨#[32]⟩), fun X _ => X = .pointer (some ⟨w.heap.size, 1, none⟩), fun X _ => X = .slice (some ⟨b, off, none⟩) ps.length cap, fun X _ => X = .int .i64 k, fun X _ => X = .pointer (some ⟨b, off + k, none⟩), fun X _ => X = .int .i64 (m : Int), fun X _ => X = .int .i64 ((m : Int) / 3), fun X _ => X = .string (strL (Lib.decDigits (m / 3))), fun X _ => X = .string ((strL (ttext nn (ps.take k)) ++ ⟨#[32]⟩) ++ strL (Lib.decDigits (m / 3))), fun X W' => PhAt W' X, fun X _ => X = .pointer (some ⟨w.heap.size, 1, none⟩), fun X _ => X = .slice (some ⟨b, off, none⟩) ps.length cap, fun X _ => X = .int .i64 k, fun X _ => X = .pointer (some ⟨b, off + k, none⟩), fun X _ => X = .int .i64 (m : Int), fun X _ => X = .int .i64 2, fun X W' => PtrTo W' X (.string ⟨#[99]⟩), fun X _ => X = .string ⟨#[99]⟩, fun X _ => X = .string (((strL (ttext nn (ps.take k)) ++ ⟨#[32]⟩) ++ strL (Lib.decDigits (m / 3))) ++ ⟨#[99]⟩)] (by kernel_rfl) (by kernel_rfl) ⟨RG.stable_eq _, RG.stable_eq _, RG.stable_eq _, RG.stable_eq _, RG.stable_eq _, RG.stable_eq _, RG.stable_eq _, RG.stable_eq _, RG.stable_eq _, RG.stable_eq _, fun X w0 w1 hn k28 => k28.new hn, RG.stable_eq _, RG.stable_eq _, RG.stable_eq _, RG.stable_eq _, RG.stable_eq _, RG.stable_eq _, fun X w0 w1 hn k35 => k35.new hn, RG.stable_eq _, RG.stable_eq _, trivial⟩ ?_ ?_
          · refine ⟨?_, ?_, ?_, ?_, ?_, ?_, ?_, ?_, ?_, ?_, ?_, ?_, ?_, ?_, ?_, ?_, ?_, ?_, ?_, ?_, trivial⟩
            · intro a w9 hw ho hk
              refine .inl ⟨by rfl, ?_⟩
              have t2 := ho 3 rfl
              dsimp at t2
              try with_reducible replace hw := New.undrawN hw
              try with_reducible replace hw := New.undraw hw
              obtain ⟨c, f'⟩ := hw.rules
              go_simp
              exact New.refl _
            · intro a w9 hw ho hk
              refine .inl ⟨by rfl, ?_⟩
              have t18 : a.tmps[18]?.getD undef = .string (strL (ttext nn (ps.take k))) := hk 0 18 (by kernel_rfl) rfl
              go_simp
              exact New.refl _
            · intro a w9 hw ho hk
              refine .inl ⟨by rfl, ?_⟩
              have t2 := ho 1 rfl
              dsimp at t2
              try with_reducible replace hw := New.undrawN hw
              try with_reducible replace hw := New.undraw hw
              obtain ⟨c, f'⟩ := hw.rules
              go_simp
              exact New.refl _
            · intro a w9 hw ho hk
              refine .inl ⟨by rfl, ?_⟩
              have t20 : a.tmps[20]?.getD undef = .pointer (some ⟨w.heap.size, 1, none⟩) := hk 2 20 (by kernel_rfl) rfl
              try with_reducible replace hw := New.undrawN hw
              try with_reducible replace hw := New.undraw hw
              obtain ⟨c, f'⟩ := hw.rules
              go_simp
              exact New.refl _
            · intro a w9 hw ho hk
              refine .inl ⟨by rfl, ?_⟩
              have t2 := ho 4 rfl
              dsimp at t2
              try with_reducible replace hw := New.undrawN hw
              try with_reducible replace hw := New.undraw hw
              obtain ⟨c, f'⟩ := hw.rules
              go_simp
              exact New.refl _
            · intro a w9 hw ho hk
              refine .inl ⟨by rfl, ?_⟩
              have t21 : a.tmps[21]?.getD undef = .slice (some ⟨b, off, none⟩) ps.length cap := hk 3 21 (by kernel_rfl) rfl
              have t22 : a.tmps[22]?.getD undef = .int .i64 k := hk 4 22 (by kernel_rfl) rfl
              go_simp
              exact New.refl _
            · intro a w9 hw ho hk
              refine .inl ⟨by rfl, ?_⟩
              have t23 : a.tmps[23]?.getD undef = .pointer (some ⟨b, off + k, none⟩) := hk 5 23 (by kernel_rfl) rfl
              try with_reducible replace hw := New.undrawN hw
              try with_reducible replace hw := New.undraw hw
              obtain ⟨c, f'⟩ := hw.rules
              go_simp
              exact New.refl _
            · intro a w9 hw ho hk
              refine .inl ⟨by rfl, ?_⟩
              have t24 : a.tmps[24]?.getD undef = .int .i64 (m : Int) := hk 6 24 (by kernel_rfl) rfl
              go_simp
              exact New.refl _
            · intro a w9 hw ho hk
              refine .inl ⟨by rfl, ?_⟩
              have t25 : a.tmps[25]?.getD undef = .int .i64 ((m : Int) / 3) := hk 7 25 (by kernel_rfl) rfl
              go_simp
              refine (HDm.out _).mono ?_; rintro e w2 ⟨rfl, hb⟩
              first | exact ⟨hb, _, rfl, by simp⟩ | exact ⟨hb, by simp⟩
            · intro a w9 hw ho hk
              refine .inl ⟨by rfl, ?_⟩
              have t19 : a.tmps[19]?.getD undef = .string (strL (ttext nn (ps.take k)) ++ ⟨#[32]⟩) := hk 1 19 (by kernel_rfl) rfl
              have t26 : a.tmps[26]?.getD undef = .string (strL (Lib.decDigits (m / 3))) := hk 8 26 (by kernel_rfl) rfl
              go_simp
              exact New.refl _
            · intro a w9 hw ho hk
              refine .inl ⟨by rfl, ?_⟩
              go_simp; first | exact ⟨(New.refl _).alloc _, _, rfl, phAt_alloc _ _⟩ | exact ⟨(New.refl _).alloc _, phAt_alloc _ _⟩
            · intro a w9 hw ho hk
              refine .inl ⟨by rfl, ?_⟩
              have t2 := ho 1 rfl
              dsimp at t2
              try with_reducible replace hw := New.undrawN hw
              try with_reducible replace hw := New.undraw hw
              obtain ⟨c, f'⟩ := hw.rules
              go_simp
              exact New.refl _
            · intro a w9 hw ho hk
              refine .inl ⟨by rfl, ?_⟩
              have t29 : a.tmps[29]?.getD undef = .pointer (some ⟨w.heap.size, 1, none⟩) := hk 11 29 (by kernel_rfl) rfl
              try with_reducible replace hw := New.undrawN hw
              try with_reducible replace hw := New.undraw hw
              obtain ⟨c, f'⟩ := hw.rules
              go_simp
              exact New.refl _
            · intro a w9 hw ho hk
              refine .inl ⟨by rfl, ?_⟩
              have t2 := ho 4 rfl
              dsimp at t2
              try with_reducible replace hw := New.undrawN hw
              try with_reducible replace hw := New.undraw hw
              obtain ⟨c, f'⟩ := hw.rules
              go_simp
              exact New.refl _
            · intro a w9 hw ho hk
              refine .inl ⟨by rfl, ?_⟩
              have t30 : a.tmps[30]?.getD undef = .slice (some ⟨b, off, none⟩) ps.length cap := hk 12 30 (by kernel_rfl) rfl
              have t31 : a.tmps[31]?.getD undef = .int .i64 k := hk 13 31 (by kernel_rfl) rfl
              go_simp
              exact New.refl _
            · intro a w9 hw ho hk
              refine .inl ⟨by rfl, ?_⟩
              have t32 : a.tmps[32]?.getD undef = .pointer (some ⟨b, off + k, none⟩) := hk 14 32 (by kernel_rfl) rfl
              try with_reducible replace hw := New.undrawN hw
              try with_reducible replace hw := New.undraw hw
              obtain ⟨c, f'⟩ := hw.rules
              go_simp
              exact New.refl _
            · intro a w9 hw ho hk
              refine .inl ⟨by rfl, ?_⟩
              have t33 : a.tmps[33]?.getD undef = .int .i64 (m : Int) := hk 15 33 (by kernel_rfl) rfl
              go_simp
              exact New.refl _
            · intro a w9 hw ho hk
              refine .inl ⟨by rfl, ?_⟩
              obtain k28 : PhAt w9 (a.tmps[28]?.getD undef) := hk 10 28 (by kernel_rfl) rfl
              have t34 : a.tmps[34]?.getD undef = .int .i64 2 := hk 16 34 (by kernel_rfl) rfl
              obtain ⟨b28, t28, l28, c0, c1, c2⟩ := k28; go_simp; first | exact ⟨New.refl _, _, rfl, b28, _, rfl, l28, by simpa using c2⟩ | exact ⟨New.refl _, b28, _, rfl, l28, by simpa using c2⟩
            · intro a w9 hw ho hk
              refine .inl ⟨by rfl, ?_⟩
              obtain k35 : PtrTo w9 (a.tmps[35]?.getD undef) (.string ⟨#[99]⟩) := hk 17 35 (by kernel_rfl) rfl
              obtain ⟨b35, o35, t35, l35, c35⟩ := k35; go_simp; exact New.refl _
            · intro a w9 hw ho hk
              refine .inl ⟨by rfl, ?_⟩
              have t27 : a.tmps[27]?.getD undef = .string ((strL (ttext nn (ps.take k)) ++ ⟨#[32]⟩) ++ strL (Lib.decDigits (m / 3))) := hk 9 27 (by kernel_rfl) rfl
              have t36 : a.tmps[36]?.getD undef = .string ⟨#[99]⟩ := hk 18 36 (by kernel_rfl) rfl
              go_simp
              exact New.refl _
          intro w2 b2 y0 g0' y1 g1' y2 g2' y3 g3' y4 g4' y5 g5' y6 g6' y7 g7' y8 g8' y9 g9' y10 g10' y11 g11' y12 g12' y13 g13' y14 g14' y15 g15' y16 g16' y17 g17' y18 g18' y19 g19'
          subst g0' g1' g2' g3' g4' g5' g6' g7' g8' g9' g11' g12' g13' g14' g15' g16' g18' g19'
          try with_reducible replace b2 := New.undrawN b2
          try with_reducible replace b2 := New.undraw b2
          obtain ⟨c2, f2⟩ := b2.rules
          have z2 := b2.size
          try simp only [World.size_alloc, World.size_drew, World.heap_drewN, World.size_setCell] at z2
          simp only [RG.EndAll, List.nil_append, List.cons_append, List.length_cons, List.length_nil, Nat.zero_add, Nat.reduceAdd, List.take_succ_cons, List.take_zero, List.drop_succ_cons, List.drop_zero, RG.putAll, Act.put, List.setIfInBounds_toArray, List.set_cons_succ, List.set_cons_zero]
          go_wp2_with fail
          go_roundw
          case rel => exact ⟨k + 1, by omega, by go_num, by rw [HT.out, hpt.out, piece_str2]; rfl, (by repeat (first | with_reducible exact New.refl _ | with_reducible assumption | with_reducible refine New.drew ?_ | with_reducible refine New.drewN ?_ _ | with_reducible refine New.alloc ?_ _ | with_reducible refine New.setCell ?_ (by first | (simp; done) | (simp; omega) | omega) _ | with_reducible refine New.trans ?_ (by with_reducible assumption)))⟩
          case measure => simp [intOf]; omega
      · obtain rfl : k = ps.length := by omega
        rw [List.take_length] at *
        go_wp2_with fail
        go_ret
        exact ⟨rfl, (by repeat (first | with_reducible exact New.refl _ | with_reducible assumption | with_reducible refine New.drew ?_ | with_reducible refine New.drewN ?_ _ | with_reducible refine New.alloc ?_ _ | with_reducible refine New.setCell ?_ (by first | (simp; done) | (simp; omega) | omega) _ | with_reducible refine New.trans ?_ (by with_reducible assumption)))⟩
end Go.Proofs.YtommolbkcjpjhaaDoor
