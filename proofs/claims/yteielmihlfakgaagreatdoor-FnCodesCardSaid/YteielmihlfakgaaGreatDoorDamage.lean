/- Contracts: a text that a drawn place spoils. -/
import Derived.Test.YteielmihlfakgaaGreatDoorProg
import Derived.Test.YteielmihlfakgaaGreatDoorVA
import Derived.Test.YteielmihlfakgaaGreatDoorUG
namespace Go.Proofs.YteielmihlfakgaaGreatDoor
open Go Go.Proofs Go.RowKit
set_option linter.unusedVariables false
set_option linter.unusedSimpArgs false
set_option maxRecDepth 100000
/-- A literal list of eight one-byte texts, in a block behind S. -/
def LitS (S : Nat) (w : World) (v : Value) : Prop := ∃ b, v = .slice (some ⟨b, 0, none⟩) 8 8 ∧ S < b ∧ b < w.heap.size ∧ ∀ j, j < 8 → ∃ c : ByteArray, w.cell? ⟨b, j, none⟩ = some (.string c) ∧ c.size = 1
theorem LitS.dr {S : Nat} {w w' : World} {v : Value} (h : LitS S w v) (hn : Dr S w w') : LitS S w' v := by
  obtain ⟨b, rfl, h1, h2, h3⟩ := h
  refine ⟨b, rfl, h1, Nat.lt_of_lt_of_le h2 hn.size, fun j hj => ?_⟩
  obtain ⟨c, hc, hz⟩ := h3 j hj
  exact ⟨c, (hn.rules.2.1 _ _ h1 h2).trans hc, hz⟩
def PtrS (S : Nat) (w : World) (v : Value) : Prop := ∃ b o, v = .pointer (some ⟨b, o, none⟩) ∧ S < b ∧ b < w.heap.size ∧ ∃ c : ByteArray, w.cell? ⟨b, o, none⟩ = some (.string c) ∧ c.size = 1
theorem PtrS.dr {S : Nat} {w w' : World} {v : Value} (h : PtrS S w v) (hn : Dr S w w') : PtrS S w' v := by
  obtain ⟨b, o, rfl, h1, h2, c, hc, hz⟩ := h
  exact ⟨b, o, rfl, h1, Nat.lt_of_lt_of_le h2 hn.size, c, (hn.rules.2.1 _ _ h1 h2).trans hc, hz⟩
def DrawSt (S : Nat) (n : Nat) (w : World) (e : Ending) (w' : World) : Prop := ∃ r : ByteArray, e = .returned (.string r) ∧ r.size ≤ n ∧ Dr S w w'
theorem litS_new {S : Nat} {w : World} {T : TypeId} (h : S < w.heap.size) : LitS S (w.alloc (.cells #[.string ⟨#[48]⟩, .string ⟨#[49]⟩, .string ⟨#[32]⟩, .string ⟨#[45]⟩, .string ⟨#[46]⟩, .string ⟨#[97]⟩, .string ⟨#[10]⟩, .string ⟨#[58]⟩] T)) (.slice (some ⟨w.heap.size, 0, none⟩) 8 8) := by
  refine ⟨_, rfl, h, by simp, fun j hj => ?_⟩
  rw [cell_alloc_new _ _ _ _ _ rfl]
  rcases (by omega : j = 0 ∨ j = 1 ∨ j = 2 ∨ j = 3 ∨ j = 4 ∨ j = 5 ∨ j = 6 ∨ j = 7) with rfl | rfl | rfl | rfl | rfl | rfl | rfl | rfl <;> exact ⟨_, rfl, rfl⟩
set_option maxHeartbeats 4000000 in
theorem l01Damage_any {B : Nat} (S : Nat) (t : ByteArray) (w : World) (hs : Src B S w) (ht : t.size ≤ 1000000) :
    Calls Tryz.prog 33 #[.pointer (some ⟨S, 0, none⟩), .string t] w (DrawSt S (t.size + 1) w) := by
  have hS := hs.lt
  have HS := Lib.hid hs; clear hs
  go_enter Tryz.func33, Tryz.ntmps33
  go_wp2_with fail
  refine (l01Next_any S _ _ (Dr.src ?hs16 HS.out)).mono ?_
  case hs16 => exact (by repeat (first | with_reducible refine Dr.setCell ?_ (by first | (simp; done) | (simp; omega) | omega) _ | with_reducible refine Dr.alloc ?_ _ | with_reducible exact Dr.refl _ _ | with_reducible assumption | with_reducible refine Dr.trans ?_ (by with_reducible assumption) | with_reducible refine Dr.trans ?_ (Dr.of_new (by with_reducible assumption)) | with_reducible refine Dr.drewN ?_ _ | with_reducible refine Dr.drew ?_))
  rintro e w1 ⟨r1, rfl, p1, q1, b1⟩
  obtain ⟨k, rfl⟩ := Int.eq_ofNat_of_zero_le p1
  have z1 := b1.size
  try simp only [World.size_alloc, World.size_drew, World.heap_drewN, World.size_setCell] at z1
  have y1 : S < w1.heap.size := by omega
  go_wp2_with fail
  have hk : k ≤ t.size := by omega
  clear q1 p1
  refine (l01Next_n S _ _ (Dr.src ?hs17 HS.out)).mono ?_
  case hs17 => exact (by repeat (first | with_reducible refine Dr.setCell ?_ (by first | (simp; done) | (simp; omega) | omega) _ | with_reducible refine Dr.alloc ?_ _ | with_reducible exact Dr.refl _ _ | with_reducible assumption | with_reducible refine Dr.trans ?_ (by with_reducible assumption) | with_reducible refine Dr.trans ?_ (Dr.of_new (by with_reducible assumption)) | with_reducible refine Dr.drewN ?_ _ | with_reducible refine Dr.drew ?_))
  rintro e w2 ⟨r2, rfl, b2⟩
  have z2 := b2.size
  try simp only [World.size_alloc, World.size_drew, World.heap_drewN, World.size_setCell] at z2
  try clear c1_0 f1_0 K1_0
  try clear c1_1 f1_1 K1_1
  try clear c1_2 f1_2 K1_2
  try clear c1_3 f1_3 K1_3
  try clear c1_4 f1_4 K1_4
  try clear c1_5 f1_5 K1_5
  have y2 : S < w2.heap.size := by omega
  go_wp2_with fail
  · refine bodyPost_ret (v := .string (t.extract 0 k)) (by simp [results, Tryz.results33, go_sem]) rfl ?_
    exact ⟨_, rfl, by rw [ByteArray.size_extract]; omega, (by repeat (first | with_reducible refine Dr.setCell ?_ (by first | (simp; done) | (simp; omega) | omega) _ | with_reducible refine Dr.alloc ?_ _ | with_reducible exact Dr.refl _ _ | with_reducible assumption | with_reducible refine Dr.trans ?_ (by with_reducible assumption) | with_reducible refine Dr.trans ?_ (Dr.of_new (by with_reducible assumption)) | with_reducible refine Dr.drewN ?_ _ | with_reducible refine Dr.drew ?_))⟩
  · have e22 : (t.extract 0 k).size = k := by rw [ByteArray.size_extract]; omega
    have e31 : (t.extract k t.size).size = t.size - k := by rw [ByteArray.size_extract]; omega
    have D2 : Dr S w w2 := (by repeat (first | with_reducible refine Dr.setCell ?_ (by first | (simp; done) | (simp; omega) | omega) _ | with_reducible refine Dr.alloc ?_ _ | with_reducible exact Dr.refl _ _ | with_reducible assumption | with_reducible refine Dr.trans ?_ (by with_reducible assumption) | with_reducible refine Dr.trans ?_ (Dr.of_new (by with_reducible assumption)) | with_reducible refine Dr.drewN ?_ _ | with_reducible refine Dr.drew ?_))
    clear b1 b2
    refine RD.wp_facts (S := S) [fun X _ => X = .string t, fun X _ => X = .int .i64 (k : Int), fun X _ => X = .string (t.extract 0 k), fun X W' => LitS S W' X, fun X _ => X = .pointer (some ⟨S, 0, none⟩), fun X W' => ∃ r : Nat, X = .int .i64 (r : Int) ∧ r < 8, fun X W' => PtrS S W' X, fun X W' => ∃ c : ByteArray, X = .string c ∧ c.size = 1, fun X W' => ∃ c : ByteArray, X = .string c ∧ c.size = k + 1, fun X _ => X = .string t, fun X _ => X = .int .i64 (k : Int), fun X _ => X = .string (t.extract k t.size), fun X W' => ∃ c : ByteArray, X = .string c ∧ c.size ≤ t.size + 1] (by kernel_rfl) (by kernel_rfl) ⟨RD.stable_eq _, RD.stable_eq _, RD.stable_eq _, fun X w0 w1 hn ⟨b23, t23, h23, l23, g23⟩ => LitS.dr ⟨b23, t23, h23, l23, g23⟩ hn, RD.stable_eq _, fun X w0 w1 hn ⟨r25, t25, q25⟩ => ⟨r25, t25, q25⟩, fun X w0 w1 hn ⟨b26, o26, t26, h26, l26, c26, e26, z26⟩ => PtrS.dr ⟨b26, o26, t26, h26, l26, c26, e26, z26⟩ hn, fun X w0 w1 hn ⟨c27, t27, q27⟩ => ⟨c27, t27, q27⟩, fun X w0 w1 hn ⟨c28, t28, q28⟩ => ⟨c28, t28, q28⟩, RD.stable_eq _, RD.stable_eq _, RD.stable_eq _, fun X w0 w1 hn ⟨c32, t32, q32⟩ => ⟨c32, t32, q32⟩, trivial⟩ ?_ ?_
    · refine ⟨?_, ?_, ?_, ?_, ?_, ?_, ?_, ?_, ?_, ?_, ?_, ?_, ?_, trivial⟩
      · intro a w9 hw ho hk
        refine .inl ⟨by rfl, ?_⟩
        have t2 := ho 1 rfl
        dsimp at t2
        try with_reducible replace hw := Dr.undrawN hw
        try with_reducible replace hw := Dr.undraw hw
        obtain ⟨c, d, f', g'⟩ := hw.rules
        go_simp
        exact Dr.refl _ _
      · intro a w9 hw ho hk
        refine .inl ⟨by rfl, ?_⟩
        have t2 := ho 5 rfl
        dsimp at t2
        try with_reducible replace hw := Dr.undrawN hw
        try with_reducible replace hw := Dr.undraw hw
        obtain ⟨c, d, f', g'⟩ := hw.rules
        go_simp
        exact Dr.refl _ _
      · intro a w9 hw ho hk
        refine .inl ⟨by rfl, ?_⟩
        have t20 : a.tmps[20]?.getD undef = .string t := hk 0 20 (by kernel_rfl) rfl
        have t21 : a.tmps[21]?.getD undef = .int .i64 (k : Int) := hk 1 21 (by kernel_rfl) rfl
        go_simp
        exact Dr.refl _ _
      · intro a w9 hw ho hk
        refine .inl ⟨by rfl, ?_⟩
        go_simp
        have hl9 : S < w9.heap.size := (by have := hw.size; first | omega | (simp at this; omega)); first | exact ⟨(Dr.refl _ _).alloc _, _, rfl, litS_new hl9⟩ | exact ⟨(Dr.refl _ _).alloc _, litS_new hl9⟩
      · intro a w9 hw ho hk
        refine .inl ⟨by rfl, ?_⟩
        have t2 := ho 0 rfl
        dsimp at t2
        try with_reducible replace hw := Dr.undrawN hw
        try with_reducible replace hw := Dr.undraw hw
        obtain ⟨c, d, f', g'⟩ := hw.rules
        go_simp
        exact Dr.refl _ _
      · intro a w9 hw ho hk
        refine .inl ⟨by rfl, ?_⟩
        have t24 : a.tmps[24]?.getD undef = .pointer (some ⟨S, 0, none⟩) := hk 4 24 (by kernel_rfl) rfl
        go_simp
        refine (l01Next_any S 8 _ ((D2.trans hw).src HS.out)).mono ?_; rintro e w2 ⟨r, rfl, p9, q9, hb⟩
        obtain ⟨k9, rfl⟩ := Int.eq_ofNat_of_zero_le p9; first | exact ⟨hb, _, rfl, k9, rfl, by omega⟩ | exact ⟨hb, k9, by simp, by omega⟩
      · intro a w9 hw ho hk
        refine .inl ⟨by rfl, ?_⟩
        obtain ⟨b23, t23, h23, l23, g23⟩ : LitS S w9 (a.tmps[23]?.getD undef) := hk 3 23 (by kernel_rfl) rfl
        obtain ⟨r25, t25, q25⟩ : ∃ r : Nat, (a.tmps[25]?.getD undef) = .int .i64 (r : Int) ∧ r < 8 := hk 5 25 (by kernel_rfl) rfl
        have q8 : (r25 : Int) < 8 := (by omega); go_simp; exact ⟨Dr.refl _ _, _, rfl, b23, _, rfl, h23, l23, g23 r25 q25⟩
      · intro a w9 hw ho hk
        refine .inl ⟨by rfl, ?_⟩
        obtain ⟨b26, o26, t26, h26, l26, c26, e26, z26⟩ : PtrS S w9 (a.tmps[26]?.getD undef) := hk 6 26 (by kernel_rfl) rfl
        go_simp; exact ⟨Dr.refl _ _, _, rfl, c26, rfl, z26⟩
      · intro a w9 hw ho hk
        refine .inl ⟨by rfl, ?_⟩
        have t22 : a.tmps[22]?.getD undef = .string (t.extract 0 k) := hk 2 22 (by kernel_rfl) rfl
        obtain ⟨c27, t27, q27⟩ : ∃ c : ByteArray, (a.tmps[27]?.getD undef) = .string c ∧ c.size = 1 := hk 7 27 (by kernel_rfl) rfl
        have g5 : ¬ (9223372036854775807 < k + 1) := (by omega); go_simp; exact ⟨Dr.refl _ _, _, rfl, _, rfl, by rw [ByteArray.size_append]; omega⟩
      · intro a w9 hw ho hk
        refine .inl ⟨by rfl, ?_⟩
        have t2 := ho 1 rfl
        dsimp at t2
        try with_reducible replace hw := Dr.undrawN hw
        try with_reducible replace hw := Dr.undraw hw
        obtain ⟨c, d, f', g'⟩ := hw.rules
        go_simp
        exact Dr.refl _ _
      · intro a w9 hw ho hk
        refine .inl ⟨by rfl, ?_⟩
        have t2 := ho 5 rfl
        dsimp at t2
        try with_reducible replace hw := Dr.undrawN hw
        try with_reducible replace hw := Dr.undraw hw
        obtain ⟨c, d, f', g'⟩ := hw.rules
        go_simp
        exact Dr.refl _ _
      · intro a w9 hw ho hk
        refine .inl ⟨by rfl, ?_⟩
        have t29 : a.tmps[29]?.getD undef = .string t := hk 9 29 (by kernel_rfl) rfl
        have t30 : a.tmps[30]?.getD undef = .int .i64 (k : Int) := hk 10 30 (by kernel_rfl) rfl
        go_simp
        exact Dr.refl _ _
      · intro a w9 hw ho hk
        refine .inl ⟨by rfl, ?_⟩
        obtain ⟨c28, t28, q28⟩ : ∃ c : ByteArray, (a.tmps[28]?.getD undef) = .string c ∧ c.size = k + 1 := hk 8 28 (by kernel_rfl) rfl
        have t31 : a.tmps[31]?.getD undef = .string (t.extract k t.size) := hk 11 31 (by kernel_rfl) rfl
        have g5 : ¬ (9223372036854775807 < k + 1 + (t.size - k)) := (by omega); go_simp; exact ⟨Dr.refl _ _, _, rfl, _, rfl, by rw [ByteArray.size_append]; omega⟩
    intro w3 b3
    rintro _ rfl
    rintro _ rfl
    rintro _ rfl
    rintro _ ⟨b23, rfl, h23, l23, g23⟩
    rintro _ rfl
    rintro _ ⟨r25, rfl, q25⟩
    rintro _ ⟨b26, o26, rfl, h26, l26, c26, e26, z26⟩
    rintro _ ⟨c27, rfl, q27⟩
    rintro _ ⟨c28, rfl, q28⟩
    rintro _ rfl
    rintro _ rfl
    rintro _ rfl
    rintro _ ⟨c32, rfl, q32⟩
    have z3 := b3.size
    try simp only [World.size_alloc, World.size_drew, World.heap_drewN, World.size_setCell] at z3
    try clear c2_0 f2_0 K2_0
    try clear c2_1 f2_1 K2_1
    try clear c2_2 f2_2 K2_2
    try clear c2_3 f2_3 K2_3
    try clear c2_4 f2_4 K2_4
    try clear c2_5 f2_5 K2_5
    try clear c1_0 f1_0 K1_0
    try clear c1_1 f1_1 K1_1
    try clear c1_2 f1_2 K1_2
    try clear c1_3 f1_3 K1_3
    try clear c1_4 f1_4 K1_4
    try clear c1_5 f1_5 K1_5
    have y3 : S < w3.heap.size := by omega
    simp only [RD.EndAll, List.nil_append, List.cons_append, List.length_cons, List.length_nil, Nat.zero_add, Nat.reduceAdd, List.take_succ_cons, List.take_zero, List.drop_succ_cons, List.drop_zero, RD.putAll, Act.put, List.setIfInBounds_toArray, List.set_cons_succ, List.set_cons_zero]
    go_wp2_with fail
    refine bodyPost_ret (v := .string c32) (by simp [results, Tryz.results33, go_sem]) rfl ?_
    exact ⟨_, rfl, q32, (by repeat (first | with_reducible refine Dr.setCell ?_ (by first | (simp; done) | (simp; omega) | omega) _ | with_reducible refine Dr.alloc ?_ _ | with_reducible exact Dr.refl _ _ | with_reducible assumption | with_reducible refine Dr.trans ?_ (by with_reducible assumption) | with_reducible refine Dr.trans ?_ (Dr.of_new (by with_reducible assumption)) | with_reducible refine Dr.drewN ?_ _ | with_reducible refine Dr.drew ?_))⟩
  · have e22 : (t.extract 0 k).size = k := by rw [ByteArray.size_extract]; omega
    have e31 : (t.extract (k + 1) t.size).size = t.size - (k + 1) := by rw [ByteArray.size_extract]; omega
    have g5 : ¬ (9223372036854775807 < (t.extract 0 k).size + (t.extract (k + 1) t.size).size) := by omega
    have g6 : ¬ (9223372036854775807 < k + (t.size - (k + 1))) := by omega
    have g7 : ((k : Int) + 1) ≤ (t.size : Int) := by omega
    go_quiet (fail)
    go_wp2_with fail
    refine bodyPost_ret (v := .string (t.extract 0 k ++ t.extract (k + 1) t.size)) (by simp [results, Tryz.results33, go_sem]) rfl ?_
    exact ⟨_, rfl, by rw [ByteArray.size_append]; omega, (by repeat (first | with_reducible refine Dr.setCell ?_ (by first | (simp; done) | (simp; omega) | omega) _ | with_reducible refine Dr.alloc ?_ _ | with_reducible exact Dr.refl _ _ | with_reducible assumption | with_reducible refine Dr.trans ?_ (by with_reducible assumption) | with_reducible refine Dr.trans ?_ (Dr.of_new (by with_reducible assumption)) | with_reducible refine Dr.drewN ?_ _ | with_reducible refine Dr.drew ?_))⟩
  all_goals
    refine bodyPost_ret (v := .string t) (by simp [results, Tryz.results33, go_sem]) rfl ?_
    exact ⟨_, rfl, by omega, (by repeat (first | with_reducible refine Dr.setCell ?_ (by first | (simp; done) | (simp; omega) | omega) _ | with_reducible refine Dr.alloc ?_ _ | with_reducible exact Dr.refl _ _ | with_reducible assumption | with_reducible refine Dr.trans ?_ (by with_reducible assumption) | with_reducible refine Dr.trans ?_ (Dr.of_new (by with_reducible assumption)) | with_reducible refine Dr.drewN ?_ _ | with_reducible refine Dr.drew ?_))⟩
end Go.Proofs.YteielmihlfakgaaGreatDoor
