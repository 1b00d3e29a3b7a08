/- Contracts: texts of blocks. -/
import Derived.StillTail
import Derived.Test.YtflhdijlhdckoaaDoorProg
import Derived.Test.YtflhdijlhdckoaaDoorTxtW
import Derived.Test.YtflhdijlhdckoaaDoorWords
import Derived.Test.YtflhdijlhdckoaaDoorBlocks
import Derived.Test.YtflhdijlhdckoaaDoorBlocks2
import Derived.Test.YtflhdijlhdckoaaDoorPtrW
import Derived.Test.YtflhdijlhdckoaaDoorRegionG
namespace Go.Proofs.YtflhdijlhdckoaaDoor
open Go Go.Proofs Go.RowKit
set_option linter.unusedVariables false
set_option linter.unusedSimpArgs false
set_option maxRecDepth 100000
/-- The keyword of a block. -/
def kwOf (k : Int) : ByteArray := keys.getD (k + 4).toNat ⟨#[]⟩
theorem kwOf_size {k : Int} (h : 7 ≤ k) (h' : k ≤ 12) : 1 ≤ (kwOf k).size ∧ (kwOf k).size ≤ 7 := by
  obtain rfl | rfl | rfl | rfl | rfl | rfl : k = 7 ∨ k = 8 ∨ k = 9 ∨ k = 10 ∨ k = 11 ∨ k = 12 := by omega
  all_goals decide
theorem kwOf_at {k : Int} (h : 7 ≤ k) (h' : k ≤ 12) : keys[(k + 4).toNat]? = some (kwOf k) := by
  obtain rfl | rfl | rfl | rfl | rfl | rfl : k = 7 ∨ k = 8 ∨ k = 9 ∨ k = 10 ∨ k = 11 ∨ k = 12 := by omega
  all_goals rfl
def btext (k n a b c : Int) : ByteArray := ((kwOf k ++ ⟨#[32]⟩) ++ strL (Lib.decDigits n.toNat) ++ ⟨#[32]⟩) ++ strL (jn [a, b, c])
theorem iBlockWord_any (k : Int) (s : ByteArray) (n : Int) (w : World) (h : 7 ≤ k) (h' : k ≤ 12) (hk : KW w) :
    Calls Tryd.prog 56 #[.agg #[.int .i64 k, .string s, .int .i64 n]] w fun e w' => e = .returned (.string (kwOf k)) ∧ New w w' := by
  obtain ⟨_, _, e, _, _, hc⟩ := hk
  cases e
  have hc2 : ∀ j u, keys[j]? = some u → w.cell? ⟨0, j, none⟩ = some (.string u) ∧ 0 < w.heap.size := fun j u hu => by
    obtain ⟨b, off, e, hb, hx⟩ := hc j (.string u) (by simp [hu])
    cases e
    rw [Nat.zero_add] at hx
    exact ⟨hx, hb⟩
  obtain ⟨hx, hlt⟩ := hc2 _ _ (kwOf_at h h')
  clear hc hc2
  obtain rfl | rfl | rfl | rfl | rfl | rfl : k = 7 ∨ k = 8 ∨ k = 9 ∨ k = 10 ∨ k = 11 ∨ k = 12 := by omega
  all_goals
    simp only [Int.reduceAdd, Int.reduceToNat] at hx
    generalize kwOf _ = q at hx
    clear h h'
    go_enter Tryd.func56, Tryd.ntmps56
    go_wp2_with fail
    go_ret
    exact ⟨rfl, (by repeat (first | with_reducible exact New.refl _ | with_reducible assumption | with_reducible refine New.drew ?_ | with_reducible refine New.drewN ?_ _ | with_reducible refine New.alloc ?_ _ | with_reducible refine New.setCell ?_ (by first | (simp; done) | (simp; omega) | omega) _ | with_reducible refine New.trans ?_ (by with_reducible assumption)))⟩
theorem btext_nums {k n a b c : Int} (h : posB k n a b c = true) (hn : 0 ≤ n) (hn' : n ≤ 9999) : NumsOk [a, b, c] := by
  have h0 : (0 ≤ a ∧ a ≤ 10000) ∧ (0 ≤ b ∧ b ≤ 10000) ∧ 0 ≤ c ∧ c ≤ 10000 := by
    unfold posB at h
    repeat' split at h
    all_goals simp [inB] at h
    all_goals omega
  intro x hx
  simp only [List.mem_cons, List.mem_nil_iff, or_false] at hx
  rcases hx with rfl | rfl | rfl <;> omega
theorem isBlk_name {k : Int} {s : ByteArray} {n : Int} (h : isBlk k s n = true) : True := trivial
set_option maxHeartbeats 4000000 in
theorem iBlockText_any (k : Int) (s : ByteArray) (n p q r : Int) (w : World) (hs : s.size ≤ 1048576) (hk : KW w) (hp : PW w) :
    Calls Tryd.prog 20 #[.agg #[.int .i64 k, .string s, .int .i64 n], .agg #[.int .i64 p, .int .i64 q, .int .i64 r]] w fun e w' => e = .returned (.tuple #[.string (if canCode k s n p q r = 0 then btext k n p q r else ⟨#[]⟩), .int .i64 (canCode k s n p q r)]) ∧ New w w' := by
  have HK := Lib.hid hk
  have HP := Lib.hid hp
  have HC := Lib.hid (fun (w0 : World) (h : KW w0) => iStepCode_any k s n p q r w0 hs h)
  clear hk hp
  rcases canCode_0 (k := k) (s := s) (n := n) (a := p) (b := q) (c := r) with ⟨h0, hB⟩ | ⟨h0, hB⟩
  · rw [h0, if_pos rfl]
    rw [h0] at HC
    simp only [canB, Bool.and_eq_true] at hB
    obtain ⟨e1, e2, e3, e4⟩ := isBlk_bd hB.1
    have hN := Lib.hid (btext_nums hB.2 e3 e4)
    obtain ⟨m, rfl⟩ := Int.eq_ofNat_of_zero_le e3
    have HW := Lib.hid (fun (w0 : World) (h : KW w0) => iBlockWord_any k s (m : Int) w0 e1 e2 h)
    have HD := Lib.hid (fun (w0 : World) (h : PW w0) => by
      have h1 := iDecimal_any (m : Int) w0 (by omega) (by omega) h
      rw [itoa_nat] at h1
      exact h1)
    have HJ := Lib.hid (fun (u : Value) (w0 : World) (h : RdI w0 u [p, q, r]) (h' : PW w0) => iJoin_any u [p, q, r] w0 h hN.out (by simp) (by simp) h')
    have hz1 := (kwOf_size e1 e2).2
    have hz2 := dec_len 3 m (by omega)
    rw [← strL_size] at hz2
    have hz3 := jn_len hN.out 3 (by simp)
    rw [List.take_of_length_le (by simp), ← strL_size] at hz3
    have E := Lib.hid (show btext k m p q r = ((kwOf k ++ ⟨#[32]⟩) ++ strL (Lib.decDigits m) ++ ⟨#[32]⟩) ++ strL (jn [p, q, r]) by rw [btext, Int.toNat_natCast])
    generalize btext k m p q r = BT at E
    clear h0 hB e1 e2
    generalize kwOf k = KWD at *
    generalize strL (jn [p, q, r]) = JN at *
    generalize strL (Lib.decDigits m) = DN at *
    have g1 : ¬ (9223372036854775807 < KWD.size + 1) := by omega
    have g2 : ¬ (9223372036854775807 < KWD.size + 1 + DN.size) := by omega
    have g3 : ¬ (9223372036854775807 < KWD.size + 1 + DN.size + 1) := by omega
    have g4 : ¬ (9223372036854775807 < KWD.size + 1 + DN.size + 1 + JN.size) := by omega
    clear hz1 hz2 hz3
    go_enter Tryd.func20, Tryd.ntmps20
    go_wp2_with fail
    refine (HC.out _ (HK.out.new (by repeat (first | with_reducible exact New.refl _ | with_reducible assumption | with_reducible refine New.drew ?_ | with_reducible refine New.drewN ?_ _ | with_reducible refine New.alloc ?_ _ | with_reducible refine New.setCell ?_ (by first | (simp; done) | (simp; omega) | omega) _ | with_reducible refine New.trans ?_ (by with_reducible assumption))))).mono ?_; rintro e w1 ⟨rfl, b1⟩
    try with_reducible replace b1 := New.undrawN b1
    try with_reducible replace b1 := New.undraw b1
    obtain ⟨c1, f1⟩ := b1.rules
    have z1 := b1.size
    try simp only [World.size_alloc, World.size_drew, World.heap_drewN, World.size_setCell] at z1
    have z1_0 : w.heap.size < w1.heap.size := by omega
    have z1_1 : w.heap.size + 1 < w1.heap.size := by omega
    go_wp2_with fail
    have k0 : w1.cell? ⟨w.heap.size, 0, none⟩ = some (.int .i64 k) := by simp (disch := first | (simp only [World.size_alloc, World.size_drew, World.size_setCell]; omega) | omega | (simp; done) | (simp; omega)) only [c1, cell_alloc_old, cell_alloc_new, World.cell?_drewN, World.cell?_drew]; first | done | rfl | (simp; done)
    have k1 : w1.cell? ⟨w.heap.size, 1, none⟩ = some (.string s) := by simp (disch := first | (simp only [World.size_alloc, World.size_drew, World.size_setCell]; omega) | omega | (simp; done) | (simp; omega)) only [c1, cell_alloc_old, cell_alloc_new, World.cell?_drewN, World.cell?_drew]; first | done | rfl | (simp; done)
    have k2 : w1.cell? ⟨w.heap.size, 2, none⟩ = some (.int .i64 (m : Int)) := by simp (disch := first | (simp only [World.size_alloc, World.size_drew, World.size_setCell]; omega) | omega | (simp; done) | (simp; omega)) only [c1, cell_alloc_old, cell_alloc_new, World.cell?_drewN, World.cell?_drew]; first | done | rfl | (simp; done)
    have j0 : w1.cell? ⟨w.heap.size + 1, 0, none⟩ = some (.int .i64 p) := by simp (disch := first | (simp only [World.size_alloc, World.size_drew, World.size_setCell]; omega) | omega | (simp; done) | (simp; omega)) only [c1, cell_alloc_old, cell_alloc_new, World.cell?_drewN, World.cell?_drew]; first | done | rfl | (simp; done)
    have j1 : w1.cell? ⟨w.heap.size + 1, 1, none⟩ = some (.int .i64 q) := by simp (disch := first | (simp only [World.size_alloc, World.size_drew, World.size_setCell]; omega) | omega | (simp; done) | (simp; omega)) only [c1, cell_alloc_old, cell_alloc_new, World.cell?_drewN, World.cell?_drew]; first | done | rfl | (simp; done)
    have j2 : w1.cell? ⟨w.heap.size + 1, 2, none⟩ = some (.int .i64 r) := by simp (disch := first | (simp only [World.size_alloc, World.size_drew, World.size_setCell]; omega) | omega | (simp; done) | (simp; omega)) only [c1, cell_alloc_old, cell_alloc_new, World.cell?_drewN, World.cell?_drew]; first | done | rfl | (simp; done)
    clear c1 f1
    refine RG.wp_facts [fun X _ => X = .agg #[.int .i64 k, .string s, .int .i64 (m : Int)], fun X _ => X = .string KWD, fun X _ => X = .string (KWD ++ ⟨#[32]⟩), fun X _ => X = .pointer (some ⟨w.heap.size, 2, none⟩), fun X _ => X = .int .i64 (m : Int), fun X _ => X = .string DN, fun X _ => X = .string ((KWD ++ ⟨#[32]⟩) ++ DN), fun X _ => X = .string ((KWD ++ ⟨#[32]⟩) ++ DN ++ ⟨#[32]⟩), fun X _ => X = .pointer (some ⟨w.heap.size + 1, 0, none⟩), fun X _ => X = .int .i64 p, fun X _ => X = .pointer (some ⟨w.heap.size + 1, 1, none⟩), fun X _ => X = .int .i64 q, fun X _ => X = .pointer (some ⟨w.heap.size + 1, 2, none⟩), fun X _ => X = .int .i64 r, fun X W' => RdI W' X [p, q, r], fun X _ => X = .string JN, fun X _ => X = .string (((KWD ++ ⟨#[32]⟩) ++ DN ++ ⟨#[32]⟩) ++ JN)] (by kernel_rfl) (by kernel_rfl) ⟨RG.stable_eq _, RG.stable_eq _, RG.stable_eq _, RG.stable_eq _, RG.stable_eq _, RG.stable_eq _, RG.stable_eq _, RG.stable_eq _, RG.stable_eq _, RG.stable_eq _, RG.stable_eq _, RG.stable_eq _, RG.stable_eq _, RG.stable_eq _, fun X w0 w1 hn k27 => RdI.new k27 hn, RG.stable_eq _, RG.stable_eq _, trivial⟩ ?_ ?_
    · refine ⟨?_, ?_, ?_, ?_, ?_, ?_, ?_, ?_, ?_, ?_, ?_, ?_, ?_, ?_, ?_, ?_, ?_, trivial⟩
      · intro a w9 hw ho hk
        refine .inl ⟨by rfl, ?_⟩
        have t2 := ho 2 rfl
        dsimp at t2
        try with_reducible replace hw := New.undrawN hw
        try with_reducible replace hw := New.undraw hw
        obtain ⟨c, f'⟩ := hw.rules
        go_simp
        exact New.refl _
      · intro a w9 hw ho hk
        refine .inl ⟨by rfl, ?_⟩
        have t13 : a.tmps[13]?.getD undef = .agg #[.int .i64 k, .string s, .int .i64 (m : Int)] := hk 0 13 (by kernel_rfl) rfl
        go_simp
        refine (HW.out _ (HK.out.new (New.trans (show New w _ by exact (by repeat (first | with_reducible exact New.refl _ | with_reducible assumption | with_reducible refine New.drew ?_ | with_reducible refine New.drewN ?_ _ | with_reducible refine New.alloc ?_ _ | with_reducible refine New.setCell ?_ (by first | (simp; done) | (simp; omega) | omega) _ | with_reducible refine New.trans ?_ (by with_reducible assumption)))) hw))).mono ?_; rintro e w2 ⟨rfl, hb⟩
        first | exact ⟨hb, _, rfl, by simp⟩ | exact ⟨hb, by simp⟩
      · intro a w9 hw ho hk
        refine .inl ⟨by rfl, ?_⟩
        have t14 : a.tmps[14]?.getD undef = .string KWD := hk 1 14 (by kernel_rfl) rfl
        go_simp
        exact New.refl _
      · intro a w9 hw ho hk
        refine .inl ⟨by rfl, ?_⟩
        have t2 := ho 2 rfl
        dsimp at t2
        try with_reducible replace hw := New.undrawN hw
        try with_reducible replace hw := New.undraw hw
        obtain ⟨c, f'⟩ := hw.rules
        go_simp
        exact New.refl _
      · intro a w9 hw ho hk
        refine .inl ⟨by rfl, ?_⟩
        have t16 : a.tmps[16]?.getD undef = .pointer (some ⟨w.heap.size, 2, none⟩) := hk 3 16 (by kernel_rfl) rfl
        try with_reducible replace hw := New.undrawN hw
        try with_reducible replace hw := New.undraw hw
        obtain ⟨c, f'⟩ := hw.rules
        go_simp
        exact New.refl _
      · intro a w9 hw ho hk
        refine .inl ⟨by rfl, ?_⟩
        have t17 : a.tmps[17]?.getD undef = .int .i64 (m : Int) := hk 4 17 (by kernel_rfl) rfl
        go_simp
        refine (HD.out _ (HP.out.new (New.trans (show New w _ by exact (by repeat (first | with_reducible exact New.refl _ | with_reducible assumption | with_reducible refine New.drew ?_ | with_reducible refine New.drewN ?_ _ | with_reducible refine New.alloc ?_ _ | with_reducible refine New.setCell ?_ (by first | (simp; done) | (simp; omega) | omega) _ | with_reducible refine New.trans ?_ (by with_reducible assumption)))) hw))).mono ?_; rintro e w2 ⟨rfl, hb⟩
        first | exact ⟨hb, _, rfl, by simp⟩ | exact ⟨hb, by simp⟩
      · intro a w9 hw ho hk
        refine .inl ⟨by rfl, ?_⟩
        have t15 : a.tmps[15]?.getD undef = .string (KWD ++ ⟨#[32]⟩) := hk 2 15 (by kernel_rfl) rfl
        have t18 : a.tmps[18]?.getD undef = .string DN := hk 5 18 (by kernel_rfl) rfl
        go_simp
        exact New.refl _
      · intro a w9 hw ho hk
        refine .inl ⟨by rfl, ?_⟩
        have t19 : a.tmps[19]?.getD undef = .string ((KWD ++ ⟨#[32]⟩) ++ DN) := hk 6 19 (by kernel_rfl) rfl
        go_simp
        exact New.refl _
      · intro a w9 hw ho hk
        refine .inl ⟨by rfl, ?_⟩
        have t2 := ho 3 rfl
        dsimp at t2
        try with_reducible replace hw := New.undrawN hw
        try with_reducible replace hw := New.undraw hw
        obtain ⟨c, f'⟩ := hw.rules
        go_simp
        exact New.refl _
      · intro a w9 hw ho hk
        refine .inl ⟨by rfl, ?_⟩
        have t21 : a.tmps[21]?.getD undef = .pointer (some ⟨w.heap.size + 1, 0, none⟩) := hk 8 21 (by kernel_rfl) rfl
        try with_reducible replace hw := New.undrawN hw
        try with_reducible replace hw := New.undraw hw
        obtain ⟨c, f'⟩ := hw.rules
        go_simp
        exact New.refl _
      · intro a w9 hw ho hk
        refine .inl ⟨by rfl, ?_⟩
        have t2 := ho 3 rfl
        dsimp at t2
        try with_reducible replace hw := New.undrawN hw
        try with_reducible replace hw := New.undraw hw
        obtain ⟨c, f'⟩ := hw.rules
        go_simp
        exact New.refl _
      · intro a w9 hw ho hk
        refine .inl ⟨by rfl, ?_⟩
        have t23 : a.tmps[23]?.getD undef = .pointer (some ⟨w.heap.size + 1, 1, none⟩) := hk 10 23 (by kernel_rfl) rfl
        try with_reducible replace hw := New.undrawN hw
        try with_reducible replace hw := New.undraw hw
        obtain ⟨c, f'⟩ := hw.rules
        go_simp
        exact New.refl _
      · intro a w9 hw ho hk
        refine .inl ⟨by rfl, ?_⟩
        have t2 := ho 3 rfl
        dsimp at t2
        try with_reducible replace hw := New.undrawN hw
        try with_reducible replace hw := New.undraw hw
        obtain ⟨c, f'⟩ := hw.rules
        go_simp
        exact New.refl _
      · intro a w9 hw ho hk
        refine .inl ⟨by rfl, ?_⟩
        have t25 : a.tmps[25]?.getD undef = .pointer (some ⟨w.heap.size + 1, 2, none⟩) := hk 12 25 (by kernel_rfl) rfl
        try with_reducible replace hw := New.undrawN hw
        try with_reducible replace hw := New.undraw hw
        obtain ⟨c, f'⟩ := hw.rules
        go_simp
        exact New.refl _
      · intro a w9 hw ho hk
        refine .inl ⟨by rfl, ?_⟩
        have t22 : a.tmps[22]?.getD undef = .int .i64 p := hk 9 22 (by kernel_rfl) rfl
        have t24 : a.tmps[24]?.getD undef = .int .i64 q := hk 11 24 (by kernel_rfl) rfl
        have t26 : a.tmps[26]?.getD undef = .int .i64 r := hk 13 26 (by kernel_rfl) rfl
        go_simp; first | exact ⟨(New.refl _).alloc _, _, rfl, rdI_lay3 _ _ _ _ _⟩ | exact ⟨(New.refl _).alloc _, rdI_lay3 _ _ _ _ _⟩
      · intro a w9 hw ho hk
        refine .inl ⟨by rfl, ?_⟩
        obtain k27 : RdI w9 (a.tmps[27]?.getD undef) [p, q, r] := hk 14 27 (by kernel_rfl) rfl
        go_simp
        refine (HJ.out _ _ k27 (HP.out.new (New.trans (show New w _ by exact (by repeat (first | with_reducible exact New.refl _ | with_reducible assumption | with_reducible refine New.drew ?_ | with_reducible refine New.drewN ?_ _ | with_reducible refine New.alloc ?_ _ | with_reducible refine New.setCell ?_ (by first | (simp; done) | (simp; omega) | omega) _ | with_reducible refine New.trans ?_ (by with_reducible assumption)))) hw))).mono ?_; rintro e w2 ⟨rfl, hb⟩
        first | exact ⟨hb, _, rfl, by simp⟩ | exact ⟨hb, by simp⟩
      · intro a w9 hw ho hk
        refine .inl ⟨by rfl, ?_⟩
        have t20 : a.tmps[20]?.getD undef = .string ((KWD ++ ⟨#[32]⟩) ++ DN ++ ⟨#[32]⟩) := hk 7 20 (by kernel_rfl) rfl
        have t28 : a.tmps[28]?.getD undef = .string JN := hk 15 28 (by kernel_rfl) rfl
        go_simp
        exact New.refl _
    intro w2 b2 y0 g0 y1 g1' y2 g2' y3 g3' y4 g4' y5 g5 y6 g6 y7 g7 y8 g8 y9 g9 y10 g10 y11 g11 y12 g12 y13 g13 y14 g14 y15 g15 y16 g16
    subst g0 g1' g2' g3' g4' g5 g6 g7 g8 g9 g10 g11 g12 g13 g15 g16
    try with_reducible replace b2 := New.undrawN b2
    try with_reducible replace b2 := New.undraw b2
    obtain ⟨c2, f2⟩ := b2.rules
    have z2 := b2.size
    try simp only [World.size_alloc, World.size_drew, World.heap_drewN, World.size_setCell] at z2
    simp only [RG.EndAll, List.nil_append, List.cons_append, List.length_cons, List.length_nil, Nat.zero_add, Nat.reduceAdd, List.take_succ_cons, List.take_zero, List.drop_succ_cons, List.drop_zero, RG.putAll, Act.put, List.setIfInBounds_toArray, List.set_cons_succ, List.set_cons_zero]
    go_wp2_with fail
    go_ret2
    exact ⟨by rw [E.out]; rfl, (by repeat (first | with_reducible exact New.refl _ | with_reducible assumption | with_reducible refine New.drew ?_ | with_reducible refine New.drewN ?_ _ | with_reducible refine New.alloc ?_ _ | with_reducible refine New.setCell ?_ (by first | (simp; done) | (simp; omega) | omega) _ | with_reducible refine New.trans ?_ (by with_reducible assumption)))⟩
  · rw [if_neg h0]
    have h1 : (canCode k s n p q r == 0) = false := by simpa using h0
    clear h0 hB
    generalize canCode k s n p q r = cc at *
    go_enter Tryd.func20, Tryd.ntmps20
    go_wp2_with fail
    refine (HC.out _ (HK.out.new (by repeat (first | with_reducible exact New.refl _ | with_reducible assumption | with_reducible refine New.drew ?_ | with_reducible refine New.drewN ?_ _ | with_reducible refine New.alloc ?_ _ | with_reducible refine New.setCell ?_ (by first | (simp; done) | (simp; omega) | omega) _ | with_reducible refine New.trans ?_ (by with_reducible assumption))))).mono ?_; rintro e w1 ⟨rfl, b1⟩
    try with_reducible replace b1 := New.undrawN b1
    try with_reducible replace b1 := New.undraw b1
    obtain ⟨c1, f1⟩ := b1.rules
    have z1 := b1.size
    try simp only [World.size_alloc, World.size_drew, World.heap_drewN, World.size_setCell] at z1
    have z1_0 : w.heap.size < w1.heap.size := by omega
    have z1_1 : w.heap.size + 1 < w1.heap.size := by omega
    go_wp2_with fail
    go_ret2
    exact ⟨rfl, (by repeat (first | with_reducible exact New.refl _ | with_reducible assumption | with_reducible refine New.drew ?_ | with_reducible refine New.drewN ?_ _ | with_reducible refine New.alloc ?_ _ | with_reducible refine New.setCell ?_ (by first | (simp; done) | (simp; omega) | omega) _ | with_reducible refine New.trans ?_ (by with_reducible assumption)))⟩
theorem kw_at_rd {w : World} {X : Value} (h : RdS w X keys) {k : Int} (e1 : 7 ≤ k) (e2 : k ≤ 12) : ∃ b off cap, X = .slice (some ⟨b, off, none⟩) 17 cap ∧ b < w.heap.size ∧ w.cell? ⟨b, off + (k + 4).toNat, none⟩ = some (.string (kwOf k)) := by
  obtain ⟨ad, cap, rfl, _, _, hc⟩ := h
  obtain ⟨b, off, rfl, hb, hx⟩ := hc (k + 4).toNat (.string (kwOf k)) (by simp [kwOf_at e1 e2])
  exact ⟨b, off, cap, rfl, hb, hx⟩
set_option maxHeartbeats 4000000 in
theorem sBlockText_any (k : Int) (s : ByteArray) (n p q r : Int) (w : World) (hs : s.size ≤ 1048576) :
    Calls Tryd.prog 17 #[.agg #[.int .i64 k, .string s, .int .i64 n], .agg #[.int .i64 p, .int .i64 q, .int .i64 r]] w fun e w' => e = .returned (.tuple #[.string (if canCode k s n p q r = 0 then btext k n p q r else ⟨#[]⟩), .int .i64 (canCode k s n p q r)]) ∧ New w w' := by
  have HB := Lib.hid (fun (w0 : World) => sIsBlock_any k s n w0 hs)
  cases h1 : isBlk k s n with
  | false =>
    have e : canCode k s n p q r = 1 := by rw [canCode, h1]; simp
    rw [e, if_neg (by omega)]
    rw [h1] at HB
    clear e h1
    go_enter Tryd.func17, Tryd.ntmps17
    go_wp2_with fail
    refine (HB.out _).mono ?_; rintro e w1 ⟨rfl, b1⟩
    try with_reducible replace b1 := New.undrawN b1
    try with_reducible replace b1 := New.undraw b1
    obtain ⟨c1, f1⟩ := b1.rules
    have z1 := b1.size
    try simp only [World.size_alloc, World.size_drew, World.heap_drewN, World.size_setCell] at z1
    have z1_0 : w.heap.size < w1.heap.size := by omega
    have z1_1 : w.heap.size + 1 < w1.heap.size := by omega
    go_wp2_with fail
    go_ret2
    exact ⟨rfl, (by repeat (first | with_reducible exact New.refl _ | with_reducible assumption | with_reducible refine New.drew ?_ | with_reducible refine New.drewN ?_ _ | with_reducible refine New.alloc ?_ _ | with_reducible refine New.setCell ?_ (by first | (simp; done) | (simp; omega) | omega) _ | with_reducible refine New.trans ?_ (by with_reducible assumption)))⟩
  | true =>
    obtain ⟨e1, e2, e3, e4⟩ := isBlk_bd h1
    have HQ := Lib.hid (fun (w0 : World) => sPossible_any k s n p q r w0 e1 e2 e3 e4)
    cases h2 : posB k n p q r with
    | false =>
      have e : canCode k s n p q r = 2 := by rw [canCode, if_pos h1, h2]; simp
      rw [e, if_neg (by omega)]
      rw [h1] at HB
      rw [h2] at HQ
      clear e h1 h2
      go_enter Tryd.func17, Tryd.ntmps17
      go_wp2_with fail
      refine (HB.out _).mono ?_; rintro e w1 ⟨rfl, b1⟩
      try with_reducible replace b1 := New.undrawN b1
      try with_reducible replace b1 := New.undraw b1
      obtain ⟨c1, f1⟩ := b1.rules
      have z1 := b1.size
      try simp only [World.size_alloc, World.size_drew, World.heap_drewN, World.size_setCell] at z1
      have z1_0 : w.heap.size < w1.heap.size := by omega
      have z1_1 : w.heap.size + 1 < w1.heap.size := by omega
      go_wp2_with fail
      refine (HQ.out _).mono ?_; rintro e w2 ⟨rfl, b2⟩
      try with_reducible replace b2 := New.undrawN b2
      try with_reducible replace b2 := New.undraw b2
      obtain ⟨c2, f2⟩ := b2.rules
      have z2 := b2.size
      try simp only [World.size_alloc, World.size_drew, World.heap_drewN, World.size_setCell] at z2
      have z2_0 : w.heap.size < w2.heap.size := by omega
      have z2_1 : w.heap.size + 1 < w2.heap.size := by omega
      go_wp2_with fail
      go_ret2
      exact ⟨rfl, (by repeat (first | with_reducible exact New.refl _ | with_reducible assumption | with_reducible refine New.drew ?_ | with_reducible refine New.drewN ?_ _ | with_reducible refine New.alloc ?_ _ | with_reducible refine New.setCell ?_ (by first | (simp; done) | (simp; omega) | omega) _ | with_reducible refine New.trans ?_ (by with_reducible assumption)))⟩
    | true =>
      have e : canCode k s n p q r = 0 := by rw [canCode, if_pos h1, if_pos h2]
      rw [e, if_pos rfl]
      rw [h1] at HB
      rw [h2] at HQ
      have hN := Lib.hid (btext_nums h2 e3 e4)
      obtain ⟨m, rfl⟩ := Int.eq_ofNat_of_zero_le e3
      have HD := Lib.hid (fun (w0 : World) => sDec_any m w0 (by omega))
      have HJ := Lib.hid (fun (u : Value) (w0 : World) (h : RdI w0 u [p, q, r]) => sL20_any u [p, q, r] w0 h hN.out (by simp))
      have HK := Lib.hid (fun (w0 : World) (X : Value) (h : RdS w0 X keys) => kw_at_rd h e1 e2)
      have hz1 := (kwOf_size e1 e2).2
      have hz2 := dec_len 3 m (by omega)
      rw [← strL_size] at hz2
      have hz3 := jn_len hN.out 3 (by simp)
      rw [List.take_of_length_le (by simp), ← strL_size] at hz3
      have E := Lib.hid (show btext k m p q r = ((kwOf k ++ ⟨#[32]⟩) ++ strL (Lib.decDigits m) ++ ⟨#[32]⟩) ++ strL (jn [p, q, r]) by rw [btext, Int.toNat_natCast])
      generalize btext k m p q r = BT at E
      clear h1 h2 e
      generalize kwOf k = KWD at *
      generalize strL (jn [p, q, r]) = JN at *
      generalize strL (Lib.decDigits m) = DN at *
      have g1 : ¬ (9223372036854775807 < KWD.size + 1) := by omega
      have g2 : ¬ (9223372036854775807 < KWD.size + 1 + DN.size) := by omega
      have g3 : ¬ (9223372036854775807 < KWD.size + 1 + DN.size + 1) := by omega
      have g4 : ¬ (9223372036854775807 < KWD.size + 1 + DN.size + 1 + JN.size) := by omega
      clear hz1 hz2 hz3
      have hkn : ∃ i : Nat, k = (i : Int) + 7 ∧ i ≤ 5 := ⟨(k - 7).toNat, by omega, by omega⟩
      obtain ⟨i, rfl, hi5⟩ := hkn
      have g5 : IntKind.i64.wrap ((i : Int) + 7 - 7) = (i : Int) := by rw [Int.add_sub_cancel]; exact i64_in' _ (by omega) (by omega)
      have g5b := i64_in' (i : Int) (by omega) (by omega)
      have g6 := i64_in' ((i : Int) + 11) (by omega) (by omega)
      have g9 : 0 ≤ (i : Int) + 11 := by omega
      have g10 : (i : Int) + 11 < 17 := by omega
      have g7 : ((i : Int) + 7 + 4).toNat = i + 11 := by omega
      rw [g7] at HK
      have g8 : ((i : Int) + 11).toNat = i + 11 := by omega
      go_enter Tryd.func17, Tryd.ntmps17
      go_wp2_with fail
      refine (HB.out _).mono ?_; rintro e w1 ⟨rfl, b1⟩
      try with_reducible replace b1 := New.undrawN b1
      try with_reducible replace b1 := New.undraw b1
      obtain ⟨c1, f1⟩ := b1.rules
      have z1 := b1.size
      try simp only [World.size_alloc, World.size_drew, World.heap_drewN, World.size_setCell] at z1
      have z1_0 : w.heap.size < w1.heap.size := by omega
      have z1_1 : w.heap.size + 1 < w1.heap.size := by omega
      go_wp2_with fail
      refine (HQ.out _).mono ?_; rintro e w2 ⟨rfl, b2⟩
      try with_reducible replace b2 := New.undrawN b2
      try with_reducible replace b2 := New.undraw b2
      obtain ⟨c2, f2⟩ := b2.rules
      have z2 := b2.size
      try simp only [World.size_alloc, World.size_drew, World.heap_drewN, World.size_setCell] at z2
      have z2_0 : w.heap.size < w2.heap.size := by omega
      have z2_1 : w.heap.size + 1 < w2.heap.size := by omega
      go_wp2_with fail
      have k0 : w2.cell? ⟨w.heap.size, 0, none⟩ = some (.int .i64 ((i : Int) + 7)) := by simp (disch := first | (simp only [World.size_alloc, World.size_drew, World.size_setCell]; omega) | omega | (simp; done) | (simp; omega)) only [c2, c1, cell_alloc_old, cell_alloc_new, World.cell?_drewN, World.cell?_drew]; first | done | rfl | (simp; done)
      have k2 : w2.cell? ⟨w.heap.size, 2, none⟩ = some (.int .i64 (m : Int)) := by simp (disch := first | (simp only [World.size_alloc, World.size_drew, World.size_setCell]; omega) | omega | (simp; done) | (simp; omega)) only [c2, c1, cell_alloc_old, cell_alloc_new, World.cell?_drewN, World.cell?_drew]; first | done | rfl | (simp; done)
      have j0 : w2.cell? ⟨w.heap.size + 1, 0, none⟩ = some (.int .i64 p) := by simp (disch := first | (simp only [World.size_alloc, World.size_drew, World.size_setCell]; omega) | omega | (simp; done) | (simp; omega)) only [c2, c1, cell_alloc_old, cell_alloc_new, World.cell?_drewN, World.cell?_drew]; first | done | rfl | (simp; done)
      have j1 : w2.cell? ⟨w.heap.size + 1, 1, none⟩ = some (.int .i64 q) := by simp (disch := first | (simp only [World.size_alloc, World.size_drew, World.size_setCell]; omega) | omega | (simp; done) | (simp; omega)) only [c2, c1, cell_alloc_old, cell_alloc_new, World.cell?_drewN, World.cell?_drew]; first | done | rfl | (simp; done)
      have j2 : w2.cell? ⟨w.heap.size + 1, 2, none⟩ = some (.int .i64 r) := by simp (disch := first | (simp only [World.size_alloc, World.size_drew, World.size_setCell]; omega) | omega | (simp; done) | (simp; omega)) only [c2, c1, cell_alloc_old, cell_alloc_new, World.cell?_drewN, World.cell?_drew]; first | done | rfl | (simp; done)
      clear c1 f1 c2 f2
      refine RG.wp_facts [fun X W' => RdS W' X keys, fun X _ => X = .pointer (some ⟨w.heap.size, 0, none⟩), fun X _ => X = .int .i64 ((i : Int) + 7), fun X _ => X = .int .i64 (i : Int), fun X _ => X = .int .i64 ((i : Int) + 11), fun X W' => PtrTo W' X (.string KWD), fun X _ => X = .string KWD, fun X _ => X = .string (KWD ++ ⟨#[32]⟩), fun X _ => X = .pointer (some ⟨w.heap.size, 2, none⟩), fun X _ => X = .int .i64 (m : Int), fun X _ => X = .string DN, fun X _ => X = .string ((KWD ++ ⟨#[32]⟩) ++ DN), fun X _ => X = .string ((KWD ++ ⟨#[32]⟩) ++ DN ++ ⟨#[32]⟩), fun X _ => X = .pointer (some ⟨w.heap.size + 1, 0, none⟩), fun X _ => X = .int .i64 p, fun X _ => X = .pointer (some ⟨w.heap.size + 1, 1, none⟩), fun X _ => X = .int .i64 q, fun X _ => X = .pointer (some ⟨w.heap.size + 1, 2, none⟩), fun X _ => X = .int .i64 r, fun X W' => RdI W' X [p, q, r], fun X _ => X = .string JN, fun X _ => X = .string (((KWD ++ ⟨#[32]⟩) ++ DN ++ ⟨#[32]⟩) ++ JN)] (by kernel_rfl) (by kernel_rfl) ⟨fun X w0 w1 hn k13 => Rd.new k13 hn, RG.stable_eq _, RG.stable_eq _, RG.stable_eq _, RG.stable_eq _, fun X w0 w1 hn k18 => k18.new hn, RG.stable_eq _, RG.stable_eq _, RG.stable_eq _, RG.stable_eq _, RG.stable_eq _, RG.stable_eq _, RG.stable_eq _, RG.stable_eq _, RG.stable_eq _, RG.stable_eq _, RG.stable_eq _, RG.stable_eq _, RG.stable_eq _, fun X w0 w1 hn k32 => RdI.new k32 hn, RG.stable_eq _, RG.stable_eq _, trivial⟩ ?_ ?_
      · refine ⟨?_, ?_, ?_, ?_, ?_, ?_, ?_, ?_, ?_, ?_, ?_, ?_, ?_, ?_, ?_, ?_, ?_, ?_, ?_, ?_, ?_, ?_, trivial⟩
        · intro a w9 hw ho hk
          refine .inl ⟨by rfl, ?_⟩
          go_simp; refine (sKeywords_any _).mono ?_; rintro e w3 ⟨u, rfl, hb, hu⟩; first | exact ⟨hb, _, rfl, hu⟩ | exact ⟨hb, hu⟩
        · intro a w9 hw ho hk
          refine .inl ⟨by rfl, ?_⟩
          have t2 := ho 2 rfl
          dsimp at t2
          try with_reducible replace hw := New.undrawN hw
          try with_reducible replace hw := New.undraw hw
          obtain ⟨c, f'⟩ := hw.rules
          go_simp
          exact New.refl _
        · intro a w9 hw ho hk
          refine .inl ⟨by rfl, ?_⟩
          have t14 : a.tmps[14]?.getD undef = .pointer (some ⟨w.heap.size, 0, none⟩) := hk 1 14 (by kernel_rfl) rfl
          try with_reducible replace hw := New.undrawN hw
          try with_reducible replace hw := New.undraw hw
          obtain ⟨c, f'⟩ := hw.rules
          go_simp
          exact New.refl _
        · intro a w9 hw ho hk
          refine .inl ⟨by rfl, ?_⟩
          have t15 : a.tmps[15]?.getD undef = .int .i64 ((i : Int) + 7) := hk 2 15 (by kernel_rfl) rfl
          go_simp
          exact New.refl _
        · intro a w9 hw ho hk
          refine .inl ⟨by rfl, ?_⟩
          have t16 : a.tmps[16]?.getD undef = .int .i64 (i : Int) := hk 3 16 (by kernel_rfl) rfl
          go_simp
          exact New.refl _
        · intro a w9 hw ho hk
          refine .inl ⟨by rfl, ?_⟩
          obtain k13 : RdS w9 (a.tmps[13]?.getD undef) keys := hk 0 13 (by kernel_rfl) rfl
          have t17 : a.tmps[17]?.getD undef = .int .i64 ((i : Int) + 11) := hk 4 17 (by kernel_rfl) rfl
          obtain ⟨b3, o3, cap3, t13, l3, x3⟩ := HK.out _ _ k13; go_simp; first | exact ⟨New.refl _, _, rfl, b3, _, rfl, l3, x3⟩ | exact ⟨New.refl _, b3, _, rfl, l3, x3⟩
        · intro a w9 hw ho hk
          refine .inl ⟨by rfl, ?_⟩
          obtain k18 : PtrTo w9 (a.tmps[18]?.getD undef) (.string KWD) := hk 5 18 (by kernel_rfl) rfl
          obtain ⟨b35, o35, t35, l35, c35⟩ := k18; go_simp; exact New.refl _
        · intro a w9 hw ho hk
          refine .inl ⟨by rfl, ?_⟩
          have t19 : a.tmps[19]?.getD undef = .string KWD := hk 6 19 (by kernel_rfl) rfl
          go_simp
          exact New.refl _
        · intro a w9 hw ho hk
          refine .inl ⟨by rfl, ?_⟩
          have t2 := ho 2 rfl
          dsimp at t2
          try with_reducible replace hw := New.undrawN hw
          try with_reducible replace hw := New.undraw hw
          obtain ⟨c, f'⟩ := hw.rules
          go_simp
          exact New.refl _
        · intro a w9 hw ho hk
          refine .inl ⟨by rfl, ?_⟩
          have t21 : a.tmps[21]?.getD undef = .pointer (some ⟨w.heap.size, 2, none⟩) := hk 8 21 (by kernel_rfl) rfl
          try with_reducible replace hw := New.undrawN hw
          try with_reducible replace hw := New.undraw hw
          obtain ⟨c, f'⟩ := hw.rules
          go_simp
          exact New.refl _
        · intro a w9 hw ho hk
          refine .inl ⟨by rfl, ?_⟩
          have t22 : a.tmps[22]?.getD undef = .int .i64 (m : Int) := hk 9 22 (by kernel_rfl) rfl
          go_simp
          refine (HD.out _).mono ?_; rintro e w2 ⟨rfl, hb⟩
          first | exact ⟨hb, _, rfl, by simp⟩ | exact ⟨hb, by simp⟩
        · intro a w9 hw ho hk
          refine .inl ⟨by rfl, ?_⟩
          have t20 : a.tmps[20]?.getD undef = .string (KWD ++ ⟨#[32]⟩) := hk 7 20 (by kernel_rfl) rfl
          have t23 : a.tmps[23]?.getD undef = .string DN := hk 10 23 (by kernel_rfl) rfl
          go_simp
          exact New.refl _
        · intro a w9 hw ho hk
          refine .inl ⟨by rfl, ?_⟩
          have t24 : a.tmps[24]?.getD undef = .string ((KWD ++ ⟨#[32]⟩) ++ DN) := hk 11 24 (by kernel_rfl) rfl
          go_simp
          exact New.refl _
        · intro a w9 hw ho hk
          refine .inl ⟨by rfl, ?_⟩
          have t2 := ho 3 rfl
          dsimp at t2
          try with_reducible replace hw := New.undrawN hw
          try with_reducible replace hw := New.undraw hw
          obtain ⟨c, f'⟩ := hw.rules
          go_simp
          exact New.refl _
        · intro a w9 hw ho hk
          refine .inl ⟨by rfl, ?_⟩
          have t26 : a.tmps[26]?.getD undef = .pointer (some ⟨w.heap.size + 1, 0, none⟩) := hk 13 26 (by kernel_rfl) rfl
          try with_reducible replace hw := New.undrawN hw
          try with_reducible replace hw := New.undraw hw
          obtain ⟨c, f'⟩ := hw.rules
          go_simp
          exact New.refl _
        · intro a w9 hw ho hk
          refine .inl ⟨by rfl, ?_⟩
          have t2 := ho 3 rfl
          dsimp at t2
          try with_reducible replace hw := New.undrawN hw
          try with_reducible replace hw := New.undraw hw
          obtain ⟨c, f'⟩ := hw.rules
          go_simp
          exact New.refl _
        · intro a w9 hw ho hk
          refine .inl ⟨by rfl, ?_⟩
          have t28 : a.tmps[28]?.getD undef = .pointer (some ⟨w.heap.size + 1, 1, none⟩) := hk 15 28 (by kernel_rfl) rfl
          try with_reducible replace hw := New.undrawN hw
          try with_reducible replace hw := New.undraw hw
          obtain ⟨c, f'⟩ := hw.rules
          go_simp
          exact New.refl _
        · intro a w9 hw ho hk
          refine .inl ⟨by rfl, ?_⟩
          have t2 := ho 3 rfl
          dsimp at t2
          try with_reducible replace hw := New.undrawN hw
          try with_reducible replace hw := New.undraw hw
          obtain ⟨c, f'⟩ := hw.rules
          go_simp
          exact New.refl _
        · intro a w9 hw ho hk
          refine .inl ⟨by rfl, ?_⟩
          have t30 : a.tmps[30]?.getD undef = .pointer (some ⟨w.heap.size + 1, 2, none⟩) := hk 17 30 (by kernel_rfl) rfl
          try with_reducible replace hw := New.undrawN hw
          try with_reducible replace hw := New.undraw hw
          obtain ⟨c, f'⟩ := hw.rules
          go_simp
          exact New.refl _
        · intro a w9 hw ho hk
          refine .inl ⟨by rfl, ?_⟩
          have t27 : a.tmps[27]?.getD undef = .int .i64 p := hk 14 27 (by kernel_rfl) rfl
          have t29 : a.tmps[29]?.getD undef = .int .i64 q := hk 16 29 (by kernel_rfl) rfl
          have t31 : a.tmps[31]?.getD undef = .int .i64 r := hk 18 31 (by kernel_rfl) rfl
          go_simp; first | exact ⟨(New.refl _).alloc _, _, rfl, rdI_lay3 _ _ _ _ _⟩ | exact ⟨(New.refl _).alloc _, rdI_lay3 _ _ _ _ _⟩
        · intro a w9 hw ho hk
          refine .inl ⟨by rfl, ?_⟩
          obtain k32 : RdI w9 (a.tmps[32]?.getD undef) [p, q, r] := hk 19 32 (by kernel_rfl) rfl
          go_simp
          refine (HJ.out _ _ k32).mono ?_; rintro e w2 ⟨rfl, hb⟩
          first | exact ⟨hb, _, rfl, by simp⟩ | exact ⟨hb, by simp⟩
        · intro a w9 hw ho hk
          refine .inl ⟨by rfl, ?_⟩
          have t25 : a.tmps[25]?.getD undef = .string ((KWD ++ ⟨#[32]⟩) ++ DN ++ ⟨#[32]⟩) := hk 12 25 (by kernel_rfl) rfl
          have t33 : a.tmps[33]?.getD undef = .string JN := hk 20 33 (by kernel_rfl) rfl
          go_simp
          exact New.refl _
      intro w3 b3 y0 g0' y1 g1' y2 g2' y3 g3' y4 g4' y5 g5' y6 g6' y7 g7' y8 g8' y9 g9' y10 g10' y11 g11' y12 g12' y13 g13' y14 g14' y15 g15' y16 g16' y17 g17' y18 g18' y19 g19' y20 g20' y21 g21'
      subst g1' g2' g3' g4' g6' g7' g8' g9' g10' g11' g12' g13' g14' g15' g16' g17' g18' g20' g21'
      try with_reducible replace b3 := New.undrawN b3
      try with_reducible replace b3 := New.undraw b3
      obtain ⟨c3, f3⟩ := b3.rules
      have z3 := b3.size
      try simp only [World.size_alloc, World.size_drew, World.heap_drewN, World.size_setCell] at z3
      simp only [RG.EndAll, List.nil_append, List.cons_append, List.length_cons, List.length_nil, Nat.zero_add, Nat.reduceAdd, List.take_succ_cons, List.take_zero, List.drop_succ_cons, List.drop_zero, RG.putAll, Act.put, List.setIfInBounds_toArray, List.set_cons_succ, List.set_cons_zero]
      go_wp2_with fail
      go_ret2
      exact ⟨by rw [E.out]; rfl, (by repeat (first | with_reducible exact New.refl _ | with_reducible assumption | with_reducible refine New.drew ?_ | with_reducible refine New.drewN ?_ _ | with_reducible refine New.alloc ?_ _ | with_reducible refine New.setCell ?_ (by first | (simp; done) | (simp; omega) | omega) _ | with_reducible refine New.trans ?_ (by with_reducible assumption)))⟩
end Go.Proofs.YtflhdijlhdckoaaDoor
