/- Contracts: the value of a variable in a memory. -/
import Derived.Test.YtflhdijlhdckoaaGreatDoorProg
import Derived.Test.YtflhdijlhdckoaaGreatDoorMemF
import Derived.Test.YtflhdijlhdckoaaGreatDoorRegionG
import Derived.Test.YtflhdijlhdckoaaGreatDoorStrs
namespace Go.Proofs.YtflhdijlhdckoaaGreatDoor
open Go Go.Proofs Go.RowKit
set_option linter.unusedVariables false
set_option linter.unusedSimpArgs false
set_option maxRecDepth 100000
theorem indexNone_any (f : Value) (c : Nat) (w : World) :
    Calls Tryz.prog 181 #[.slice none 0 c, f] w fun e w' => e = .returned (.int .i64 (-1)) ∧ w = w' := by
  go_enter Tryz.func181, Tryz.ntmps181
  go_wp2_with fail
  go_loop [8] (fun i => i = .int .i64 0) (fun _ => 0)
  case atStart => rfl
  case round =>
    subst hrel
    go_wp2_with fail
    go_ret
    exact ⟨rfl, rfl⟩
theorem containsNone_any (f : Value) (c : Nat) (w : World) :
    Calls Tryz.prog 122 #[.slice none 0 c, f] w fun e w' => e = .returned (.bool false) ∧ w = w' := by
  go_enter Tryz.func122, Tryz.ntmps122
  go_wp2_with (first | (go_at_call 181; refine (indexNone_any _ _ _).mono ?_; rintro e _ ⟨rfl, rfl⟩))
  go_ret
  exact ⟨rfl, rfl⟩
def fitsB (p : ProgD) (m : MemD) : Bool := suitsB p.vars.length (blkP p) m.vals m.blocks
def scanC (p : ProgD) (m : MemD) : Int := if soundB p = true then (if fitsB p m = true then 0 else 2) else 1
def idxV (p : ProgD) (s : ByteArray) : Int := idx (fun y => s.toList == y.toList) p.vars
def valR (p : ProgD) (m : MemD) (s : ByteArray) : Int × Int :=
  if soundB p = true then (if fitsB p m = true then (if idxV p s < 0 then (0, 4) else (m.vals.getD (idxV p s).toNat 0, 0)) else (0, 2)) else (0, 1)
theorem fits_len {p : ProgD} {m : MemD} (h : fitsB p m = true) : m.vals.length = p.vars.length := by
  rw [fitsB, suitsB, bitsB] at h
  simp only [Bool.and_eq_true] at h
  have := eq_of_beq h.1.2.2
  omega
theorem idxV_cases (p : ProgD) (s : ByteArray) : idxV p s = -1 ∨ ∃ k : Nat, idxV p s = k ∧ k < p.vars.length := by
  rw [idxV]
  cases h : p.vars.findIdx? (fun y => s.toList == y.toList) with
  | none => exact .inl (idx_none h)
  | some k => exact .inr ⟨k, idx_some h, (List.findIdx?_eq_some_iff_getElem.1 h).1⟩
set_option maxHeartbeats 1000000 in
theorem iScanCode_any (p : ProgD) (m : MemD) (iv vv ov lv va bl : Value) (w : World) (hp : RdP w p iv vv ov lv) (hf : FitP p) (hm : RdMm w m va bl) (hk : KW w) :
    Calls Tryz.prog 67 #[valP p iv vv ov lv, .agg #[va, bl], .slice none 0 0] w fun e w' => e = .returned (.int .i64 (scanC p m)) ∧ New w w' := by
  have HK := Lib.hid hk; clear hk
  have HP := Lib.hid hp
  have HM := Lib.hid hm; clear hm
  have zz : w.heap.size < w.heap.size + 1 + 1 := by omega
  obtain ⟨ax, cx, rfl, _⟩ := id hp.vars
  clear hp
  have HS := Lib.hid (fun (w0 : World) (h : RdP w0 p iv (.slice ax p.vars.length cx) ov lv) (k : KW w0) => iIsSound_any p iv _ ov lv w0 h hf k)
  rcases Bool.eq_false_or_eq_true (soundB p) with h1 | h1
  · have hw : wB p = true := by rw [soundB, Bool.and_eq_true] at h1; exact h1.1
    have HB := Lib.hid (fun (w0 : World) (h : RdP w0 p iv (.slice ax p.vars.length cx) ov lv) => iBlocks0_any p iv _ ov lv w0 h hw)
    have HC := Lib.hid (fun (q : Value) (w0 : World) (a1 : RdT w0 q (blkP p)) (a2 : RdMm w0 m va bl) => iSuits_any p.vars.length (blkP p) m.vals m.blocks q va bl w0 a1 a2.va a2.bl (blkP_ok hw))
    rw [h1] at HS
    rcases Bool.eq_false_or_eq_true (fitsB p m) with h2 | h2
    · have HR := Lib.hid (show scanC p m = 0 by rw [scanC, if_pos h1, if_pos h2])
      rw [fitsB] at h2
      rw [h2] at HC
      generalize blkP p = bs at HB HC
      clear hw h1 h2
      go_enter Tryz.func67, Tryz.ntmps67
      go_wp2_with fail
      refine (HS.out _ (HP.out.new (by repeat (first | with_reducible exact New.refl _ | with_reducible assumption | with_reducible refine New.drew ?_ | with_reducible refine New.drewN ?_ _ | with_reducible refine New.alloc ?_ _ | with_reducible refine New.setCell ?_ (by first | (simp; done) | (simp; omega) | omega) _ | with_reducible refine New.trans ?_ (by with_reducible assumption)))) (HK.out.new (by repeat (first | with_reducible exact New.refl _ | with_reducible assumption | with_reducible refine New.drew ?_ | with_reducible refine New.drewN ?_ _ | with_reducible refine New.alloc ?_ _ | with_reducible refine New.setCell ?_ (by first | (simp; done) | (simp; omega) | omega) _ | with_reducible refine New.trans ?_ (by with_reducible assumption))))).mono ?_; rintro e w1 ⟨rfl, b1⟩
      try replace b1 := New.undrawN b1
      try replace b1 := New.undraw b1
      obtain ⟨c1, f1⟩ := b1.rules
      have z1 := b1.size
      try simp only [World.size_alloc, World.size_drew, World.heap_drewN, World.size_setCell] at z1
      have z1_0 : w.heap.size < w1.heap.size := by omega
      have z1_1 : w.heap.size + 1 < w1.heap.size := by omega
      go_wp2_with fail
      refine RG.wp_facts [fun X _ => X = .agg #[va, bl], fun X _ => X = .pointer (some ⟨w.heap.size, 2, none⟩), fun X _ => X = .slice ax p.vars.length cx, fun X _ => X = .int .i64 p.vars.length, fun X _ => X = valP p iv (.slice ax p.vars.length cx) ov lv, fun X W' => ∃ q, X = q ∧ RdT W' q bs, fun X _ => X = .bool true, fun X _ => X = .bool false, fun X _ => X = .bool false, fun X _ => X = .slice none 0 0, fun X W' => ∃ q, X = q, fun X _ => X = .bool false, fun X _ => X = .bool false, fun X _ => X = .bool false] (by kernel_rfl) (by kernel_rfl) ⟨RG.stable_eq _, RG.stable_eq _, RG.stable_eq _, RG.stable_eq _, RG.stable_eq _, fun X w0 w1 hn ⟨q1, t17, r1⟩ => ⟨q1, t17, Rd.new r1 hn⟩, RG.stable_eq _, RG.stable_eq _, RG.stable_eq _, RG.stable_eq _, fun X w0 w1 hn ⟨q2, t22⟩ => ⟨q2, t22⟩, RG.stable_eq _, RG.stable_eq _, RG.stable_eq _, trivial⟩ ?_ ?_
      · refine ⟨?_, ?_, ?_, ?_, ?_, ?_, ?_, ?_, ?_, ?_, ?_, ?_, ?_, ?_, trivial⟩
        · intro a w9 hw ho hk
          refine .inl ⟨by rfl, ?_⟩
          have t2 := ho 4 rfl
          dsimp at t2
          try with_reducible replace hw := New.undrawN hw
          try with_reducible replace hw := New.undraw hw
          obtain ⟨c, f'⟩ := hw.rules
          go_simp
          exact New.refl _
        · intro a w9 hw ho hk
          refine .inl ⟨by rfl, ?_⟩
          have t2 := ho 3 rfl
          dsimp at t2
          try with_reducible replace hw := New.undrawN hw
          try with_reducible replace hw := New.undraw hw
          obtain ⟨c, f'⟩ := hw.rules
          go_simp
          exact New.refl _
        · intro a w9 hw ho hk
          refine .inl ⟨by rfl, ?_⟩
          have t13 : a.tmps[13]?.getD undef = .pointer (some ⟨w.heap.size, 2, none⟩) := hk 1 13 (by kernel_rfl) rfl
          try with_reducible replace hw := New.undrawN hw
          try with_reducible replace hw := New.undraw hw
          obtain ⟨c, f'⟩ := hw.rules
          go_simp
          exact New.refl _
        · intro a w9 hw ho hk
          refine .inl ⟨by rfl, ?_⟩
          have t14 : a.tmps[14]?.getD undef = .slice ax p.vars.length cx := hk 2 14 (by kernel_rfl) rfl
          go_simp
          exact New.refl _
        · intro a w9 hw ho hk
          refine .inl ⟨by rfl, ?_⟩
          have t2 := ho 3 rfl
          dsimp at t2
          try with_reducible replace hw := New.undrawN hw
          try with_reducible replace hw := New.undraw hw
          obtain ⟨c, f'⟩ := hw.rules
          go_simp
          exact New.refl _
        · intro a w9 hw ho hk
          refine .inl ⟨by rfl, ?_⟩
          have t16 : a.tmps[16]?.getD undef = valP p iv (.slice ax p.vars.length cx) ov lv := hk 4 16 (by kernel_rfl) rfl
          go_simp
          refine (HB.out _ (HP.out.new (by repeat (first | with_reducible exact New.refl _ | with_reducible assumption | with_reducible refine New.drew ?_ | with_reducible refine New.drewN ?_ _ | with_reducible refine New.alloc ?_ _ | with_reducible refine New.setCell ?_ (by first | (simp; done) | (simp; omega) | omega) _ | with_reducible refine New.trans ?_ (by with_reducible assumption))))).mono ?_; rintro e w2 ⟨r, rfl, hb, o1⟩
          first | exact ⟨hb, _, rfl, own_rd o1⟩ | exact ⟨hb, own_rd o1⟩
        · intro a w9 hw ho hk
          refine .inl ⟨by rfl, ?_⟩
          have t12 : a.tmps[12]?.getD undef = .agg #[va, bl] := hk 0 12 (by kernel_rfl) rfl
          have t15 : a.tmps[15]?.getD undef = .int .i64 p.vars.length := hk 3 15 (by kernel_rfl) rfl
          obtain ⟨q1, t17, r1⟩ : ∃ q, (a.tmps[17]?.getD undef) = q ∧ RdT w9 q bs := hk 5 17 (by kernel_rfl) rfl
          go_simp
          refine (HC.out q1 _ r1 (HM.out.new (by repeat (first | with_reducible exact New.refl _ | with_reducible assumption | with_reducible refine New.drew ?_ | with_reducible refine New.drewN ?_ _ | with_reducible refine New.alloc ?_ _ | with_reducible refine New.setCell ?_ (by first | (simp; done) | (simp; omega) | omega) _ | with_reducible refine New.trans ?_ (by with_reducible assumption))))).mono ?_; rintro e w2 ⟨rfl, hb⟩
          first | exact ⟨hb, _, rfl, by simp⟩ | exact ⟨hb, by simp⟩
        · intro a w9 hw ho hk
          refine .inl ⟨by rfl, ?_⟩
          have t18 : a.tmps[18]?.getD undef = .bool true := hk 6 18 (by kernel_rfl) rfl
          go_simp
          exact New.refl _
        · intro a w9 hw ho hk
          refine .inl ⟨by rfl, ?_⟩
          have t19 : a.tmps[19]?.getD undef = .bool false := hk 7 19 (by kernel_rfl) rfl
          go_simp
          exact New.refl _
        · intro a w9 hw ho hk
          have t20 : a.tmps[20]?.getD undef = .bool false := hk 8 20 (by kernel_rfl) rfl
          refine .inl ⟨by simp [Region.wanted, yielded, RG.look t20], ?_⟩
          have t2 := ho 2 rfl
          dsimp at t2
          try with_reducible replace hw := New.undrawN hw
          try with_reducible replace hw := New.undraw hw
          obtain ⟨c, f'⟩ := hw.rules
          go_simp
          exact New.refl _
        · intro a w9 hw ho hk
          have t20 : a.tmps[20]?.getD undef = .bool false := hk 8 20 (by kernel_rfl) rfl
          refine .inl ⟨by simp [Region.wanted, yielded, RG.look t20], ?_⟩
          have t20 : a.tmps[20]?.getD undef = .bool false := hk 8 20 (by kernel_rfl) rfl
          go_simp
          first | exact ⟨New.refl _, by simp⟩ | exact ⟨New.refl _, _, rfl⟩ | exact ⟨New.refl _, _, rfl, trivial⟩
        · intro a w9 hw ho hk
          have t20 : a.tmps[20]?.getD undef = .bool false := hk 8 20 (by kernel_rfl) rfl
          refine .inl ⟨by simp [Region.wanted, yielded, RG.look t20], ?_⟩
          have t21 : a.tmps[21]?.getD undef = .slice none 0 0 := hk 9 21 (by kernel_rfl) rfl
          obtain ⟨q2, t22⟩ : ∃ q, (a.tmps[22]?.getD undef) = q := hk 10 22 (by kernel_rfl) rfl
          go_simp
          refine (containsNone_any _ _ _).mono ?_; rintro e w2 ⟨rfl, rfl⟩
          first | exact ⟨New.refl _, by simp⟩ | exact ⟨New.refl _, _, rfl, rfl⟩
        · intro a w9 hw ho hk
          refine .inl ⟨by rfl, ?_⟩
          have t20 : a.tmps[20]?.getD undef = .bool false := hk 8 20 (by kernel_rfl) rfl
          have t23 : a.tmps[23]?.getD undef = .bool false := hk 11 23 (by kernel_rfl) rfl
          go_simp
          exact New.refl _
        · intro a w9 hw ho hk
          refine .inl ⟨by rfl, ?_⟩
          have t24 : a.tmps[24]?.getD undef = .bool false := hk 12 24 (by kernel_rfl) rfl
          go_simp
          exact New.refl _
      intro w3 b3 x0 h0 x1 h1 x2 h2 x3 h3 x4 h4 x5 h5 x6 h6 x7 h7 x8 h8 x9 h9 x10 h10 x11 h11 x12 h12 x13 h13
      subst h0 h1 h2 h3 h4 h6 h7 h8 h9 h11 h12 h13
      try with_reducible replace b3 := New.undrawN b3
      try with_reducible replace b3 := New.undraw b3
      obtain ⟨c3, f3⟩ := b3.rules
      have z3 := b3.size
      try simp only [World.size_alloc, World.size_drew, World.heap_drewN, World.size_setCell] at z3
      have z3_0 : w.heap.size < w3.heap.size := by omega
      have z3_1 : w.heap.size + 1 < w3.heap.size := by omega
      simp only [RG.EndAll, List.nil_append, List.cons_append, List.length_cons, List.length_nil, Nat.zero_add, Nat.reduceAdd, List.take_succ_cons, List.take_zero, List.drop_succ_cons, List.drop_zero, RG.putAll, Act.put, List.setIfInBounds_toArray, List.set_cons_succ, List.set_cons_zero]
      go_wp2_with fail
      go_ret
      exact ⟨ret_int HR.out.symm, (by repeat (first | with_reducible exact New.refl _ | with_reducible assumption | with_reducible refine New.drew ?_ | with_reducible refine New.drewN ?_ _ | with_reducible refine New.alloc ?_ _ | with_reducible refine New.setCell ?_ (by first | (simp; done) | (simp; omega) | omega) _ | with_reducible refine New.trans ?_ (by with_reducible assumption)))⟩
    · have HR := Lib.hid (show scanC p m = 2 by rw [scanC, if_pos h1, h2]; rfl)
      rw [fitsB] at h2
      rw [h2] at HC
      generalize blkP p = bs at HB HC
      clear hw h1 h2
      go_enter Tryz.func67, Tryz.ntmps67
      go_wp2_with fail
      refine (HS.out _ (HP.out.new (by repeat (first | with_reducible exact New.refl _ | with_reducible assumption | with_reducible refine New.drew ?_ | with_reducible refine New.drewN ?_ _ | with_reducible refine New.alloc ?_ _ | with_reducible refine New.setCell ?_ (by first | (simp; done) | (simp; omega) | omega) _ | with_reducible refine New.trans ?_ (by with_reducible assumption)))) (HK.out.new (by repeat (first | with_reducible exact New.refl _ | with_reducible assumption | with_reducible refine New.drew ?_ | with_reducible refine New.drewN ?_ _ | with_reducible refine New.alloc ?_ _ | with_reducible refine New.setCell ?_ (by first | (simp; done) | (simp; omega) | omega) _ | with_reducible refine New.trans ?_ (by with_reducible assumption))))).mono ?_; rintro e w1 ⟨rfl, b1⟩
      try replace b1 := New.undrawN b1
      try replace b1 := New.undraw b1
      obtain ⟨c1, f1⟩ := b1.rules
      have z1 := b1.size
      try simp only [World.size_alloc, World.size_drew, World.heap_drewN, World.size_setCell] at z1
      have z1_0 : w.heap.size < w1.heap.size := by omega
      have z1_1 : w.heap.size + 1 < w1.heap.size := by omega
      go_wp2_with fail
      refine RG.wp_facts [fun X _ => X = .agg #[va, bl], fun X _ => X = .pointer (some ⟨w.heap.size, 2, none⟩), fun X _ => X = .slice ax p.vars.length cx, fun X _ => X = .int .i64 p.vars.length, fun X _ => X = valP p iv (.slice ax p.vars.length cx) ov lv, fun X W' => ∃ q, X = q ∧ RdT W' q bs, fun X _ => X = .bool false, fun X _ => X = .bool true, fun X _ => X = .bool true, fun X _ => X = undef, fun X _ => X = undef, fun X _ => X = undef, fun X _ => X = .bool true, fun X _ => X = .bool true] (by kernel_rfl) (by kernel_rfl) ⟨RG.stable_eq _, RG.stable_eq _, RG.stable_eq _, RG.stable_eq _, RG.stable_eq _, fun X w0 w1 hn ⟨q1, t17, r1⟩ => ⟨q1, t17, Rd.new r1 hn⟩, RG.stable_eq _, RG.stable_eq _, RG.stable_eq _, RG.stable_eq _, RG.stable_eq _, RG.stable_eq _, RG.stable_eq _, RG.stable_eq _, trivial⟩ ?_ ?_
      · refine ⟨?_, ?_, ?_, ?_, ?_, ?_, ?_, ?_, ?_, ?_, ?_, ?_, ?_, ?_, trivial⟩
        · intro a w9 hw ho hk
          refine .inl ⟨by rfl, ?_⟩
          have t2 := ho 4 rfl
          dsimp at t2
          try with_reducible replace hw := New.undrawN hw
          try with_reducible replace hw := New.undraw hw
          obtain ⟨c, f'⟩ := hw.rules
          go_simp
          exact New.refl _
        · intro a w9 hw ho hk
          refine .inl ⟨by rfl, ?_⟩
          have t2 := ho 3 rfl
          dsimp at t2
          try with_reducible replace hw := New.undrawN hw
          try with_reducible replace hw := New.undraw hw
          obtain ⟨c, f'⟩ := hw.rules
          go_simp
          exact New.refl _
        · intro a w9 hw ho hk
          refine .inl ⟨by rfl, ?_⟩
          have t13 : a.tmps[13]?.getD undef = .pointer (some ⟨w.heap.size, 2, none⟩) := hk 1 13 (by kernel_rfl) rfl
          try with_reducible replace hw := New.undrawN hw
          try with_reducible replace hw := New.undraw hw
          obtain ⟨c, f'⟩ := hw.rules
          go_simp
          exact New.refl _
        · intro a w9 hw ho hk
          refine .inl ⟨by rfl, ?_⟩
          have t14 : a.tmps[14]?.getD undef = .slice ax p.vars.length cx := hk 2 14 (by kernel_rfl) rfl
          go_simp
          exact New.refl _
        · intro a w9 hw ho hk
          refine .inl ⟨by rfl, ?_⟩
          have t2 := ho 3 rfl
          dsimp at t2
          try with_reducible replace hw := New.undrawN hw
          try with_reducible replace hw := New.undraw hw
          obtain ⟨c, f'⟩ := hw.rules
          go_simp
          exact New.refl _
        · intro a w9 hw ho hk
          refine .inl ⟨by rfl, ?_⟩
          have t16 : a.tmps[16]?.getD undef = valP p iv (.slice ax p.vars.length cx) ov lv := hk 4 16 (by kernel_rfl) rfl
          go_simp
          refine (HB.out _ (HP.out.new (by repeat (first | with_reducible exact New.refl _ | with_reducible assumption | with_reducible refine New.drew ?_ | with_reducible refine New.drewN ?_ _ | with_reducible refine New.alloc ?_ _ | with_reducible refine New.setCell ?_ (by first | (simp; done) | (simp; omega) | omega) _ | with_reducible refine New.trans ?_ (by with_reducible assumption))))).mono ?_; rintro e w2 ⟨r, rfl, hb, o1⟩
          first | exact ⟨hb, _, rfl, own_rd o1⟩ | exact ⟨hb, own_rd o1⟩
        · intro a w9 hw ho hk
          refine .inl ⟨by rfl, ?_⟩
          have t12 : a.tmps[12]?.getD undef = .agg #[va, bl] := hk 0 12 (by kernel_rfl) rfl
          have t15 : a.tmps[15]?.getD undef = .int .i64 p.vars.length := hk 3 15 (by kernel_rfl) rfl
          obtain ⟨q1, t17, r1⟩ : ∃ q, (a.tmps[17]?.getD undef) = q ∧ RdT w9 q bs := hk 5 17 (by kernel_rfl) rfl
          go_simp
          refine (HC.out q1 _ r1 (HM.out.new (by repeat (first | with_reducible exact New.refl _ | with_reducible assumption | with_reducible refine New.drew ?_ | with_reducible refine New.drewN ?_ _ | with_reducible refine New.alloc ?_ _ | with_reducible refine New.setCell ?_ (by first | (simp; done) | (simp; omega) | omega) _ | with_reducible refine New.trans ?_ (by with_reducible assumption))))).mono ?_; rintro e w2 ⟨rfl, hb⟩
          first | exact ⟨hb, _, rfl, by simp⟩ | exact ⟨hb, by simp⟩
        · intro a w9 hw ho hk
          refine .inl ⟨by rfl, ?_⟩
          have t18 : a.tmps[18]?.getD undef = .bool false := hk 6 18 (by kernel_rfl) rfl
          go_simp
          exact New.refl _
        · intro a w9 hw ho hk
          refine .inl ⟨by rfl, ?_⟩
          have t19 : a.tmps[19]?.getD undef = .bool true := hk 7 19 (by kernel_rfl) rfl
          go_simp
          exact New.refl _
        · intro a w9 hw ho hk
          have t20 : a.tmps[20]?.getD undef = .bool true := hk 8 20 (by kernel_rfl) rfl
          exact .inr ⟨by simp [Region.wanted, yielded, RG.look t20], rfl⟩
        · intro a w9 hw ho hk
          have t20 : a.tmps[20]?.getD undef = .bool true := hk 8 20 (by kernel_rfl) rfl
          exact .inr ⟨by simp [Region.wanted, yielded, RG.look t20], rfl⟩
        · intro a w9 hw ho hk
          have t20 : a.tmps[20]?.getD undef = .bool true := hk 8 20 (by kernel_rfl) rfl
          exact .inr ⟨by simp [Region.wanted, yielded, RG.look t20], rfl⟩
        · intro a w9 hw ho hk
          refine .inl ⟨by rfl, ?_⟩
          have t20 : a.tmps[20]?.getD undef = .bool true := hk 8 20 (by kernel_rfl) rfl
          have t23 : a.tmps[23]?.getD undef = undef := hk 11 23 (by kernel_rfl) rfl
          go_simp
          exact New.refl _
        · intro a w9 hw ho hk
          refine .inl ⟨by rfl, ?_⟩
          have t24 : a.tmps[24]?.getD undef = .bool true := hk 12 24 (by kernel_rfl) rfl
          go_simp
          exact New.refl _
      intro w3 b3 x0 h0 x1 h1 x2 h2 x3 h3 x4 h4 x5 h5 x6 h6 x7 h7 x8 h8 x9 h9 x10 h10 x11 h11 x12 h12 x13 h13
      subst h0 h1 h2 h3 h4 h6 h7 h8 h9 h10 h11 h12 h13
      try with_reducible replace b3 := New.undrawN b3
      try with_reducible replace b3 := New.undraw b3
      obtain ⟨c3, f3⟩ := b3.rules
      have z3 := b3.size
      try simp only [World.size_alloc, World.size_drew, World.heap_drewN, World.size_setCell] at z3
      have z3_0 : w.heap.size < w3.heap.size := by omega
      have z3_1 : w.heap.size + 1 < w3.heap.size := by omega
      simp only [RG.EndAll, List.nil_append, List.cons_append, List.length_cons, List.length_nil, Nat.zero_add, Nat.reduceAdd, List.take_succ_cons, List.take_zero, List.drop_succ_cons, List.drop_zero, RG.putAll, Act.put, List.setIfInBounds_toArray, List.set_cons_succ, List.set_cons_zero]
      go_wp2_with fail
      go_ret
      exact ⟨ret_int HR.out.symm, (by repeat (first | with_reducible exact New.refl _ | with_reducible assumption | with_reducible refine New.drew ?_ | with_reducible refine New.drewN ?_ _ | with_reducible refine New.alloc ?_ _ | with_reducible refine New.setCell ?_ (by first | (simp; done) | (simp; omega) | omega) _ | with_reducible refine New.trans ?_ (by with_reducible assumption)))⟩
  · have HR := Lib.hid (show scanC p m = 1 by rw [scanC, if_neg (by rw [h1]; simp)])
    rw [h1] at HS
    clear h1
    go_enter Tryz.func67, Tryz.ntmps67
    go_wp2_with fail
    refine (HS.out _ (HP.out.new (by repeat (first | with_reducible exact New.refl _ | with_reducible assumption | with_reducible refine New.drew ?_ | with_reducible refine New.drewN ?_ _ | with_reducible refine New.alloc ?_ _ | with_reducible refine New.setCell ?_ (by first | (simp; done) | (simp; omega) | omega) _ | with_reducible refine New.trans ?_ (by with_reducible assumption)))) (HK.out.new (by repeat (first | with_reducible exact New.refl _ | with_reducible assumption | with_reducible refine New.drew ?_ | with_reducible refine New.drewN ?_ _ | with_reducible refine New.alloc ?_ _ | with_reducible refine New.setCell ?_ (by first | (simp; done) | (simp; omega) | omega) _ | with_reducible refine New.trans ?_ (by with_reducible assumption))))).mono ?_; rintro e w1 ⟨rfl, b1⟩
    try replace b1 := New.undrawN b1
    try replace b1 := New.undraw b1
    obtain ⟨c1, f1⟩ := b1.rules
    have z1 := b1.size
    try simp only [World.size_alloc, World.size_drew, World.heap_drewN, World.size_setCell] at z1
    have z1_0 : w.heap.size < w1.heap.size := by omega
    have z1_1 : w.heap.size + 1 < w1.heap.size := by omega
    go_wp2_with fail
    go_ret
    exact ⟨ret_int HR.out.symm, (by repeat (first | with_reducible exact New.refl _ | with_reducible assumption | with_reducible refine New.drew ?_ | with_reducible refine New.drewN ?_ _ | with_reducible refine New.alloc ?_ _ | with_reducible refine New.setCell ?_ (by first | (simp; done) | (simp; omega) | omega) _ | with_reducible refine New.trans ?_ (by with_reducible assumption)))⟩
set_option maxHeartbeats 1000000 in
theorem iValueIn_any (p : ProgD) (m : MemD) (iv vv ov lv va bl : Value) (s : ByteArray) (w : World) (hp : RdP w p iv vv ov lv) (hf : FitP p) (hm : RdMm w m va bl) (hk : KW w) :
    Calls Tryz.prog 23 #[valP p iv vv ov lv, .agg #[va, bl], .string s] w fun e w' => e = .returned (.tuple #[.int .i64 (valR p m s).1, .int .i64 (valR p m s).2]) ∧ New w w' := by
  have HK := Lib.hid hk; clear hk
  have HP := Lib.hid hp
  have HM := Lib.hid hm
  have zz : w.heap.size < w.heap.size + 1 + 1 := by omega
  have HVV := Lib.hid hp.vars
  clear hp
  have HC := Lib.hid (fun (w0 : World) (h : RdP w0 p iv vv ov lv) (a2 : RdMm w0 m va bl) (k : KW w0) => iScanCode_any p m iv vv ov lv va bl w0 h hf a2 k)
  have HI := Lib.hid (fun (w0 : World) (h : RdS w0 vv p.vars) => indexS_any s vv p.vars w0 h)
  rw [← idxV] at HI
  by_cases h0 : scanC p m = 0
  · rw [h0] at HC
    obtain ⟨g1, g2⟩ : soundB p = true ∧ fitsB p m = true := by
      rw [scanC] at h0; split at h0
      · split at h0
        · exact ⟨by assumption, by assumption⟩
        · omega
      · omega
    have hL := fits_len g2
    obtain ⟨av, cv, rfl, hvm, HX⟩ := hm.va.open
    clear hm
    rcases idxV_cases p s with h3 | ⟨k, h3, hk⟩
    · rw [h3] at HI
      have HR : valR p m s = (0, 4) := by rw [valR, if_pos g1, if_pos g2, if_pos (by omega)]
      rw [HR]
      clear HR g1 g2 h0 h3 hL
      go_enter Tryz.func23, Tryz.ntmps23
      go_wp2_with fail
      refine (HC.out _ (HP.out.new (by repeat (first | with_reducible exact New.refl _ | with_reducible assumption | with_reducible refine New.drew ?_ | with_reducible refine New.drewN ?_ _ | with_reducible refine New.alloc ?_ _ | with_reducible refine New.setCell ?_ (by first | (simp; done) | (simp; omega) | omega) _ | with_reducible refine New.trans ?_ (by with_reducible assumption)))) (HM.out.new (by repeat (first | with_reducible exact New.refl _ | with_reducible assumption | with_reducible refine New.drew ?_ | with_reducible refine New.drewN ?_ _ | with_reducible refine New.alloc ?_ _ | with_reducible refine New.setCell ?_ (by first | (simp; done) | (simp; omega) | omega) _ | with_reducible refine New.trans ?_ (by with_reducible assumption)))) (HK.out.new (by repeat (first | with_reducible exact New.refl _ | with_reducible assumption | with_reducible refine New.drew ?_ | with_reducible refine New.drewN ?_ _ | with_reducible refine New.alloc ?_ _ | with_reducible refine New.setCell ?_ (by first | (simp; done) | (simp; omega) | omega) _ | with_reducible refine New.trans ?_ (by with_reducible assumption))))).mono ?_; rintro e w1 ⟨rfl, b1⟩
      try replace b1 := New.undrawN b1
      try replace b1 := New.undraw b1
      obtain ⟨c1, f1⟩ := b1.rules
      have z1 := b1.size
      try simp only [World.size_alloc, World.size_drew, World.heap_drewN, World.size_setCell] at z1
      have z1_0 : w.heap.size < w1.heap.size := by omega
      have z1_1 : w.heap.size + 1 < w1.heap.size := by omega
      go_wp2_with fail
      refine (HI.out _ (Rd.new HVV.out (by repeat (first | with_reducible exact New.refl _ | with_reducible assumption | with_reducible refine New.drew ?_ | with_reducible refine New.drewN ?_ _ | with_reducible refine New.alloc ?_ _ | with_reducible refine New.setCell ?_ (by first | (simp; done) | (simp; omega) | omega) _ | with_reducible refine New.trans ?_ (by with_reducible assumption))))).mono ?_; rintro e w2 ⟨rfl, rfl⟩
      go_wp2_with fail
      go_ret2
      exact ⟨rfl, (by repeat (first | with_reducible exact New.refl _ | with_reducible assumption | with_reducible refine New.drew ?_ | with_reducible refine New.drewN ?_ _ | with_reducible refine New.alloc ?_ _ | with_reducible refine New.setCell ?_ (by first | (simp; done) | (simp; omega) | omega) _ | with_reducible refine New.trans ?_ (by with_reducible assumption)))⟩
    · rw [h3] at HI
      have hkv : k < m.vals.length := by omega
      have hkm : k ≤ 9223372036854775807 := by omega
      have HR : valR p m s = (m.vals[k], 0) := by
        rw [valR, if_pos g1, if_pos g2, if_neg (by omega), h3]
        simp [List.getD_eq_getElem?_getD, hkv]
      rw [HR]
      clear HR g1 g2 h0 h3 hL
      obtain ⟨bb, off, rfl, hbl, hx⟩ := HX.out w (New.refl w) k hkv
      have hb1 : bb < w.heap.size + 1 := by omega
      have hb2 : bb < w.heap.size + 1 + 1 := by omega
      go_enter Tryz.func23, Tryz.ntmps23
      go_wp2_with fail
      refine (HC.out _ (HP.out.new (by repeat (first | with_reducible exact New.refl _ | with_reducible assumption | with_reducible refine New.drew ?_ | with_reducible refine New.drewN ?_ _ | with_reducible refine New.alloc ?_ _ | with_reducible refine New.setCell ?_ (by first | (simp; done) | (simp; omega) | omega) _ | with_reducible refine New.trans ?_ (by with_reducible assumption)))) (HM.out.new (by repeat (first | with_reducible exact New.refl _ | with_reducible assumption | with_reducible refine New.drew ?_ | with_reducible refine New.drewN ?_ _ | with_reducible refine New.alloc ?_ _ | with_reducible refine New.setCell ?_ (by first | (simp; done) | (simp; omega) | omega) _ | with_reducible refine New.trans ?_ (by with_reducible assumption)))) (HK.out.new (by repeat (first | with_reducible exact New.refl _ | with_reducible assumption | with_reducible refine New.drew ?_ | with_reducible refine New.drewN ?_ _ | with_reducible refine New.alloc ?_ _ | with_reducible refine New.setCell ?_ (by first | (simp; done) | (simp; omega) | omega) _ | with_reducible refine New.trans ?_ (by with_reducible assumption))))).mono ?_; rintro e w1 ⟨rfl, b1⟩
      try replace b1 := New.undrawN b1
      try replace b1 := New.undraw b1
      obtain ⟨c1, f1⟩ := b1.rules
      have z1 := b1.size
      try simp only [World.size_alloc, World.size_drew, World.heap_drewN, World.size_setCell] at z1
      have z1_0 : w.heap.size < w1.heap.size := by omega
      have z1_1 : w.heap.size + 1 < w1.heap.size := by omega
      have z1_2 : bb < w1.heap.size := by omega
      go_wp2_with fail
      refine (HI.out _ (Rd.new HVV.out (by repeat (first | with_reducible exact New.refl _ | with_reducible assumption | with_reducible refine New.drew ?_ | with_reducible refine New.drewN ?_ _ | with_reducible refine New.alloc ?_ _ | with_reducible refine New.setCell ?_ (by first | (simp; done) | (simp; omega) | omega) _ | with_reducible refine New.trans ?_ (by with_reducible assumption))))).mono ?_; rintro e w2 ⟨rfl, rfl⟩
      go_wp2_with fail
      go_ret2
      exact ⟨rfl, (by repeat (first | with_reducible exact New.refl _ | with_reducible assumption | with_reducible refine New.drew ?_ | with_reducible refine New.drewN ?_ _ | with_reducible refine New.alloc ?_ _ | with_reducible refine New.setCell ?_ (by first | (simp; done) | (simp; omega) | omega) _ | with_reducible refine New.trans ?_ (by with_reducible assumption)))⟩
  · have HR : valR p m s = (0, scanC p m) := by
      rw [valR, scanC] at *
      split
      · split
        · exfalso; apply h0; simp_all
        · rfl
      · rfl
    rw [HR]
    generalize scanC p m = R at HC h0 ⊢
    have hne : (R != 0) = true := by simpa using h0
    clear HR hm
    go_enter Tryz.func23, Tryz.ntmps23
    go_wp2_with fail
    refine (HC.out _ (HP.out.new (by repeat (first | with_reducible exact New.refl _ | with_reducible assumption | with_reducible refine New.drew ?_ | with_reducible refine New.drewN ?_ _ | with_reducible refine New.alloc ?_ _ | with_reducible refine New.setCell ?_ (by first | (simp; done) | (simp; omega) | omega) _ | with_reducible refine New.trans ?_ (by with_reducible assumption)))) (HM.out.new (by repeat (first | with_reducible exact New.refl _ | with_reducible assumption | with_reducible refine New.drew ?_ | with_reducible refine New.drewN ?_ _ | with_reducible refine New.alloc ?_ _ | with_reducible refine New.setCell ?_ (by first | (simp; done) | (simp; omega) | omega) _ | with_reducible refine New.trans ?_ (by with_reducible assumption)))) (HK.out.new (by repeat (first | with_reducible exact New.refl _ | with_reducible assumption | with_reducible refine New.drew ?_ | with_reducible refine New.drewN ?_ _ | with_reducible refine New.alloc ?_ _ | with_reducible refine New.setCell ?_ (by first | (simp; done) | (simp; omega) | omega) _ | with_reducible refine New.trans ?_ (by with_reducible assumption))))).mono ?_; rintro e w1 ⟨rfl, b1⟩
    try replace b1 := New.undrawN b1
    try replace b1 := New.undraw b1
    obtain ⟨c1, f1⟩ := b1.rules
    have z1 := b1.size
    try simp only [World.size_alloc, World.size_drew, World.heap_drewN, World.size_setCell] at z1
    have z1_0 : w.heap.size < w1.heap.size := by omega
    have z1_1 : w.heap.size + 1 < w1.heap.size := by omega
    go_wp2_with fail
    go_ret2
    exact ⟨rfl, (by repeat (first | with_reducible exact New.refl _ | with_reducible assumption | with_reducible refine New.drew ?_ | with_reducible refine New.drewN ?_ _ | with_reducible refine New.alloc ?_ _ | with_reducible refine New.setCell ?_ (by first | (simp; done) | (simp; omega) | omega) _ | with_reducible refine New.trans ?_ (by with_reducible assumption)))⟩
set_option maxHeartbeats 1000000 in
theorem sValueIn_any (p : ProgD) (m : MemD) (iv vv ov lv va bl : Value) (s : ByteArray) (w : World) (hp : RdP w p iv vv ov lv) (hf : FitP p) (hm : RdMm w m va bl) :
    Calls Tryz.prog 22 #[valP p iv vv ov lv, .agg #[va, bl], .string s] w fun e w' => e = .returned (.tuple #[.int .i64 (valR p m s).1, .int .i64 (valR p m s).2]) ∧ New w w' := by
  have HP := Lib.hid hp
  have HM := Lib.hid hm
  have zz : w.heap.size < w.heap.size + 1 + 1 := by omega
  have HVV := Lib.hid hp.vars
  clear hp
  have HS := Lib.hid (fun (w0 : World) (h : RdP w0 p iv vv ov lv) => sIsSound_any p iv vv ov lv w0 h hf)
  have HI := Lib.hid (fun (w0 : World) (h : RdS w0 vv p.vars) => sIndex14_any s vv p.vars w0 h)
  rw [← idxV] at HI
  rcases Bool.eq_false_or_eq_true (soundB p) with g1 | g1
  · have hw : wB p = true := by have := g1; rw [soundB, Bool.and_eq_true] at this; exact this.1
    have HB := Lib.hid (fun (w0 : World) (h : RdP w0 p iv vv ov lv) (h' : RdMm w0 m va bl) => sMem_any p (blkP p) m.vals m.blocks iv vv ov lv va bl w0 h hw rfl h'.va h'.bl (blkP_ok hw))
    rw [← fitsB] at HB
    rw [g1] at HS
    rcases Bool.eq_false_or_eq_true (fitsB p m) with g2 | g2
    · rw [g2] at HB
      have hL := fits_len g2
      obtain ⟨av, cv, rfl, hvm, HX⟩ := hm.va.open
      clear hm
      rcases idxV_cases p s with h3 | ⟨k, h3, hk⟩
      · rw [h3] at HI
        have HR : valR p m s = (0, 4) := by rw [valR, if_pos g1, if_pos g2, if_pos (by omega)]
        rw [HR]
        clear HR g1 g2 h3 hL hw
        go_enter Tryz.func22, Tryz.ntmps22
        go_wp2_with fail
        refine (HS.out _ (HP.out.new (by repeat (first | with_reducible exact New.refl _ | with_reducible assumption | with_reducible refine New.drew ?_ | with_reducible refine New.drewN ?_ _ | with_reducible refine New.alloc ?_ _ | with_reducible refine New.setCell ?_ (by first | (simp; done) | (simp; omega) | omega) _ | with_reducible refine New.trans ?_ (by with_reducible assumption))))).mono ?_; rintro e w1 ⟨rfl, b1⟩
        try replace b1 := New.undrawN b1
        try replace b1 := New.undraw b1
        obtain ⟨c1, f1⟩ := b1.rules
        have z1 := b1.size
        try simp only [World.size_alloc, World.size_drew, World.heap_drewN, World.size_setCell] at z1
        have z1_0 : w.heap.size < w1.heap.size := by omega
        have z1_1 : w.heap.size + 1 < w1.heap.size := by omega
        go_wp2_with fail
        refine (HB.out _ (HP.out.new (by repeat (first | with_reducible exact New.refl _ | with_reducible assumption | with_reducible refine New.drew ?_ | with_reducible refine New.drewN ?_ _ | with_reducible refine New.alloc ?_ _ | with_reducible refine New.setCell ?_ (by first | (simp; done) | (simp; omega) | omega) _ | with_reducible refine New.trans ?_ (by with_reducible assumption)))) (HM.out.new (by repeat (first | with_reducible exact New.refl _ | with_reducible assumption | with_reducible refine New.drew ?_ | with_reducible refine New.drewN ?_ _ | with_reducible refine New.alloc ?_ _ | with_reducible refine New.setCell ?_ (by first | (simp; done) | (simp; omega) | omega) _ | with_reducible refine New.trans ?_ (by with_reducible assumption))))).mono ?_; rintro e w2 ⟨rfl, b2⟩
        try replace b2 := New.undrawN b2
        try replace b2 := New.undraw b2
        obtain ⟨c2, f2⟩ := b2.rules
        have z2 := b2.size
        try simp only [World.size_alloc, World.size_drew, World.heap_drewN, World.size_setCell] at z2
        have z2_0 : w.heap.size < w2.heap.size := by omega
        have z2_1 : w.heap.size + 1 < w2.heap.size := by omega
        go_wp2_with fail
        refine (HI.out _ (Rd.new HVV.out (by repeat (first | with_reducible exact New.refl _ | with_reducible assumption | with_reducible refine New.drew ?_ | with_reducible refine New.drewN ?_ _ | with_reducible refine New.alloc ?_ _ | with_reducible refine New.setCell ?_ (by first | (simp; done) | (simp; omega) | omega) _ | with_reducible refine New.trans ?_ (by with_reducible assumption))))).mono ?_; rintro e w3 ⟨rfl, rfl⟩
        go_wp2_with fail
        go_ret2
        exact ⟨rfl, (by repeat (first | with_reducible exact New.refl _ | with_reducible assumption | with_reducible refine New.drew ?_ | with_reducible refine New.drewN ?_ _ | with_reducible refine New.alloc ?_ _ | with_reducible refine New.setCell ?_ (by first | (simp; done) | (simp; omega) | omega) _ | with_reducible refine New.trans ?_ (by with_reducible assumption)))⟩
      · rw [h3] at HI
        have hkv : k < m.vals.length := by omega
        have hkm : k ≤ 9223372036854775807 := by omega
        have HR : valR p m s = (m.vals[k], 0) := by
          rw [valR, if_pos g1, if_pos g2, if_neg (by omega), h3]
          simp [List.getD_eq_getElem?_getD, hkv]
        rw [HR]
        clear HR g1 g2 h3 hL hw
        obtain ⟨bb, off, rfl, hbl, hx⟩ := HX.out w (New.refl w) k hkv
        have hb1 : bb < w.heap.size + 1 := by omega
        have hb2 : bb < w.heap.size + 1 + 1 := by omega
        go_enter Tryz.func22, Tryz.ntmps22
        go_wp2_with fail
        refine (HS.out _ (HP.out.new (by repeat (first | with_reducible exact New.refl _ | with_reducible assumption | with_reducible refine New.drew ?_ | with_reducible refine New.drewN ?_ _ | with_reducible refine New.alloc ?_ _ | with_reducible refine New.setCell ?_ (by first | (simp; done) | (simp; omega) | omega) _ | with_reducible refine New.trans ?_ (by with_reducible assumption))))).mono ?_; rintro e w1 ⟨rfl, b1⟩
        try replace b1 := New.undrawN b1
        try replace b1 := New.undraw b1
        obtain ⟨c1, f1⟩ := b1.rules
        have z1 := b1.size
        try simp only [World.size_alloc, World.size_drew, World.heap_drewN, World.size_setCell] at z1
        have z1_0 : w.heap.size < w1.heap.size := by omega
        have z1_1 : w.heap.size + 1 < w1.heap.size := by omega
        have z1_2 : bb < w1.heap.size := by omega
        go_wp2_with fail
        refine (HB.out _ (HP.out.new (by repeat (first | with_reducible exact New.refl _ | with_reducible assumption | with_reducible refine New.drew ?_ | with_reducible refine New.drewN ?_ _ | with_reducible refine New.alloc ?_ _ | with_reducible refine New.setCell ?_ (by first | (simp; done) | (simp; omega) | omega) _ | with_reducible refine New.trans ?_ (by with_reducible assumption)))) (HM.out.new (by repeat (first | with_reducible exact New.refl _ | with_reducible assumption | with_reducible refine New.drew ?_ | with_reducible refine New.drewN ?_ _ | with_reducible refine New.alloc ?_ _ | with_reducible refine New.setCell ?_ (by first | (simp; done) | (simp; omega) | omega) _ | with_reducible refine New.trans ?_ (by with_reducible assumption))))).mono ?_; rintro e w2 ⟨rfl, b2⟩
        try replace b2 := New.undrawN b2
        try replace b2 := New.undraw b2
        obtain ⟨c2, f2⟩ := b2.rules
        have z2 := b2.size
        try simp only [World.size_alloc, World.size_drew, World.heap_drewN, World.size_setCell] at z2
        have z2_0 : w.heap.size < w2.heap.size := by omega
        have z2_1 : w.heap.size + 1 < w2.heap.size := by omega
        have z2_2 : bb < w2.heap.size := by omega
        go_wp2_with fail
        refine (HI.out _ (Rd.new HVV.out (by repeat (first | with_reducible exact New.refl _ | with_reducible assumption | with_reducible refine New.drew ?_ | with_reducible refine New.drewN ?_ _ | with_reducible refine New.alloc ?_ _ | with_reducible refine New.setCell ?_ (by first | (simp; done) | (simp; omega) | omega) _ | with_reducible refine New.trans ?_ (by with_reducible assumption))))).mono ?_; rintro e w3 ⟨rfl, rfl⟩
        go_wp2_with fail
        go_ret2
        exact ⟨rfl, (by repeat (first | with_reducible exact New.refl _ | with_reducible assumption | with_reducible refine New.drew ?_ | with_reducible refine New.drewN ?_ _ | with_reducible refine New.alloc ?_ _ | with_reducible refine New.setCell ?_ (by first | (simp; done) | (simp; omega) | omega) _ | with_reducible refine New.trans ?_ (by with_reducible assumption)))⟩
    · rw [g2] at HB
      have HR : valR p m s = (0, 2) := by rw [valR, if_pos g1, if_neg (by rw [g2]; simp)]
      rw [HR]
      clear HR g1 g2 hw hm
      go_enter Tryz.func22, Tryz.ntmps22
      go_wp2_with fail
      refine (HS.out _ (HP.out.new (by repeat (first | with_reducible exact New.refl _ | with_reducible assumption | with_reducible refine New.drew ?_ | with_reducible refine New.drewN ?_ _ | with_reducible refine New.alloc ?_ _ | with_reducible refine New.setCell ?_ (by first | (simp; done) | (simp; omega) | omega) _ | with_reducible refine New.trans ?_ (by with_reducible assumption))))).mono ?_; rintro e w1 ⟨rfl, b1⟩
      try replace b1 := New.undrawN b1
      try replace b1 := New.undraw b1
      obtain ⟨c1, f1⟩ := b1.rules
      have z1 := b1.size
      try simp only [World.size_alloc, World.size_drew, World.heap_drewN, World.size_setCell] at z1
      have z1_0 : w.heap.size < w1.heap.size := by omega
      have z1_1 : w.heap.size + 1 < w1.heap.size := by omega
      go_wp2_with fail
      refine (HB.out _ (HP.out.new (by repeat (first | with_reducible exact New.refl _ | with_reducible assumption | with_reducible refine New.drew ?_ | with_reducible refine New.drewN ?_ _ | with_reducible refine New.alloc ?_ _ | with_reducible refine New.setCell ?_ (by first | (simp; done) | (simp; omega) | omega) _ | with_reducible refine New.trans ?_ (by with_reducible assumption)))) (HM.out.new (by repeat (first | with_reducible exact New.refl _ | with_reducible assumption | with_reducible refine New.drew ?_ | with_reducible refine New.drewN ?_ _ | with_reducible refine New.alloc ?_ _ | with_reducible refine New.setCell ?_ (by first | (simp; done) | (simp; omega) | omega) _ | with_reducible refine New.trans ?_ (by with_reducible assumption))))).mono ?_; rintro e w2 ⟨rfl, b2⟩
      try replace b2 := New.undrawN b2
      try replace b2 := New.undraw b2
      obtain ⟨c2, f2⟩ := b2.rules
      have z2 := b2.size
      try simp only [World.size_alloc, World.size_drew, World.heap_drewN, World.size_setCell] at z2
      have z2_0 : w.heap.size < w2.heap.size := by omega
      have z2_1 : w.heap.size + 1 < w2.heap.size := by omega
      go_wp2_with fail
      go_ret2
      exact ⟨rfl, (by repeat (first | with_reducible exact New.refl _ | with_reducible assumption | with_reducible refine New.drew ?_ | with_reducible refine New.drewN ?_ _ | with_reducible refine New.alloc ?_ _ | with_reducible refine New.setCell ?_ (by first | (simp; done) | (simp; omega) | omega) _ | with_reducible refine New.trans ?_ (by with_reducible assumption)))⟩
  · rw [g1] at HS
    have HR : valR p m s = (0, 1) := by rw [valR, if_neg (by rw [g1]; simp)]
    rw [HR]
    clear HR g1 hm
    go_enter Tryz.func22, Tryz.ntmps22
    go_wp2_with fail
    refine (HS.out _ (HP.out.new (by repeat (first | with_reducible exact New.refl _ | with_reducible assumption | with_reducible refine New.drew ?_ | with_reducible refine New.drewN ?_ _ | with_reducible refine New.alloc ?_ _ | with_reducible refine New.setCell ?_ (by first | (simp; done) | (simp; omega) | omega) _ | with_reducible refine New.trans ?_ (by with_reducible assumption))))).mono ?_; rintro e w1 ⟨rfl, b1⟩
    try replace b1 := New.undrawN b1
    try replace b1 := New.undraw b1
    obtain ⟨c1, f1⟩ := b1.rules
    have z1 := b1.size
    try simp only [World.size_alloc, World.size_drew, World.heap_drewN, World.size_setCell] at z1
    have z1_0 : w.heap.size < w1.heap.size := by omega
    have z1_1 : w.heap.size + 1 < w1.heap.size := by omega
    go_wp2_with fail
    go_ret2
    exact ⟨rfl, (by repeat (first | with_reducible exact New.refl _ | with_reducible assumption | with_reducible refine New.drew ?_ | with_reducible refine New.drewN ?_ _ | with_reducible refine New.alloc ?_ _ | with_reducible refine New.setCell ?_ (by first | (simp; done) | (simp; omega) | omega) _ | with_reducible refine New.trans ?_ (by with_reducible assumption)))⟩
end Go.Proofs.YtflhdijlhdckoaaGreatDoor
