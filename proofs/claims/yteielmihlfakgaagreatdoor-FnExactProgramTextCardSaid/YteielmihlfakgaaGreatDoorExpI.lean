/- Contracts: tokens of expressions: the program. -/
import Derived.Test.YteielmihlfakgaaGreatDoorProg
import Derived.Test.YteielmihlfakgaaGreatDoorStkX
import Derived.Test.YteielmihlfakgaaGreatDoorConcatK
import Derived.Test.YteielmihlfakgaaGreatDoorPtxtP
import Derived.Test.YteielmihlfakgaaGreatDoorVD
import Derived.Test.YteielmihlfakgaaGreatDoorVB
namespace Go.Proofs.YteielmihlfakgaaGreatDoor
open Go Go.Proofs Go.RowKit
set_option linter.unusedVariables false
set_option linter.unusedSimpArgs false
set_option maxRecDepth 100000
/-- Texts in a block of their own. -/
theorem rdS_lay {w : World} (xs : List ByteArray) (T : TypeId) (hx : xs.length ≤ 1000000 := by simp) : RdS (w.alloc (.cells (xs.map Value.string).toArray T)) (.slice (some ⟨w.heap.size, 0, none⟩) xs.length xs.length) xs := by
  refine ⟨some ⟨w.heap.size, 0, none⟩, xs.length, rfl, by omega, ⟨(fun h => by cases h), Nat.le_refl _⟩, fun j u hu => ⟨w.heap.size, 0, rfl, by simp, ?_⟩⟩
  rw [Nat.zero_add, World.cell?, heap_alloc_self]
  simpa using hu
theorem rdS_layB {w : World} {b : Nat} (xs : List ByteArray) (T : TypeId) (hb : b = w.heap.size := by simp) (hx : xs.length ≤ 1000000 := by simp) : RdS (w.alloc (.cells (xs.map Value.string).toArray T)) (.slice (some ⟨b, 0, none⟩) xs.length xs.length) xs := by
  subst hb; exact rdS_lay xs T hx
set_option maxHeartbeats 1000000 in
theorem iTokensOf_any (v : Value) (T : List ByteArray) (w : World) (hv : RdS w v T) (hl : T.length ≤ 10000) :
    Calls Tryz.prog 103 #[v] w (RetX w T) := by
  obtain ⟨a, cap, rfl, hm, HC⟩ := RdS.open hv
  clear hv
  go_enter Tryz.func103, Tryz.ntmps103
  go_wp2_with fail
  go_loopw [3, 8] (fun o i wr => ∃ k : Nat, k ≤ T.length ∧ i = .int .i64 k ∧ New w wr ∧ OwnX w.heap.size wr o (T.take k)) (fun _ i _ => T.length - (intOf i).toNat)
  case atStart => exact ⟨0, Nat.zero_le _, rfl, New.refl w, OwnX.nil _ _⟩
  case round =>
    obtain ⟨k, hk, rfl, hN, hown⟩ := hrel
    by_cases hlt : k < T.length
    · obtain ⟨b, off, rfl, hbl, hx⟩ := HC.out wr hN k hlt
      have HT := Lib.hid (List.take_succ_eq_append_getElem hlt)
      have hz := hN.size
      have hbw : b < wr.heap.size := by omega
      have hlen : (T.take k).length ≤ 10000 := by rw [List.length_take]; omega
      generalize T[k] = t at hx HT
      go_wp2_with (at_builtin; refine wpList_append_X rfl _ _ rfl w.heap.size _ _ rfl (hown.new ((New.refl _).alloc _)) _ [t] rfl rdX_one (by simp only [List.length_cons, List.length_nil]; omega) (by rw [World.size_alloc]; omega) ?_; intro va wa howna hga)
      go_roundw
      case rel => exact ⟨k + 1, by omega, by go_num, hga _ (hN.alloc _) (Nat.le_refl _), by rw [HT.out]; exact howna⟩
      case measure => simp [intOf]; omega
    · obtain rfl : k = T.length := by omega
      rw [List.take_length] at hown
      go_wp2_with fail
      go_ret
      exact ⟨_, rfl, hN, hown⟩
theorem clV_f (T : List ByteArray) : clV false T = T := rfl
theorem clV_t (T : List ByteArray) : clV true T = cOp :: (T ++ [cCl]) := rfl
set_option maxHeartbeats 1000000 in
theorem iClosed_any (tv : Value) (T : List ByteArray) (k : Int) (kv : Value) (ks : List Int) (w : World) (ht : RdX w tv T) (hk : RdI w kv ks) (hl : T.length ≤ 10000) :
    Calls Tryz.prog 165 #[.agg #[tv, .int .i64 k], kv] w fun e w' => ∃ a c, e = .returned (.slice a (clV (ks.any fun y => k == y) T).length c) ∧ New w w' ∧ RdX w' (.slice a (clV (ks.any fun y => k == y) T).length c) (clV (ks.any fun y => k == y) T) := by
  have HC := Lib.hid (fun (w0 : World) (h : New w w0) => containsI_any k kv ks w0 (RdI.new hk h))
  obtain ⟨ta, tc, rfl⟩ := ht.slice
  have HT := Lib.hid ht
  clear ht hk
  generalize (ks.any fun y => k == y) = b at HC ⊢
  cases b with
  | false =>
    rw [clV_f]
    go_enter Tryz.func165, Tryz.ntmps165
    go_wp2_with (first | (go_at_call 183; refine (HC.out _ (by repeat (first | with_reducible exact New.refl _ | with_reducible assumption | with_reducible refine New.drew ?_ | with_reducible refine New.drewN ?_ _ | with_reducible refine New.alloc ?_ _ | with_reducible refine New.setCell ?_ (by first | (simp; done) | (simp; omega) | omega) _ | with_reducible refine New.trans ?_ (by with_reducible assumption)))).mono ?_; rintro e _ ⟨rfl, rfl⟩))
    go_ret
    exact ⟨_, _, rfl, (by repeat (first | with_reducible exact New.refl _ | with_reducible assumption | with_reducible refine New.drew ?_ | with_reducible refine New.drewN ?_ _ | with_reducible refine New.alloc ?_ _ | with_reducible refine New.setCell ?_ (by first | (simp; done) | (simp; omega) | omega) _ | with_reducible refine New.trans ?_ (by with_reducible assumption))), HT.out.new (by repeat (first | with_reducible exact New.refl _ | with_reducible assumption | with_reducible refine New.drew ?_ | with_reducible refine New.drewN ?_ _ | with_reducible refine New.alloc ?_ _ | with_reducible refine New.setCell ?_ (by first | (simp; done) | (simp; omega) | omega) _ | with_reducible refine New.trans ?_ (by with_reducible assumption)))⟩
  | true =>
    rw [clV_t]
    obtain ⟨TT, hTT⟩ : ∃ TT, TT = cOp :: (T ++ [cCl]) := ⟨_, rfl⟩
    have HTT := Lib.hid (show [[cOp], T, [cCl]].flatten = TT by rw [hTT]; simp)
    rw [← hTT]
    clear hTT
    go_enter Tryz.func165, Tryz.ntmps165
    go_wp2_with (first | (go_at_call 183; refine (HC.out _ (by repeat (first | with_reducible exact New.refl _ | with_reducible assumption | with_reducible refine New.drew ?_ | with_reducible refine New.drewN ?_ _ | with_reducible refine New.alloc ?_ _ | with_reducible refine New.setCell ?_ (by first | (simp; done) | (simp; omega) | omega) _ | with_reducible refine New.trans ?_ (by with_reducible assumption)))).mono ?_; rintro e _ ⟨rfl, rfl⟩))
    refine RG.wp_facts [fun X W' => RdS W' X [cOp], fun X W' => ∃ q c, X = .slice q 1 c ∧ RdX W' (.slice q 1 c) [cOp], fun X _ => X = .pointer (some ⟨w.heap.size, 0, none⟩), fun X _ => X = .slice ta T.length tc, fun X W' => RdS W' X [cCl], fun X W' => ∃ q c, X = .slice q 1 c ∧ RdX W' (.slice q 1 c) [cCl], fun X W' => RdXs W' X [[cOp], T, [cCl]], fun X W' => ∃ q c, X = .slice q TT.length c ∧ RdX W' (.slice q TT.length c) TT] (by kernel_rfl) (by kernel_rfl) ⟨fun X w0 w1 hn k12 => Rd.new k12 hn, fun X w0 w1 hn ⟨a13, c13, t13, k13⟩ => ⟨a13, c13, t13, k13.new hn⟩, RG.stable_eq _, RG.stable_eq _, fun X w0 w1 hn k16 => Rd.new k16 hn, fun X w0 w1 hn ⟨a17, c17, t17, k17⟩ => ⟨a17, c17, t17, k17.new hn⟩, fun X w0 w1 hn k18 => k18.new hn, fun X w0 w1 hn ⟨a19, c19, t19, k19⟩ => ⟨a19, c19, t19, k19.new hn⟩, trivial⟩ ?_ ?_
    · refine ⟨?_, ?_, ?_, ?_, ?_, ?_, ?_, ?_, trivial⟩
      · intro a w9 hw ho hk
        refine .inl ⟨by rfl, ?_⟩
        go_simp; first | exact ⟨(New.refl _).alloc _, _, rfl, rdS_lay [cOp] _⟩ | exact ⟨(New.refl _).alloc _, rdS_lay [cOp] _⟩
      · intro a w9 hw ho hk
        refine .inl ⟨by rfl, ?_⟩
        obtain k12 : RdS w9 (a.tmps[12]?.getD undef) [cOp] := hk 0 12 (by kernel_rfl) rfl
        go_simp
        refine (iTokensOf_any _ [cOp] _ k12 (by simp)).mono ?_; rintro e w2 ⟨r, rfl, hb, o13⟩
        obtain ⟨a13, c13, rfl⟩ := o13.slice; exact ⟨hb, _, rfl, _, _, rfl, o13.rd⟩
      · intro a w9 hw ho hk
        refine .inl ⟨by rfl, ?_⟩
        have t2 := ho 2 rfl
        dsimp at t2
        try with_reducible replace hw := New.undrawN hw
        try with_reducible replace hw := New.undraw hw
        obtain ⟨c, f'⟩ := hw.rules
        go_simp
        exact New.refl _
      · intro a w9 hw ho hk
        refine .inl ⟨by rfl, ?_⟩
        have t14 : a.tmps[14]?.getD undef = .pointer (some ⟨w.heap.size, 0, none⟩) := hk 2 14 (by kernel_rfl) rfl
        try with_reducible replace hw := New.undrawN hw
        try with_reducible replace hw := New.undraw hw
        obtain ⟨c, f'⟩ := hw.rules
        go_simp
        exact New.refl _
      · intro a w9 hw ho hk
        refine .inl ⟨by rfl, ?_⟩
        go_simp; first | exact ⟨(New.refl _).alloc _, _, rfl, rdS_lay [cCl] _⟩ | exact ⟨(New.refl _).alloc _, rdS_lay [cCl] _⟩
      · intro a w9 hw ho hk
        refine .inl ⟨by rfl, ?_⟩
        obtain k16 : RdS w9 (a.tmps[16]?.getD undef) [cCl] := hk 4 16 (by kernel_rfl) rfl
        go_simp
        refine (iTokensOf_any _ [cCl] _ k16 (by simp)).mono ?_; rintro e w2 ⟨r, rfl, hb, o17⟩
        obtain ⟨a17, c17, rfl⟩ := o17.slice; exact ⟨hb, _, rfl, _, _, rfl, o17.rd⟩
      · intro a w9 hw ho hk
        refine .inl ⟨by rfl, ?_⟩
        obtain ⟨a13, c13, t13, k13⟩ : ∃ q c, (a.tmps[13]?.getD undef) = .slice q 1 c ∧ RdX w9 (.slice q 1 c) [cOp] := hk 1 13 (by kernel_rfl) rfl
        have t15 : a.tmps[15]?.getD undef = .slice ta T.length tc := hk 3 15 (by kernel_rfl) rfl
        obtain ⟨a17, c17, t17, k17⟩ : ∃ q c, (a.tmps[17]?.getD undef) = .slice q 1 c ∧ RdX w9 (.slice q 1 c) [cCl] := hk 5 17 (by kernel_rfl) rfl
        go_simp; first | exact ⟨(New.refl _).alloc _, _, rfl, rdXs_lay3 k13 (HT.out.new (New.trans (show New w _ by exact (by repeat (first | with_reducible exact New.refl _ | with_reducible assumption | with_reducible refine New.drew ?_ | with_reducible refine New.drewN ?_ _ | with_reducible refine New.alloc ?_ _ | with_reducible refine New.setCell ?_ (by first | (simp; done) | (simp; omega) | omega) _ | with_reducible refine New.trans ?_ (by with_reducible assumption)))) hw)) k17⟩ | exact ⟨(New.refl _).alloc _, rdXs_lay3 k13 (HT.out.new (New.trans (show New w _ by exact (by repeat (first | with_reducible exact New.refl _ | with_reducible assumption | with_reducible refine New.drew ?_ | with_reducible refine New.drewN ?_ _ | with_reducible refine New.alloc ?_ _ | with_reducible refine New.setCell ?_ (by first | (simp; done) | (simp; omega) | omega) _ | with_reducible refine New.trans ?_ (by with_reducible assumption)))) hw)) k17⟩
      · intro a w9 hw ho hk
        refine .inl ⟨by rfl, ?_⟩
        obtain k18 : RdXs w9 (a.tmps[18]?.getD undef) [[cOp], T, [cCl]] := hk 6 18 (by kernel_rfl) rfl
        go_simp
        refine (concatX_any _ [[cOp], T, [cCl]] _ k18 (by intro x hx; simp only [List.mem_cons, List.not_mem_nil, or_false] at hx; rcases hx with rfl | rfl | rfl <;> first | (simp; done) | omega) (by simp)).mono ?_; rintro e w2 ⟨r, rfl, hb, o⟩
        obtain ⟨q, c, h9⟩ := o.slice; subst h9; rw [HTT.out] at o ⊢; first | exact ⟨hb, _, rfl, _, _, rfl, o.rd⟩ | exact ⟨hb, _, _, by simp, o.rd⟩
    intro w3 b3 x12 k12 x13 ⟨a13, c13, t13, k13⟩ x14 h14 x15 h15 x16 k16 x17 ⟨a17, c17, t17, k17⟩ x18 k18 x19 ⟨a19, c19, t19, k19⟩
    subst t13 h14 h15 t17 t19
    try with_reducible replace b3 := New.undrawN b3
    try with_reducible replace b3 := New.undraw b3
    obtain ⟨c3, f3⟩ := b3.rules
    have z3 := b3.size
    try simp only [World.size_alloc, World.size_drew, World.heap_drewN, World.size_setCell] at z3
    simp only [RG.EndAll, List.nil_append, List.cons_append, List.length_cons, List.length_nil, Nat.zero_add, Nat.reduceAdd, List.take_succ_cons, List.take_zero, List.drop_succ_cons, List.drop_zero, RG.putAll, Act.put, List.setIfInBounds_toArray, List.set_cons_succ, List.set_cons_zero]
    go_wp2_with fail
    go_ret
    exact ⟨_, _, rfl, (show New w _ by exact (by repeat (first | with_reducible exact New.refl _ | with_reducible assumption | with_reducible refine New.drew ?_ | with_reducible refine New.drewN ?_ _ | with_reducible refine New.alloc ?_ _ | with_reducible refine New.setCell ?_ (by first | (simp; done) | (simp; omega) | omega) _ | with_reducible refine New.trans ?_ (by with_reducible assumption)))), k19⟩
end Go.Proofs.YteielmihlfakgaaGreatDoor
