/- MarkT, Grew, TermM, CodeM, CodeH: several texts in one. -/
import Derived.Laws.BytesArg
import Derived.Test.YtekpbmoagabmeaaGreatDoorProg
import Derived.Test.YtekpbmoagabmeaaGreatDoorBase
import Derived.Test.YtekpbmoagabmeaaGreatDoorCells
import Derived.Test.YtekpbmoagabmeaaGreatDoorTermS
import Derived.Test.YtekpbmoagabmeaaGreatDoorMrgC
namespace Go.Proofs.YtekpbmoagabmeaaGreatDoor
open Go Go.Proofs Go.RowKit
set_option linter.unusedVariables false
set_option linter.unusedSimpArgs false
set_option maxRecDepth 100000
def digB (j : Nat) : ByteArray := strOfNums [48 + (j : Int) % 10]
theorem digB_size (j : Nat) : (digB j).size = 1 := by rw [digB, strOfNums_size]; rfl
def markGo (j : Nat) (acc : ByteArray) : ByteArray := if h : j = 0 then acc else markGo (j / 10) (digB j ++ acc)
termination_by j
decreasing_by omega
theorem markGo_zero (acc : ByteArray) : markGo 0 acc = acc := by rw [markGo]; simp
theorem markGo_pos {j : Nat} (h : ¬ j = 0) (acc : ByteArray) : markGo j acc = markGo (j / 10) (digB j ++ acc) := by rw [markGo]; simp [h]
def markS (k : Nat) : ByteArray := if k = 0 then ⟨#[109, 48]⟩ else ⟨#[109]⟩ ++ markGo k ⟨#[]⟩
theorem pow_bd {j s k : Nat} (hj : 1 ≤ j) (h : j * 10 ^ s ≤ k) (hk : k ≤ 1000000000000) : s ≤ 12 := by
  rcases Nat.lt_or_ge 12 s with hs | hs
  · have h1 : 10 ^ 13 ≤ 10 ^ s := Nat.pow_le_pow_right (by omega) hs
    have h2 : 10 ^ s ≤ j * 10 ^ s := Nat.le_mul_of_pos_left _ hj
    have h3 : (10 : Nat) ^ 13 = 10000000000000 := by decide
    omega
  · exact hs
theorem pow_next {j s k : Nat} (h : j * 10 ^ s ≤ k) : j / 10 * 10 ^ (s + 1) ≤ k := by
  have h1 : j / 10 * 10 ≤ j := Nat.div_mul_le_self j 10
  have h2 : j / 10 * 10 ^ (s + 1) = (j / 10 * 10) * 10 ^ s := by rw [Nat.pow_succ, Nat.mul_assoc, Nat.mul_comm (10 ^ s) 10]
  rw [h2]
  exact Nat.le_trans (Nat.mul_le_mul_right _ h1) h
set_option maxHeartbeats 1000000 in
theorem markText_any (k : Nat) (w : World) (hk : k ≤ 1000000000000) :
    Calls Tryz.prog 87 #[.int .i64 k] w fun e w' => e = .returned (.string (markS k)) ∧ New w w' := by
  by_cases h0 : k = 0
  · subst h0
    go_enter Tryz.func87, Tryz.ntmps87
    go_wp2_with fail
    go_ret
    exact ⟨by rw [markS]; rfl, New.refl _⟩
  · have h1 : ¬ (k : Int) ≤ 0 := by omega
    go_enter Tryz.func87, Tryz.ntmps87
    go_wp2_with fail
    go_loopw [0, 3] (fun i s wr => ∃ (j : Nat) (t : ByteArray), i = .int .i64 j ∧ s = .string t ∧ j * 10 ^ t.size ≤ k ∧ j ≤ k ∧ t.size ≤ 13 ∧ Hid (markGo k ⟨#[]⟩ = markGo j t) ∧ New w wr) (fun i _ _ => (intOf i).toNat)
    case atStart => exact ⟨k, ⟨#[]⟩, rfl, rfl, by rw [show (ByteArray.size ⟨#[]⟩) = 0 from rfl]; omega, Nat.le_refl _, by decide, rfl, New.refl _⟩
    case round =>
      obtain ⟨j, t, rfl, rfl, hj, hjk, ht, hg, hb⟩ := hrel
      by_cases hz : j = 0
      · subst hz
        have HA := Lib.hid (hg.out.trans (markGo_zero t))
        go_wp2_with fail
        go_ret
        exact ⟨by rw [markS, if_neg h0, HA.out]; rfl, hb⟩
      · have hz' : 0 < (j : Int) := by omega
        have hs12 := pow_bd (by omega) hj hk
        have HN := Lib.hid (pow_next hj)
        have HA := Lib.hid (hg.out.trans (markGo_pos hz t))
        have hds := digB_size j
        have hsz : (digB j ++ t).size = t.size + 1 := by rw [ByteArray.size_append, hds]; omega
        clear hj
        have kc := run_convert_bytes_arg (P := Tryz.prog) (wr.alloc (.cells #[.int .u8 (48 + (j : Int) % 10)] 5)) 31 5 Tryz.underlying31 Tryz.underlying5 wr.heap.size 0 1 1 [48 + (j : Int) % 10] rfl (by intro i hi; obtain rfl : i = 0 := (by omega); exact alloc_one rfl) 9 Tryz.underlying9
        have kd : strOfNums [48 + (j : Int) % 10] = digB j := rfl
        rw [kd] at kc
        clear kd
        go_wp2_with fail
        go_roundw
        case rel => exact ⟨j / 10, digB j ++ t, by go_num, rfl, by rw [hsz]; exact HN.out, by omega, by omega, HA, (by repeat (first | with_reducible exact New.refl _ | with_reducible assumption | with_reducible refine New.drew ?_ | with_reducible refine New.drewN ?_ _ | with_reducible refine New.alloc ?_ _ | with_reducible refine New.setCell ?_ (by first | (simp; done) | (simp; omega) | omega) _ | with_reducible refine New.trans ?_ (by with_reducible assumption)))⟩
        case measure => simp [intOf]; omega
end Go.Proofs.YtekpbmoagabmeaaGreatDoor

namespace Go.Proofs.YtekpbmoagabmeaaGreatDoor
open Go Go.Proofs Go.RowKit
set_option linter.unusedVariables false
set_option linter.unusedSimpArgs false
def OnlyG (v : Value) (w w' : World) : Prop := w.grownBy w' v.ownBlock
theorem OnlyG.refl (v : Value) (w : World) : OnlyG v w w := ⟨rfl, rfl, rfl, Nat.le_refl _, fun _ _ _ => rfl⟩
theorem OnlyG.set {v : Value} {w w' : World} (h : OnlyG v w w') {g o : Nat} (hg : v.ownBlock = some g) (u : Value) : OnlyG v w (w'.setCell ⟨g, o, none⟩ u) := by
  refine ⟨h.os, h.tape, h.output, by simp only [World.size_setCell]; exact h.size, fun q hq hne => ?_⟩
  rw [hg] at hne
  exact (heap_setCell_other w' ⟨g, o, none⟩ q u (fun e => hne (by simp [e]))).trans (h.block q hq (by rw [hg]; exact hne))
theorem OnlyG.more {v : Value} {w w' w'' : World} (h : OnlyG v w w') (n : New w' w'') : OnlyG v w w'' := by
  obtain ⟨n1, n2, n3, n4, n5⟩ := n
  refine ⟨n1.trans h.os, n2.trans h.tape, n3.trans h.output, Nat.le_trans h.size n4, fun q hq hne => ?_⟩
  exact (n5 q (Nat.lt_of_lt_of_le hq h.size)).trans (h.block q hq hne)
theorem OnlyG.new {v : Value} {w0 w w' : World} (h : OnlyG v w w') (hn : New w0 w) (hv : ∀ k, v.ownBlock = some k → w0.heap.size ≤ k) : New w0 w' := hn.grown h hv
theorem OnlyG.of_only {v : Value} {w w' : World} (h : Only v w w') : OnlyG v w w' := h.2
theorem onlyG_own {v u : Value} {w w' : World} {base : Nat} {e : TypeId} {sz n : Nat} {cs : List Value} (h : OnlyG v w w') (hu : w.ownsRow base e sz u n cs) (hne : ∀ k, v.ownBlock = some k → k < base) : w'.ownsRow base e sz u n cs := by
  refine hu.kept h ?_
  cases hb : u.ownBlock with
  | none => exact .inl rfl
  | some k => exact .inr (fun e => by have h1 := hu.lt k hb; have h2 := hne k e.symm; omega)
theorem Turned.of_onlyG {B E : Nat} {v : Value} {w w' : World} (h : OnlyG v w w') (hB : B ≤ w.heap.size) (hv : ∀ k, v.ownBlock = some k → B ≤ k ∧ k < E) : Turned B E w w' :=
  ⟨Below.grown (Below.refl B w) h hB (fun k hk => (hv k hk).1), fun q hq hl => h.block q hl (fun e => by have := hv q e.symm; omega)⟩
def MarkedG {α : Type} (enc : α → List Value) (sz : Nat) (f : Nat → α) (v : Value) (base n : Nat) (k' : Nat) (e : TypeId) (w : World) (en : Ending) (w' : World) : Prop :=
  en = .returned (.int .i64 (k' : Int)) ∧ OnlyG v w w' ∧ w'.ownsRow base e sz v n ((marksE f n).flatMap enc)
theorem markText_at (x : Int) (k : Nat) (w : World) (hx : x = (k : Int)) (hk : k ≤ 1000000000000) :
    Calls Tryz.prog 87 #[.int .i64 x] w fun e w' => e = .returned (.string (markS k)) ∧ New w w' := by
  subst hx; exact markText_any k w hk
theorem Turned.abv {B E : Nat} {w w' : World} (h : Turned B E w w') {b o : Nat} (hb : E ≤ b) (hl : b < w.heap.size) : w'.cell? ⟨b, o, none⟩ = w.cell? ⟨b, o, none⟩ := World.cell?_of_block (h.2 b hb hl)
end Go.Proofs.YtekpbmoagabmeaaGreatDoor

namespace Go.Proofs.YtekpbmoagabmeaaGreatDoor
open Go Go.Proofs Go.RowKit
set_option linter.unusedVariables false
set_option linter.unusedSimpArgs false
set_option maxRecDepth 100000
def mkTerm (k : Nat) (j : Nat) : ETerm := ⟨((k + j * 3 : Nat) : Int), markS (k + j * 3 + 1), ((k + j * 3 + 2 : Nat) : Int)⟩
set_option maxHeartbeats 1600000 in
theorem markTermS_any (v : Value) (xs : List ETerm) (base k : Nat) (w : World) (hv : w.ownsRow base 67 3 v xs.length (xs.flatMap encTerm)) (hn : xs.length ≤ 1048576) (hk : k ≤ 1048576000) :
    Calls Tryz.prog 39 #[v, .int .i64 k] w (MarkedG encTerm 3 (mkTerm k) v base xs.length (k + xs.length * 3) 67 w) := by
  by_cases h0 : xs.length = 0
  · have hx : xs = [] := List.eq_nil_of_length_eq_zero h0
    subst hx
    obtain ⟨a, cap, hve⟩ := own_slice hv
    subst hve
    go_enter Tryz.func39, Tryz.ntmps39
    go_wp2_with fail
    refine wp_loop_rounds 1 ?_
    rw [rounds_succ]
    go_wp2_with fail
    go_ret
    exact ⟨rfl, OnlyG.refl _ _, hv⟩
  · obtain ⟨g, cap, rfl⟩ : ∃ g cap, v = .slice (some ⟨g, 0, none⟩) xs.length cap := by
      rcases hv.2 with ⟨_, h⟩ | ⟨g, cap, cur, h, _⟩
      · exact absurd h h0
      · exact ⟨g, cap, h⟩
    clear h0
    go_enter Tryz.func39, Tryz.ntmps39
    go_wp2_with fail
    go_loopw [1, 5] (fun kk i wr => ∃ j : Nat, j ≤ xs.length ∧ i = .int .i64 j ∧ kk = .int .i64 ((k + j * 3 : Nat) : Int) ∧ OnlyG (.slice (some ⟨g, 0, none⟩) xs.length cap) w wr ∧ wr.ownsRow base 67 3 (.slice (some ⟨g, 0, none⟩) xs.length cap) xs.length ((marksE (mkTerm k) j ++ xs.drop j).flatMap encTerm)) (fun _ i _ => xs.length - (intOf i).toNat)
    case atStart => exact ⟨0, Nat.zero_le _, rfl, by simp, OnlyG.refl _ _, by simpa [marksE] using hv⟩
    case round =>
      obtain ⟨j, hj, rfl, rfl, ho, hown⟩ := hrel
      clear hv
      by_cases hlt : j < xs.length
      · have hln := marksE_len (mkTerm k) xs j hj
        have hdn : ∀ i u, i < 3 → (encTerm xs[j])[i]? = some u → wr.cell? ⟨g, j * 3 + i, none⟩ = some u := fun i u hi hu => by
          rw [hown.cellAt (j * 3 + i) (by omega), flat_at encTerm 3 encTerm_len _ j (by rw [hln]; exact hlt) i hi, marksE_at _ _ _ hlt, hu]
        have d0 := hdn 0 _ (by omega) rfl
        have d1 := hdn 1 _ (by omega) rfl
        have d2 := hdn 2 _ (by omega) rfl
        rw [Nat.add_zero] at d0
        clear hdn
        have f0 := hown.frozenAt (j * 3)
        have f1 := hown.frozenAt (j * 3 + 1)
        have f2 := hown.frozenAt (j * 3 + 2)
        clear hln
        have hgw : g < wr.heap.size := (own_block_lt hown g rfl).2
        go_wp2_with fail
        refine (markText_at _ (k + j * 3 + 1) _ (by omega) (by omega)).mono ?_; rintro e w11 ⟨rfl, b11⟩
        try with_reducible replace b11 := New.undrawN b11
        try with_reducible replace b11 := New.undraw b11
        obtain ⟨c11, f11⟩ := b11.rules
        have z11 := b11.size
        try simp only [World.size_alloc, World.size_drew, World.heap_drewN, World.size_setCell] at z11
        have z11_0 : g < w11.heap.size := by omega
        go_wp2_with fail
        go_roundw
        case rel =>
          have h1 := (((own_new (hown.stored (j * 3) (.int .i64 (((k + j * 3 : Nat) : Int)))).1 b11).stored (j * 3 + 1) (.string (markS (k + j * 3 + 1)))).1.stored (j * 3 + 2) (.int .i64 (((k + j * 3 + 2 : Nat) : Int)))).1
          have h2 := set_flat2 encTerm 3 encTerm_len (marksE (mkTerm k) j ++ xs.drop j) j (by rw [marksE_len _ _ _ hj]; exact hlt) (mkTerm k j)
          rw [marksE_set _ _ _ hlt] at h2
          simp only [setFrom, encTerm, mkTerm] at h2
          rw [h2] at h1
          refine ⟨j + 1, by omega, by go_num, by go_num, ?_⟩
          try simp only [Int.natCast_add, Int.natCast_mul, Int.natCast_one, Int.cast_ofNat_Int, Int.add_assoc, Int.reduceAdd, Nat.cast_ofNat] at h1 ⊢
          exact ⟨((((ho.set rfl _).more b11).set rfl _).set rfl _), h1⟩
        case measure => simp [intOf]; omega
      · obtain rfl : j = xs.length := by omega
        go_wp2_with fail
        go_ret
        exact ⟨rfl, ho, by simpa using hown⟩
set_option maxHeartbeats 1600000 in
theorem heldTermS_any (v : Value) (k n : Nat) (w : World) (hv : Rd w v n ((marksE (mkTerm k) n).flatMap encTerm)) (hn : n ≤ 1048576) (hk : k ≤ 1048576000) :
    Calls Tryz.prog 41 #[v, .int .i64 k] w fun e w' => e = .returned (.int .i64 ((k + n * 3 : Nat) : Int)) ∧ New w w' := by
  have hl := marksE_length (mkTerm k) n
  obtain ⟨a, cap, rfl, hm, HC⟩ := Rd.flat (xs := marksE (mkTerm k) n) encTerm_len (by omega) (by rw [hl]; exact hv)
  rw [hl] at hm ⊢
  clear hv
  go_enter Tryz.func41, Tryz.ntmps41
  go_wp2_with fail
  go_loopw [1, 5] (fun kk i wr => ∃ j : Nat, j ≤ n ∧ i = .int .i64 j ∧ kk = .int .i64 ((k + j * 3 : Nat) : Int) ∧ New w wr) (fun _ i _ => n - (intOf i).toNat)
  case atStart => exact ⟨0, Nat.zero_le _, rfl, by simp, New.refl _⟩
  case round =>
    obtain ⟨j, hj, rfl, rfl, hb⟩ := hrel
    obtain ⟨cc, f'⟩ := hb.rules
    have hbz := hb.size
    by_cases hlt : j < n
    · obtain ⟨b, off, rfl, hbl, hx⟩ := HC.out j (by rw [hl]; exact hlt)
      rw [marksE_get _ n j hlt] at hx
      have x0 := hx 0 _ (by omega) rfl
      have x1 := hx 1 _ (by omega) rfl
      have x2 := hx 2 _ (by omega) rfl
      rw [Nat.add_zero] at x0
      simp only [mkTerm] at x0
      simp only [mkTerm] at x1
      simp only [mkTerm] at x2
      replace hx := Lib.hid hx
      have hbw : b < wr.heap.size := by omega
      clear hl
      go_wp2_with fail
      have hq11 := fun (nn : NewOf wr) b o => NewOf.cell nn b o
      refine wp_region_new (by kernel_rfl) (by kernel_rfl) ?_
      repeat (first | go_big_quiet_skip | go_big_quiet_step ((first | exact newq (markText_at _ (k + j * 3 + 1) _ (by omega) (by omega)))) | quiet_step ((first | exact newq (markText_at _ (k + j * 3 + 1) _ (by omega) (by omega)))))
      refine wpQuiet_nil ?_
      rintro ⟨w11, b11⟩
      dsimp only
      try with_reducible replace b11 := New.undrawN b11
      try with_reducible replace b11 := New.undraw b11
      obtain ⟨c11, f11⟩ := b11.rules
      have z11 := b11.size
      try simp only [World.size_alloc, World.size_drew, World.heap_drewN, World.size_setCell] at z11
      have z11_0 : b < w11.heap.size := by omega
      go_wp2_with fail
      go_roundw
      case rel => exact ⟨j + 1, by omega, by go_num, by go_num, (by repeat (first | with_reducible exact New.refl _ | with_reducible assumption | with_reducible refine New.drew ?_ | with_reducible refine New.drewN ?_ _ | with_reducible refine New.alloc ?_ _ | with_reducible refine New.setCell ?_ (by first | (simp; done) | (simp; omega) | omega) _ | with_reducible refine New.trans ?_ (by with_reducible assumption)))⟩
      case measure => simp [intOf]; omega
    · obtain rfl : j = n := by omega
      go_wp2_with fail
      go_ret
      exact ⟨rfl, hb⟩
end Go.Proofs.YtekpbmoagabmeaaGreatDoor

namespace Go.Proofs.YtekpbmoagabmeaaGreatDoor
open Go Go.Proofs Go.RowKit
set_option linter.unusedVariables false
set_option linter.unusedSimpArgs false
set_option maxRecDepth 100000
theorem markCode_any (c : CodeD) (bv sv : Value) (B B2 E k : Nat) (w : World) (hb : w.ownsRow B 67 3 bv c.blocks.length (c.blocks.flatMap encTerm)) (hs : w.ownsRow B2 71 2 sv c.steps.length (c.steps.flatMap encInstruction)) (hBB : B ≤ B2)
    (hk : k ≤ 100000000) (h1 : c.blocks.length ≤ 1048576) (h2 : c.steps.length ≤ 1048576) (hbE : ∀ k, bv.ownBlock = some k → k < E ∧ k < B2) (hsE : ∀ k, sv.ownBlock = some k → k < E) (hB : B ≤ w.heap.size) (hE : E ≤ w.heap.size) :
    Calls Tryz.prog 9 #[valC c bv sv, .int .i64 k] w fun e w' => e = .returned (.int .i64 ((k + c.blocks.length * 3 + c.steps.length * 2 : Nat) : Int)) ∧ Turned B E w w' := by
  have hbb := own_block_lt hb
  have hsb := own_block_lt hs
  go_enter Tryz.func9, Tryz.ntmps9
  go_wp2_with fail
  refine (markTermS_any _ c.blocks B k _ (hb.alloc _) h1 (by omega)).mono ?_
  rintro e w1 ⟨rfl, on1, own1⟩
  have t1 : Turned B E _ w1 := Turned.of_onlyG on1 (by simp; omega) (fun k hk => ⟨(hbb k hk).1, (hbE k hk).1⟩)
  have s1 := onlyG_own on1 (hs.alloc (.cells #[.int .i64 c.ins, .int .i64 c.vars, .int .i64 c.outs, bv, sv] 25)) (fun k hk => (hbE k hk).2)
  have d1 := t1.abv (b := w.heap.size) (o := 4) hE (by simp)
  simp at d1
  go_wp2_with fail
  refine (markInstructionS_any _ c.steps B2 (k + c.blocks.length * 3) _ s1 h2 (by omega)).mono ?_
  rintro e w2 ⟨rfl, on2, own2⟩
  have t2 : Turned B E _ w2 := Turned.of_only on2 (by have := Below.size t1.1; simp at this; omega) (fun k hk => ⟨by have := (hsb k hk).1; omega, hsE k hk⟩)
  go_wp2_with fail
  go_ret
  exact ⟨rfl, ((Turned.of_new hB ((New.refl w).alloc _)).trans t1).trans t2⟩
end Go.Proofs.YtekpbmoagabmeaaGreatDoor

namespace Go.Proofs.YtekpbmoagabmeaaGreatDoor
open Go Go.Proofs Go.RowKit
set_option linter.unusedVariables false
set_option linter.unusedSimpArgs false
set_option maxRecDepth 100000
theorem own_apartC {u v : Value} {w w' : World} {base : Nat} {e : TypeId} {sz n : Nat} {cs : List Value} (h : w.grownBy w' v.ownBlock) (hu : w.ownsRow base e sz u n cs) (hne : ∀ i j, v.ownBlock = some i → u.ownBlock = some j → i ≠ j) : w'.ownsRow base e sz u n cs := by
  refine hu.kept h ?_
  cases hb : u.ownBlock with
  | none => exact .inl rfl
  | some k => exact .inr (fun e => hne k k e.symm hb rfl)
theorem markCode2_any (c : CodeD) (bv sv : Value) (B E k : Nat) (w : World) (hb : w.ownsRow B 67 3 bv c.blocks.length (c.blocks.flatMap encTerm)) (hs : w.ownsRow B 71 2 sv c.steps.length (c.steps.flatMap encInstruction)) (hne : ∀ i j, bv.ownBlock = some i → sv.ownBlock = some j → i ≠ j)
    (hk : k ≤ 100000000) (h1 : c.blocks.length ≤ 1048576) (h2 : c.steps.length ≤ 1048576) (hbE : ∀ k, bv.ownBlock = some k → k < E) (hsE : ∀ k, sv.ownBlock = some k → k < E) (hB : B ≤ w.heap.size) (hE : E ≤ w.heap.size) :
    Calls Tryz.prog 9 #[valC c bv sv, .int .i64 k] w fun e w' => e = .returned (.int .i64 ((k + c.blocks.length * 3 + c.steps.length * 2 : Nat) : Int)) ∧ Turned B E w w' ∧
      Rd w' bv c.blocks.length ((marksE (mkTerm k) c.blocks.length).flatMap encTerm) ∧ Rd w' sv c.steps.length ((marksE (mkInstruction (k + c.blocks.length * 3)) c.steps.length).flatMap encInstruction) := by
  have hbb := own_block_lt hb
  have hsb := own_block_lt hs
  go_enter Tryz.func9, Tryz.ntmps9
  go_wp2_with fail
  refine (markTermS_any _ c.blocks B k _ (hb.alloc _) h1 (by omega)).mono ?_
  rintro e w1 ⟨rfl, on1, own1⟩
  have t1 : Turned B E _ w1 := Turned.of_onlyG on1 (by simp; omega) (fun k hk => ⟨(hbb k hk).1, hbE k hk⟩)
  have s1 := own_apartC on1 (hs.alloc (.cells #[.int .i64 c.ins, .int .i64 c.vars, .int .i64 c.outs, bv, sv] 25)) hne
  have d1 := t1.abv (b := w.heap.size) (o := 4) hE (by simp)
  simp at d1
  go_wp2_with fail
  refine (markInstructionS_any _ c.steps B (k + c.blocks.length * 3) _ s1 h2 (by omega)).mono ?_
  rintro e w2 ⟨rfl, on2, own2⟩
  have t2 : Turned B E _ w2 := Turned.of_only on2 (by have := Below.size t1.1; simp at this; omega) (fun k hk => ⟨by have := (hsb k hk).1; omega, hsE k hk⟩)
  have own12 := own_apartC on2.2 own1 (fun i j hi hj e => hne j i hj hi e.symm)
  go_wp2_with fail
  go_ret
  exact ⟨rfl, ((Turned.of_new hB ((New.refl w).alloc _)).trans t1).trans t2, own_rd own12, own_rd own2⟩
theorem heldCode_any (i v o : Int) (bv sv : Value) (k n m : Nat) (w : World) (hb : Rd w bv n ((marksE (mkTerm k) n).flatMap encTerm)) (hs : Rd w sv m ((marksE (mkInstruction (k + n * 3)) m).flatMap encInstruction))
    (hk : k ≤ 100000000) (h1 : n ≤ 1048576) (h2 : m ≤ 1048576) :
    Calls Tryz.prog 10 #[.agg #[.int .i64 i, .int .i64 v, .int .i64 o, bv, sv], .int .i64 k] w fun e w' => e = .returned (.int .i64 ((k + n * 3 + m * 2 : Nat) : Int)) ∧ New w w' := by
  have HB := Lib.hid hb; clear hb
  have HS := Lib.hid hs; clear hs
  have e0 : ((k + n * 3 : Nat) : Int) = (k : Int) + (n : Int) * 3 := by omega
  go_enter Tryz.func10, Tryz.ntmps10
  go_wp2_with fail
  refine (heldTermS_any _ k n _ (Rd.new HB.out (by repeat (first | with_reducible exact New.refl _ | with_reducible assumption | with_reducible refine New.drew ?_ | with_reducible refine New.drewN ?_ _ | with_reducible refine New.alloc ?_ _ | with_reducible refine New.setCell ?_ (by first | (simp; done) | (simp; omega) | omega) _ | with_reducible refine New.trans ?_ (by with_reducible assumption)))) h1 (by omega)).mono ?_; rintro e w1 ⟨rfl, b1⟩
  try with_reducible replace b1 := New.undrawN b1
  try with_reducible replace b1 := New.undraw b1
  obtain ⟨c1, f1⟩ := b1.rules
  have z1 := b1.size
  try simp only [World.size_alloc, World.size_drew, World.heap_drewN, World.size_setCell] at z1
  have z1_0 : w.heap.size < w1.heap.size := by omega
  go_wp2_with fail
  refine (heldInstructionS_any _ (k + n * 3) m _ (Rd.new HS.out (by repeat (first | with_reducible exact New.refl _ | with_reducible assumption | with_reducible refine New.drew ?_ | with_reducible refine New.drewN ?_ _ | with_reducible refine New.alloc ?_ _ | with_reducible refine New.setCell ?_ (by first | (simp; done) | (simp; omega) | omega) _ | with_reducible refine New.trans ?_ (by with_reducible assumption)))) h2 (by omega)).mono ?_; rintro e w2 ⟨rfl, rfl⟩
  go_wp2_with fail
  go_ret
  exact ⟨rfl, (by repeat (first | with_reducible exact New.refl _ | with_reducible assumption | with_reducible refine New.drew ?_ | with_reducible refine New.drewN ?_ _ | with_reducible refine New.alloc ?_ _ | with_reducible refine New.setCell ?_ (by first | (simp; done) | (simp; omega) | omega) _ | with_reducible refine New.trans ?_ (by with_reducible assumption)))⟩
end Go.Proofs.YtekpbmoagabmeaaGreatDoor
