/- MarkT, Grew, TermM, MarkP, HeldP: several texts in one. -/
import Derived.Laws.BytesArg
import Derived.Test.YtadoocadohdfcaaDoorProg
import Derived.Test.YtadoocadohdfcaaDoorBase
import Derived.Test.YtadoocadohdfcaaDoorCells
import Derived.Test.YtadoocadohdfcaaDoorTermS
import Derived.Test.YtadoocadohdfcaaDoorLangS
namespace Go.Proofs.YtadoocadohdfcaaDoor
open Go Go.Proofs Go.RowKit
set_option linter.unusedVariables false
set_option linter.unusedSimpArgs false
set_option maxRecDepth 100000
def digB (j : Nat) : ByteArray := strOfNums [48 + (j : Int) % 10]
theorem digB_size (j : Nat) : (digB j).size = 1 := by rw [digB, strOfNums_size]; rfl
def markGo (j : Nat) (acc : ByteArray) : ByteArray := if h : j = 0 then acc else markGo (j / 10) (digB j ++ acc)
termination_by j
decreasing_by omega
theorem markGo_zero (acc : ByteArray) : markGo 0 acc = acc := by rw [markGo]; simp
theorem markGo_pos {j : Nat} (h : ¬ j = 0) (acc : ByteArray) : markGo j acc = markGo (j / 10) (digB j ++ acc) := by rw [markGo]; simp [h]
def markS (k : Nat) : ByteArray := if k = 0 then ⟨#[109, 48]⟩ else ⟨#[109]⟩ ++ markGo k ⟨#[]⟩
theorem pow_bd {j s k : Nat} (hj : 1 ≤ j) (h : j * 10 ^ s ≤ k) (hk : k ≤ 1000000000000) : s ≤ 12 := by
  rcases Nat.lt_or_ge 12 s with hs | hs
  · have h1 : 10 ^ 13 ≤ 10 ^ s := Nat.pow_le_pow_right (by omega) hs
    have h2 : 10 ^ s ≤ j * 10 ^ s := Nat.le_mul_of_pos_left _ hj
    have h3 : (10 : Nat) ^ 13 = 10000000000000 := by decide
    omega
  · exact hs
theorem pow_next {j s k : Nat} (h : j * 10 ^ s ≤ k) : j / 10 * 10 ^ (s + 1) ≤ k := by
  have h1 : j / 10 * 10 ≤ j := Nat.div_mul_le_self j 10
  have h2 : j / 10 * 10 ^ (s + 1) = (j / 10 * 10) * 10 ^ s := by rw [Nat.pow_succ, Nat.mul_assoc, Nat.mul_comm (10 ^ s) 10]
  rw [h2]
  exact Nat.le_trans (Nat.mul_le_mul_right _ h1) h
set_option maxHeartbeats 1000000 in
theorem markText_any (k : Nat) (w : World) (hk : k ≤ 1000000000000) :
    Calls Tryd.prog 82 #[.int .i64 k] w fun e w' => e = .returned (.string (markS k)) ∧ New w w' := by
  by_cases h0 : k = 0
  · subst h0
    go_enter Tryd.func82, Tryd.ntmps82
    go_wp2_with fail
    go_ret
    exact ⟨by rw [markS]; rfl, New.refl _⟩
  · have h1 : ¬ (k : Int) ≤ 0 := by omega
    go_enter Tryd.func82, Tryd.ntmps82
    go_wp2_with fail
    go_loopw [0, 3] (fun i s wr => ∃ (j : Nat) (t : ByteArray), i = .int .i64 j ∧ s = .string t ∧ j * 10 ^ t.size ≤ k ∧ j ≤ k ∧ t.size ≤ 13 ∧ Hid (markGo k ⟨#[]⟩ = markGo j t) ∧ New w wr) (fun i _ _ => (intOf i).toNat)
    case atStart => exact ⟨k, ⟨#[]⟩, rfl, rfl, by rw [show (ByteArray.size ⟨#[]⟩) = 0 from rfl]; omega, Nat.le_refl _, by decide, rfl, New.refl _⟩
    case round =>
      obtain ⟨j, t, rfl, rfl, hj, hjk, ht, hg, hb⟩ := hrel
      by_cases hz : j = 0
      · subst hz
        have HA := Lib.hid (hg.out.trans (markGo_zero t))
        go_wp2_with fail
        go_ret
        exact ⟨by rw [markS, if_neg h0, HA.out]; rfl, hb⟩
      · have hz' : 0 < (j : Int) := by omega
        have hs12 := pow_bd (by omega) hj hk
        have HN := Lib.hid (pow_next hj)
        have HA := Lib.hid (hg.out.trans (markGo_pos hz t))
        have hds := digB_size j
        have hsz : (digB j ++ t).size = t.size + 1 := by rw [ByteArray.size_append, hds]; omega
        clear hj
        have kc := run_convert_bytes_arg (P := Tryd.prog) (wr.alloc (.cells #[.int .u8 (48 + (j : Int) % 10)] 5)) 36 5 Tryd.underlying36 Tryd.underlying5 wr.heap.size 0 1 1 [48 + (j : Int) % 10] rfl (by intro i hi; obtain rfl : i = 0 := (by omega); exact alloc_one rfl) 9 Tryd.underlying9
        have kd : strOfNums [48 + (j : Int) % 10] = digB j := rfl
        rw [kd] at kc
        clear kd
        go_wp2_with fail
        go_roundw
        case rel => exact ⟨j / 10, digB j ++ t, by go_num, rfl, by rw [hsz]; exact HN.out, by omega, by omega, HA, (by repeat (first | with_reducible exact New.refl _ | with_reducible assumption | with_reducible refine New.drew ?_ | with_reducible refine New.drewN ?_ _ | with_reducible refine New.alloc ?_ _ | with_reducible refine New.setCell ?_ (by first | (simp; done) | (simp; omega) | omega) _ | with_reducible refine New.trans ?_ (by with_reducible assumption)))⟩
        case measure => simp [intOf]; omega
end Go.Proofs.YtadoocadohdfcaaDoor

namespace Go.Proofs.YtadoocadohdfcaaDoor
open Go Go.Proofs Go.RowKit
set_option linter.unusedVariables false
set_option linter.unusedSimpArgs false
def OnlyG (v : Value) (w w' : World) : Prop := w.grownBy w' v.ownBlock
theorem OnlyG.refl (v : Value) (w : World) : OnlyG v w w := ⟨rfl, rfl, rfl, Nat.le_refl _, fun _ _ _ => rfl⟩
theorem OnlyG.set {v : Value} {w w' : World} (h : OnlyG v w w') {g o : Nat} (hg : v.ownBlock = some g) (u : Value) : OnlyG v w (w'.setCell ⟨g, o, none⟩ u) := by
  refine ⟨h.os, h.tape, h.output, by simp only [World.size_setCell]; exact h.size, fun q hq hne => ?_⟩
  rw [hg] at hne
  exact (heap_setCell_other w' ⟨g, o, none⟩ q u (fun e => hne (by simp [e]))).trans (h.block q hq (by rw [hg]; exact hne))
theorem OnlyG.more {v : Value} {w w' w'' : World} (h : OnlyG v w w') (n : New w' w'') : OnlyG v w w'' := by
  obtain ⟨n1, n2, n3, n4, n5⟩ := n
  refine ⟨n1.trans h.os, n2.trans h.tape, n3.trans h.output, Nat.le_trans h.size n4, fun q hq hne => ?_⟩
  exact (n5 q (Nat.lt_of_lt_of_le hq h.size)).trans (h.block q hq hne)
theorem OnlyG.new {v : Value} {w0 w w' : World} (h : OnlyG v w w') (hn : New w0 w) (hv : ∀ k, v.ownBlock = some k → w0.heap.size ≤ k) : New w0 w' := hn.grown h hv
theorem OnlyG.of_only {v : Value} {w w' : World} (h : Only v w w') : OnlyG v w w' := h.2
theorem onlyG_own {v u : Value} {w w' : World} {base : Nat} {e : TypeId} {sz n : Nat} {cs : List Value} (h : OnlyG v w w') (hu : w.ownsRow base e sz u n cs) (hne : ∀ k, v.ownBlock = some k → k < base) : w'.ownsRow base e sz u n cs := by
  refine hu.kept h ?_
  cases hb : u.ownBlock with
  | none => exact .inl rfl
  | some k => exact .inr (fun e => by have h1 := hu.lt k hb; have h2 := hne k e.symm; omega)
theorem Turned.of_onlyG {B E : Nat} {v : Value} {w w' : World} (h : OnlyG v w w') (hB : B ≤ w.heap.size) (hv : ∀ k, v.ownBlock = some k → B ≤ k ∧ k < E) : Turned B E w w' :=
  ⟨Below.grown (Below.refl B w) h hB (fun k hk => (hv k hk).1), fun q hq hl => h.block q hl (fun e => by have := hv q e.symm; omega)⟩
def MarkedG {α : Type} (enc : α → List Value) (sz : Nat) (f : Nat → α) (v : Value) (base n : Nat) (k' : Nat) (e : TypeId) (w : World) (en : Ending) (w' : World) : Prop :=
  en = .returned (.int .i64 (k' : Int)) ∧ OnlyG v w w' ∧ w'.ownsRow base e sz v n ((marksE f n).flatMap enc)
theorem markText_at (x : Int) (k : Nat) (w : World) (hx : x = (k : Int)) (hk : k ≤ 1000000000000) :
    Calls Tryd.prog 82 #[.int .i64 x] w fun e w' => e = .returned (.string (markS k)) ∧ New w w' := by
  subst hx; exact markText_any k w hk
theorem Turned.abv {B E : Nat} {w w' : World} (h : Turned B E w w') {b o : Nat} (hb : E ≤ b) (hl : b < w.heap.size) : w'.cell? ⟨b, o, none⟩ = w.cell? ⟨b, o, none⟩ := World.cell?_of_block (h.2 b hb hl)
end Go.Proofs.YtadoocadohdfcaaDoor

namespace Go.Proofs.YtadoocadohdfcaaDoor
open Go Go.Proofs Go.RowKit
set_option linter.unusedVariables false
set_option linter.unusedSimpArgs false
set_option maxRecDepth 100000
def mkTerm (k : Nat) (j : Nat) : ETerm := ⟨((k + j * 3 : Nat) : Int), markS (k + j * 3 + 1), ((k + j * 3 + 2 : Nat) : Int)⟩
set_option maxHeartbeats 1600000 in
theorem markTermS_any (v : Value) (xs : List ETerm) (base k : Nat) (w : World) (hv : w.ownsRow base 53 3 v xs.length (xs.flatMap encTerm)) (hn : xs.length ≤ 1048576) (hk : k ≤ 1048576000) :
    Calls Tryd.prog 83 #[v, .int .i64 k] w (MarkedG encTerm 3 (mkTerm k) v base xs.length (k + xs.length * 3) 53 w) := by
  by_cases h0 : xs.length = 0
  · have hx : xs = [] := List.eq_nil_of_length_eq_zero h0
    subst hx
    obtain ⟨a, cap, hve⟩ := own_slice hv
    subst hve
    go_enter Tryd.func83, Tryd.ntmps83
    go_wp2_with fail
    refine wp_loop_rounds 1 ?_
    rw [rounds_succ]
    go_wp2_with fail
    go_ret
    exact ⟨rfl, OnlyG.refl _ _, hv⟩
  · obtain ⟨g, cap, rfl⟩ : ∃ g cap, v = .slice (some ⟨g, 0, none⟩) xs.length cap := by
      rcases hv.2 with ⟨_, h⟩ | ⟨g, cap, cur, h, _⟩
      · exact absurd h h0
      · exact ⟨g, cap, h⟩
    clear h0
    go_enter Tryd.func83, Tryd.ntmps83
    go_wp2_with fail
    go_loopw [1, 5] (fun kk i wr => ∃ j : Nat, j ≤ xs.length ∧ i = .int .i64 j ∧ kk = .int .i64 ((k + j * 3 : Nat) : Int) ∧ OnlyG (.slice (some ⟨g, 0, none⟩) xs.length cap) w wr ∧ wr.ownsRow base 53 3 (.slice (some ⟨g, 0, none⟩) xs.length cap) xs.length ((marksE (mkTerm k) j ++ xs.drop j).flatMap encTerm)) (fun _ i _ => xs.length - (intOf i).toNat)
    case atStart => exact ⟨0, Nat.zero_le _, rfl, by simp, OnlyG.refl _ _, by simpa [marksE] using hv⟩
    case round =>
      obtain ⟨j, hj, rfl, rfl, ho, hown⟩ := hrel
      clear hv
      by_cases hlt : j < xs.length
      · have hln := marksE_len (mkTerm k) xs j hj
        have hdn : ∀ i u, i < 3 → (encTerm xs[j])[i]? = some u → wr.cell? ⟨g, j * 3 + i, none⟩ = some u := fun i u hi hu => by
          rw [hown.cellAt (j * 3 + i) (by omega), flat_at encTerm 3 encTerm_len _ j (by rw [hln]; exact hlt) i hi, marksE_at _ _ _ hlt, hu]
        have d0 := hdn 0 _ (by omega) rfl
        have d1 := hdn 1 _ (by omega) rfl
        have d2 := hdn 2 _ (by omega) rfl
        rw [Nat.add_zero] at d0
        clear hdn
        have f0 := hown.frozenAt (j * 3)
        have f1 := hown.frozenAt (j * 3 + 1)
        have f2 := hown.frozenAt (j * 3 + 2)
        clear hln
        have hgw : g < wr.heap.size := (own_block_lt hown g rfl).2
        go_wp2_with fail
        refine (markText_at _ (k + j * 3 + 1) _ (by omega) (by omega)).mono ?_; rintro e w11 ⟨rfl, b11⟩
        try with_reducible replace b11 := New.undrawN b11
        try with_reducible replace b11 := New.undraw b11
        obtain ⟨c11, f11⟩ := b11.rules
        have z11 := b11.size
        try simp only [World.size_alloc, World.size_drew, World.heap_drewN, World.size_setCell] at z11
        have z11_0 : g < w11.heap.size := by omega
        go_wp2_with fail
        go_roundw
        case rel =>
          have h1 := (((own_new (hown.stored (j * 3) (.int .i64 (((k + j * 3 : Nat) : Int)))).1 b11).stored (j * 3 + 1) (.string (markS (k + j * 3 + 1)))).1.stored (j * 3 + 2) (.int .i64 (((k + j * 3 + 2 : Nat) : Int)))).1
          have h2 := set_flat2 encTerm 3 encTerm_len (marksE (mkTerm k) j ++ xs.drop j) j (by rw [marksE_len _ _ _ hj]; exact hlt) (mkTerm k j)
          rw [marksE_set _ _ _ hlt] at h2
          simp only [setFrom, encTerm, mkTerm] at h2
          rw [h2] at h1
          refine ⟨j + 1, by omega, by go_num, by go_num, ?_⟩
          try simp only [Int.natCast_add, Int.natCast_mul, Int.natCast_one, Int.cast_ofNat_Int, Int.add_assoc, Int.reduceAdd, Nat.cast_ofNat] at h1 ⊢
          exact ⟨((((ho.set rfl _).more b11).set rfl _).set rfl _), h1⟩
        case measure => simp [intOf]; omega
      · obtain rfl : j = xs.length := by omega
        go_wp2_with fail
        go_ret
        exact ⟨rfl, ho, by simpa using hown⟩
set_option maxHeartbeats 1600000 in
theorem heldTermS_any (v : Value) (k n : Nat) (w : World) (hv : Rd w v n ((marksE (mkTerm k) n).flatMap encTerm)) (hn : n ≤ 1048576) (hk : k ≤ 1048576000) :
    Calls Tryd.prog 84 #[v, .int .i64 k] w fun e w' => e = .returned (.int .i64 ((k + n * 3 : Nat) : Int)) ∧ New w w' := by
  have hl := marksE_length (mkTerm k) n
  obtain ⟨a, cap, rfl, hm, HC⟩ := Rd.flat (xs := marksE (mkTerm k) n) encTerm_len (by omega) (by rw [hl]; exact hv)
  rw [hl] at hm ⊢
  clear hv
  go_enter Tryd.func84, Tryd.ntmps84
  go_wp2_with fail
  go_loopw [1, 5] (fun kk i wr => ∃ j : Nat, j ≤ n ∧ i = .int .i64 j ∧ kk = .int .i64 ((k + j * 3 : Nat) : Int) ∧ New w wr) (fun _ i _ => n - (intOf i).toNat)
  case atStart => exact ⟨0, Nat.zero_le _, rfl, by simp, New.refl _⟩
  case round =>
    obtain ⟨j, hj, rfl, rfl, hb⟩ := hrel
    obtain ⟨cc, f'⟩ := hb.rules
    have hbz := hb.size
    by_cases hlt : j < n
    · obtain ⟨b, off, rfl, hbl, hx⟩ := HC.out j (by rw [hl]; exact hlt)
      rw [marksE_get _ n j hlt] at hx
      have x0 := hx 0 _ (by omega) rfl
      have x1 := hx 1 _ (by omega) rfl
      have x2 := hx 2 _ (by omega) rfl
      rw [Nat.add_zero] at x0
      simp only [mkTerm] at x0
      simp only [mkTerm] at x1
      simp only [mkTerm] at x2
      replace hx := Lib.hid hx
      have hbw : b < wr.heap.size := by omega
      clear hl
      go_wp2_with fail
      have hq11 := fun (nn : NewOf wr) b o => NewOf.cell nn b o
      refine wp_region_new (by kernel_rfl) (by kernel_rfl) ?_
      repeat (first | go_big_quiet_skip | go_big_quiet_step ((first | exact newq (markText_at _ (k + j * 3 + 1) _ (by omega) (by omega)))) | quiet_step ((first | exact newq (markText_at _ (k + j * 3 + 1) _ (by omega) (by omega)))))
      refine wpQuiet_nil ?_
      rintro ⟨w11, b11⟩
      dsimp only
      try with_reducible replace b11 := New.undrawN b11
      try with_reducible replace b11 := New.undraw b11
      obtain ⟨c11, f11⟩ := b11.rules
      have z11 := b11.size
      try simp only [World.size_alloc, World.size_drew, World.heap_drewN, World.size_setCell] at z11
      have z11_0 : b < w11.heap.size := by omega
      go_wp2_with fail
      go_roundw
      case rel => exact ⟨j + 1, by omega, by go_num, by go_num, (by repeat (first | with_reducible exact New.refl _ | with_reducible assumption | with_reducible refine New.drew ?_ | with_reducible refine New.drewN ?_ _ | with_reducible refine New.alloc ?_ _ | with_reducible refine New.setCell ?_ (by first | (simp; done) | (simp; omega) | omega) _ | with_reducible refine New.trans ?_ (by with_reducible assumption)))⟩
      case measure => simp [intOf]; omega
    · obtain rfl : j = n := by omega
      go_wp2_with fail
      go_ret
      exact ⟨rfl, hb⟩
end Go.Proofs.YtadoocadohdfcaaDoor

namespace Go.Proofs.YtadoocadohdfcaaDoor
open Go Go.Proofs Go.RowKit
set_option linter.unusedVariables false
set_option linter.unusedSimpArgs false
set_option maxRecDepth 100000
theorem own_apart {u v : Value} {w w' : World} {base : Nat} {e : TypeId} {sz n : Nat} {cs : List Value} (h : w.grownBy w' v.ownBlock) (hu : w.ownsRow base e sz u n cs) (hne : ∀ i j, v.ownBlock = some i → u.ownBlock = some j → i ≠ j) : w'.ownsRow base e sz u n cs := by
  refine hu.kept h ?_
  cases hb : u.ownBlock with
  | none => exact .inl rfl
  | some k => exact .inr (fun e => hne k k e.symm hb rfl)
def mkString (k j : Nat) : ByteArray := markS (k + j)
set_option maxHeartbeats 1600000 in
theorem markStringS_any (v : Value) (xs : List ByteArray) (base k : Nat) (w : World) (hv : w.ownsRow base 9 1 v xs.length (xs.map Value.string)) (hn : xs.length ≤ 1048576) (hk : k ≤ 1048576000) :
    Calls Tryd.prog 51 #[v, .int .i64 k] w fun e w' => e = .returned (.int .i64 ((k + xs.length : Nat) : Int)) ∧ OnlyG v w w' ∧ w'.ownsRow base 9 1 v xs.length ((marksE (mkString k) xs.length).map Value.string) := by
  by_cases h0 : xs.length = 0
  · have hx : xs = [] := List.eq_nil_of_length_eq_zero h0
    subst hx
    obtain ⟨a, cap, hve⟩ := own_slice hv
    subst hve
    go_enter Tryd.func51, Tryd.ntmps51
    go_wp2_with fail
    refine wp_loop_rounds 1 ?_
    rw [rounds_succ]
    go_wp2_with fail
    go_ret
    exact ⟨rfl, OnlyG.refl _ _, hv⟩
  · obtain ⟨g, cap, rfl⟩ : ∃ g cap, v = .slice (some ⟨g, 0, none⟩) xs.length cap := by
      rcases hv.2 with ⟨_, h⟩ | ⟨g, cap, cur, h, _⟩
      · exact absurd h h0
      · exact ⟨g, cap, h⟩
    clear h0
    go_enter Tryd.func51, Tryd.ntmps51
    go_wp2_with fail
    go_loopw [1, 5] (fun kk i wr => ∃ j : Nat, j ≤ xs.length ∧ i = .int .i64 j ∧ kk = .int .i64 ((k + j : Nat) : Int) ∧ OnlyG (.slice (some ⟨g, 0, none⟩) xs.length cap) w wr ∧ wr.ownsRow base 9 1 (.slice (some ⟨g, 0, none⟩) xs.length cap) xs.length ((marksE (mkString k) j ++ xs.drop j).map Value.string)) (fun _ i _ => xs.length - (intOf i).toNat)
    case atStart => exact ⟨0, Nat.zero_le _, rfl, by simp, OnlyG.refl _ _, by simpa [marksE] using hv⟩
    case round =>
      obtain ⟨j, hj, rfl, rfl, ho, hown⟩ := hrel
      clear hv
      by_cases hlt : j < xs.length
      · have hln := marksE_len (mkString k) xs j hj
        have d0 : wr.cell? ⟨g, j, none⟩ = some (.string xs[j]) := by
          rw [hown.cellAt j (by omega), List.getElem?_map, List.getElem?_eq_getElem (by rw [hln]; exact hlt), marksE_at _ _ _ hlt]; rfl
        have f0 := hown.frozenAt j
        clear hln
        have hgw : g < wr.heap.size := (own_block_lt hown g rfl).2
        go_wp2_with fail
        refine (markText_at _ (k + j) _ (by omega) (by omega)).mono ?_; rintro e w11 ⟨rfl, b11⟩
        try with_reducible replace b11 := New.undrawN b11
        try with_reducible replace b11 := New.undraw b11
        obtain ⟨c11, f11⟩ := b11.rules
        have z11 := b11.size
        try simp only [World.size_alloc, World.size_drew, World.heap_drewN, World.size_setCell] at z11
        have z11_0 : g < w11.heap.size := by omega
        go_wp2_with fail
        go_roundw
        case rel =>
          have h1 := ((own_new hown b11).stored j (.string (markS (k + j)))).1
          have h2 : ((marksE (mkString k) j ++ xs.drop j).map Value.string).set j (.string (markS (k + j))) = (marksE (mkString k) (j + 1) ++ xs.drop (j + 1)).map Value.string := by
            rw [← marksE_set _ _ _ hlt, List.map_set]; rfl
          rw [h2] at h1
          exact ⟨j + 1, by omega, by go_num, by go_num, (ho.more b11).set rfl _, h1⟩
        case measure => simp [intOf]; omega
      · obtain rfl : j = xs.length := by omega
        go_wp2_with fail
        go_ret
        exact ⟨rfl, ho, by simpa using hown⟩
theorem markStringS_at (x : Int) (v : Value) (xs : List ByteArray) (base k : Nat) (w : World) (hx : x = (k : Int)) (hv : w.ownsRow base 9 1 v xs.length (xs.map Value.string)) (hn : xs.length ≤ 1048576) (hk : k ≤ 1048576000) :
    Calls Tryd.prog 51 #[v, .int .i64 x] w fun e w' => e = .returned (.int .i64 ((k + xs.length : Nat) : Int)) ∧ OnlyG v w w' ∧ w'.ownsRow base 9 1 v xs.length ((marksE (mkString k) xs.length).map Value.string) := by subst hx; exact markStringS_any v xs base k w hv hn hk
set_option maxHeartbeats 1600000 in
theorem heldStringS_any (v : Value) (k n : Nat) (w : World) (hv : RdS w v (marksE (mkString k) n)) (hn : n ≤ 1048576) (hk : k ≤ 1048576000) :
    Calls Tryd.prog 53 #[v, .int .i64 k] w fun e w' => e = .returned (.int .i64 ((k + n : Nat) : Int)) ∧ New w w' := by
  have hl := marksE_length (mkString k) n
  obtain ⟨a, cap, rfl, hm, HC⟩ := hv.open
  rw [hl] at hm ⊢
  clear hv
  go_enter Tryd.func53, Tryd.ntmps53
  go_wp2_with fail
  go_loopw [1, 5] (fun kk i wr => ∃ j : Nat, j ≤ n ∧ i = .int .i64 j ∧ kk = .int .i64 ((k + j : Nat) : Int) ∧ New w wr) (fun _ i _ => n - (intOf i).toNat)
  case atStart => exact ⟨0, Nat.zero_le _, rfl, by simp, New.refl _⟩
  case round =>
    obtain ⟨j, hj, rfl, rfl, hb⟩ := hrel
    obtain ⟨cc, f'⟩ := hb.rules
    have hbz := hb.size
    by_cases hlt : j < n
    · obtain ⟨b, off, rfl, hbl, hx⟩ := HC.out w (New.refl w) j (by rw [hl]; exact hlt)
      rw [marksE_get _ n j hlt] at hx
      simp only [mkString] at hx
      have hbw : b < wr.heap.size := by omega
      clear hl
      go_wp2_with fail
      have hq11 := fun (nn : NewOf wr) b o => NewOf.cell nn b o
      refine wp_region_new (by kernel_rfl) (by kernel_rfl) ?_
      repeat (first | go_big_quiet_skip | go_big_quiet_step ((first | exact newq (markText_at _ (k + j) _ (by omega) (by omega)))) | quiet_step ((first | exact newq (markText_at _ (k + j) _ (by omega) (by omega)))))
      refine wpQuiet_nil ?_
      rintro ⟨w11, b11⟩
      dsimp only
      try with_reducible replace b11 := New.undrawN b11
      try with_reducible replace b11 := New.undraw b11
      obtain ⟨c11, f11⟩ := b11.rules
      have z11 := b11.size
      try simp only [World.size_alloc, World.size_drew, World.heap_drewN, World.size_setCell] at z11
      have z11_0 : b < w11.heap.size := by omega
      go_wp2_with fail
      go_roundw
      case rel => exact ⟨j + 1, by omega, by go_num, by go_num, (by repeat (first | with_reducible exact New.refl _ | with_reducible assumption | with_reducible refine New.drew ?_ | with_reducible refine New.drewN ?_ _ | with_reducible refine New.alloc ?_ _ | with_reducible refine New.setCell ?_ (by first | (simp; done) | (simp; omega) | omega) _ | with_reducible refine New.trans ?_ (by with_reducible assumption)))⟩
      case measure => simp [intOf]; omega
    · obtain rfl : j = n := by omega
      go_wp2_with fail
      go_ret
      exact ⟨rfl, hb⟩
/-- How many marks a list of lines takes. -/
def cntL : List LineD → Nat
  | [] => 0
  | l :: ls => 1 + l.terms.length * 3 + cntL ls
def mk1 (k : Nat) (l : LineD) : LineD := ⟨markS k, marksE (mkTerm (k + 1)) l.terms.length⟩
def mkLs (k : Nat) : List LV → List LV
  | [] => []
  | q :: qs => (mk1 k q.1, q.2) :: mkLs (k + (1 + q.1.terms.length * 3)) qs
def cntP (ps : List LV) : Nat := cntL (ps.map Prod.fst)
theorem cntP_app (xs ys : List LV) : cntP (xs ++ ys) = cntP xs + cntP ys := by
  induction xs with
  | nil => simp [cntP, cntL]
  | cons x xs ih => simp only [cntP, List.cons_append, List.map_cons, cntL] at ih ⊢; omega
theorem mkLs_app : ∀ (k : Nat) (xs ys : List LV), mkLs k (xs ++ ys) = mkLs k xs ++ mkLs (k + cntP xs) ys
  | k, [], ys => by simp [mkLs, cntP, cntL]
  | k, x :: xs, ys => by
    rw [List.cons_append, mkLs, mkLs, mkLs_app, List.cons_append]
    simp only [cntP, List.map_cons, cntL, Nat.add_assoc]
theorem mkLs_length : ∀ (k : Nat) (xs : List LV), (mkLs k xs).length = xs.length
  | k, [] => rfl
  | k, x :: xs => by rw [mkLs, List.length_cons, mkLs_length, List.length_cons]
theorem mkLs_snd : ∀ (k : Nat) (xs : List LV), (mkLs k xs).map Prod.snd = xs.map Prod.snd
  | k, [] => rfl
  | k, x :: xs => by rw [mkLs, List.map_cons, mkLs_snd, List.map_cons]
theorem snd_get {xs ys : List LV} (h : xs.map Prod.snd = ys.map Prod.snd) (i : Nat) (h1 : i < xs.length) (h2 : i < ys.length) : (xs[i]).2 = (ys[i]).2 := by
  have := congrArg (fun l => l[i]?) h
  simpa [List.getElem?_map, List.getElem?_eq_getElem, h1, h2] using this
theorem Apart.of_snd {v : Value} {xs ys : List LV} (h : Apart v xs) (e : xs.map Prod.snd = ys.map Prod.snd) : Apart v ys := by
  have hl : xs.length = ys.length := by have := congrArg List.length e; simpa using this
  refine ⟨fun i hi x y hx hy => h.1 i (by omega) x y hx (by rw [snd_get e i (by omega) hi]; exact hy), fun i j hi hj hij x y hx hy => h.2 i j (by omega) (by omega) hij x y (by rw [snd_get e i (by omega) hi]; exact hx) (by rw [snd_get e j (by omega) hj]; exact hy)⟩
theorem mkLs_next (k : Nat) (ps : List LV) (j : Nat) (h : j < ps.length) : (mkLs k (ps.take j) ++ ps.drop j).set j (mk1 (k + cntP (ps.take j)) ps[j].1, ps[j].2) = mkLs k (ps.take (j + 1)) ++ ps.drop (j + 1) := by
  have hl : (mkLs k (ps.take j)).length = j := by rw [mkLs_length]; simp; omega
  rw [List.set_append, if_neg (by omega), hl, Nat.sub_self, List.drop_eq_getElem_cons h, List.set_cons_zero, List.take_succ_eq_append_getElem h, mkLs_app]
  simp [mkLs]
theorem cntP_next (ps : List LV) (j : Nat) (h : j < ps.length) : cntP (ps.take (j + 1)) = cntP (ps.take j) + (1 + ps[j].1.terms.length * 3) := by
  rw [List.take_succ_eq_append_getElem h, cntP_app]; simp [cntP, cntL]
theorem cntP_take (ps : List LV) (j : Nat) : cntP (ps.take j) ≤ cntP ps := by
  have := cntP_app (ps.take j) (ps.drop j)
  rw [List.take_append_drop] at this; omega
theorem mid_get (k : Nat) (ps : List LV) (j : Nat) (h : j < ps.length) : (mkLs k (ps.take j) ++ ps.drop j)[j]'(by rw [List.length_append, mkLs_length, List.length_take, List.length_drop]; omega) = ps[j] := by
  have hl : (mkLs k (ps.take j)).length = j := by rw [mkLs_length]; simp; omega
  rw [List.getElem_append_right (by omega)]
  simp [hl]
theorem mid_len (k : Nat) (ps : List LV) (j : Nat) (h : j ≤ ps.length) : (mkLs k (ps.take j) ++ ps.drop j).length = ps.length := by
  rw [List.length_append, mkLs_length, List.length_take, List.length_drop]; omega
theorem mid_snd (k : Nat) (ps : List LV) (j : Nat) : (mkLs k (ps.take j) ++ ps.drop j).map Prod.snd = ps.map Prod.snd := by
  rw [List.map_append, mkLs_snd, ← List.map_append, List.take_append_drop]
theorem markTermS_at (x : Int) (v : Value) (xs : List ETerm) (base k : Nat) (w : World) (hx : x = (k : Int)) (hv : w.ownsRow base 53 3 v xs.length (xs.flatMap encTerm)) (hn : xs.length ≤ 1048576) (hk : k ≤ 1048576000) :
    Calls Tryd.prog 83 #[v, .int .i64 x] w (MarkedG encTerm 3 (mkTerm k) v base xs.length (k + xs.length * 3) 53 w) := by subst hx; exact markTermS_any v xs base k w hv hn hk
theorem Turned.set {B E : Nat} {w : World} {g o : Nat} (h1 : B ≤ g) (h2 : g < E) (u : Value) : Turned B E w (w.setCell ⟨g, o, none⟩ u) :=
  ⟨Below.setCell (Below.refl B w) h1 u, fun q hq hl => heap_setCell_other w ⟨g, o, none⟩ q u (fun e => by have : q = g := e; omega)⟩
/-- One line's row and the terms behind it set anew. -/
theorem ownLnX_set {w w1 w2 : World} {base g cap : Nat} {qs : List LV} {n : Nat} (hn : qs.length = n) (h : OwnLnX w base (.slice (some ⟨g, 0, none⟩) n cap) qs) (hap : Apart (.slice (some ⟨g, 0, none⟩) n cap) qs) (j : Nat) (hj : j < qs.length) (q : LV) (hq : qs[j] = q) (t : ByteArray) (ts : List ETerm) (ht : ts.length = q.1.terms.length)
    (h1 : w1 = w.setCell ⟨g, j * 2, none⟩ (.string t)) (h2 : OnlyG q.2 w1 w2) (h3 : w2.ownsRow base 53 3 q.2 q.1.terms.length (ts.flatMap encTerm)) :
    OwnLnX w2 base (.slice (some ⟨g, 0, none⟩) n cap) (qs.set j (⟨t, ts⟩, q.2)) := by
  subst hn
  subst h1
  subst hq
  have hs := h.1.stored (j * 2) (.string t)
  have e1 : (qs.flatMap encLV).set (j * 2) (.string t) = (qs.set j (⟨t, ts⟩, (qs[j]).2)).flatMap encLV := by
    have := set_flat2 encLV 2 encLV_len qs j hj (⟨t, ts⟩, (qs[j]).2)
    rw [← this]
    simp only [encLV, setFrom]
    have hf : (qs.flatMap encLV)[j * 2 + 1]? = some (qs[j]).2 := by rw [flat_at encLV 2 encLV_len qs j hj 1 (by omega)]; rfl
    have hlt := (List.getElem?_eq_some_iff.1 hf).1
    have hge := (List.getElem?_eq_some_iff.1 hf).2
    apply List.ext_getElem?
    intro i
    by_cases hi : i = j * 2 + 1
    · subst hi
      rw [List.getElem?_set_ne (by omega), List.getElem?_set_self (by rw [List.length_set]; exact hlt), hf]
    · rw [List.getElem?_set_ne (l := (qs.flatMap encLV).set (j * 2) (.string t)) (by omega)]
  refine ⟨?_, fun i hi => ?_⟩
  · rw [List.length_set, ← e1]
    exact own_apart h2 hs.1 (fun x y hx hy => fun e => hap.1 j hj y x hy hx e.symm)
  · rw [List.length_set] at hi
    by_cases hij : i = j
    · subst hij
      rw [List.getElem_set_self]
      dsimp only
      rw [ht]; exact h3
    · rw [List.getElem_set_ne (fun e => hij e.symm)]
      exact own_apart h2 (own_apart hs.2 (h.2 i hi) (fun x y hx hy => hap.1 i hi x y hx hy)) (fun x y hx hy => hap.2 j i hj hi (fun e => hij e.symm) x y hx hy)
set_option maxHeartbeats 3200000 in
theorem markLineS_any (v : Value) (ps : List LV) (base E k : Nat) (w : World) (hv : OwnLnX w base v ps) (hap : Apart v ps) (hn : ps.length ≤ 1048576) (hk : k + cntP ps ≤ 1048576000) (hB : base ≤ w.heap.size) (hvE : ∀ x, v.ownBlock = some x → x < E) (htE : ∀ i (h : i < ps.length) x, (ps[i]).2.ownBlock = some x → x < E) (hnt : ∀ i (h : i < ps.length), (ps[i]).1.terms.length ≤ 1048576) :
    Calls Tryd.prog 52 #[v, .int .i64 k] w fun e w' => e = .returned (.int .i64 ((k + cntP ps : Nat) : Int)) ∧ Turned base E w w' ∧ OwnLnX w' base v (mkLs k ps) := by
  by_cases h0 : ps.length = 0
  · have hx : ps = [] := List.eq_nil_of_length_eq_zero h0
    subst hx
    obtain ⟨a, cap, hve⟩ := own_slice hv.1
    subst hve
    go_enter Tryd.func52, Tryd.ntmps52
    go_wp2_with fail
    refine wp_loop_rounds 1 ?_
    rw [rounds_succ]
    go_wp2_with fail
    go_ret
    exact ⟨rfl, Turned.refl _ _ _, hv⟩
  · obtain ⟨g, cap, rfl⟩ : ∃ g cap, v = .slice (some ⟨g, 0, none⟩) ps.length cap := by
      rcases hv.1.2 with ⟨_, h⟩ | ⟨g, cap, cur, h, _⟩
      · exact absurd h h0
      · exact ⟨g, cap, h⟩
    clear h0
    have HA := Lib.hid hap; clear hap
    have HTE := Lib.hid htE; clear htE
    have HNT := Lib.hid hnt; clear hnt
    have hgE : g < E := hvE g rfl
    have hgb : base ≤ g := (own_block_lt hv.1 g rfl).1
    clear hvE
    go_enter Tryd.func52, Tryd.ntmps52
    go_wp2_with fail
    go_loopw [1, 5] (fun kk i wr => ∃ j : Nat, j ≤ ps.length ∧ i = .int .i64 j ∧ kk = .int .i64 ((k + cntP (ps.take j) : Nat) : Int) ∧ Turned base E w wr ∧ OwnLnX wr base (.slice (some ⟨g, 0, none⟩) ps.length cap) (mkLs k (ps.take j) ++ ps.drop j)) (fun _ i _ => ps.length - (intOf i).toNat)
    case atStart => exact ⟨0, Nat.zero_le _, rfl, by simp [cntP, cntL], Turned.refl _ _ _, by simpa [mkLs] using hv⟩
    case round =>
      obtain ⟨j, hj, rfl, rfl, ho, hown⟩ := hrel
      clear hv
      by_cases hlt : j < ps.length
      · have hln := mid_len k ps j hj
        have HG := Lib.hid (mid_get k ps j hlt)
        have HAM := Lib.hid (HA.out.of_snd (mid_snd k ps j).symm)
        have hcn := cntP_next ps j hlt
        have hct := cntP_take ps (j + 1)
        obtain ⟨ra, rc, hrv⟩ := own_slice (hown.2 j (by rw [hln]; exact hlt))
        rw [HG.out] at hrv
        have hfr : wr.ownsRow base 55 2 (.slice (some ⟨g, 0, none⟩) ps.length cap) ps.length ((mkLs k (ps.take j) ++ ps.drop j).flatMap encLV) := by have := hown.1; rwa [hln] at this
        have hdn : ∀ i u, i < 2 → (encLV ps[j])[i]? = some u → wr.cell? ⟨g, j * 2 + i, none⟩ = some u := fun i u hi hu => by
          have hc := hfr.cellAt (j * 2 + i) (by omega)
          rw [hc, flat_at encLV 2 encLV_len _ j (by rw [hln]; exact hlt) i hi, HG.out, hu]
        have d0 := hdn 0 _ (by omega) rfl
        have d1 := hdn 1 _ (by omega) rfl
        rw [hrv] at d1
        rw [Nat.add_zero] at d0
        clear hdn
        have f0 := hfr.frozenAt (j * 2)
        have hgw : g < wr.heap.size := (own_block_lt hfr g rfl).2
        have HTT := Lib.hid (show wr.ownsRow base 53 3 (.slice ra ps[j].1.terms.length rc) ps[j].1.terms.length (ps[j].1.terms.flatMap encTerm) by have := hown.2 j (by rw [hln]; exact hlt); rw [HG.out, hrv] at this; exact this)
        have hmt := HNT.out j hlt
        have hrE := Lib.hid (HTE.out j hlt)
        have hbw : base ≤ wr.heap.size := Nat.le_trans hB (Below.size ho.1)
        replace hown := Lib.hid hown
        replace hln := Lib.hid hln
        have hcm : k + cntP (ps.take j) + 1 ≤ 1048576000 := by omega
        replace hcn := Lib.hid hcn
        generalize hC : cntP (ps.take j) = C at *
        go_wp2_with fail
        refine (markText_at _ (k + C) _ (by omega) (by omega)).mono ?_; rintro e w11 ⟨rfl, b11⟩
        try with_reducible replace b11 := New.undrawN b11
        try with_reducible replace b11 := New.undraw b11
        obtain ⟨c11, f11⟩ := b11.rules
        have z11 := b11.size
        try simp only [World.size_alloc, World.size_drew, World.heap_drewN, World.size_setCell] at z11
        have z11_0 : g < w11.heap.size := by omega
        go_wp2_with fail
        have hst := (own_new hfr b11).stored (j * 2) (.string (markS (k + C)))
        have hoT := own_apart hst.2 (own_new HTT.out b11) (fun x y hx hy => HA.out.1 j hlt x y hx (by rw [hrv]; exact hy))
        have hbT := own_block_lt hoT
        refine (markTermS_at _ _ ps[j].1.terms base (k + C + 1) _ (by omega) hoT hmt (by omega)).mono ?_
        rintro e w12 ⟨rfl, on12, own12⟩
        go_wp2_with fail
        go_roundw
        case rel =>
          refine ⟨j + 1, by omega, by go_num, by rw [hcn.out]; go_num, ((ho.trans (Turned.of_new hbw b11)).trans (Turned.set hgb hgE _)).trans (Turned.of_onlyG on12 (by simp only [World.size_setCell]; omega) (fun x hx => ⟨(hbT x hx).1, hrE.out x (by rw [hrv]; exact hx)⟩)), ?_⟩
          rw [← mkLs_next k ps j hlt, hC]
          exact ownLnX_set hln.out (hown.out.new b11) HAM.out j (by rw [hln.out]; exact hlt) ps[j] HG.out (markS (k + C)) (marksE (mkTerm (k + C + 1)) ps[j].1.terms.length) (marksE_length _ _) rfl (by rw [hrv]; exact on12) (by rw [hrv]; exact own12)
        case measure => simp [intOf]; omega
      · obtain rfl : j = ps.length := by omega
        go_wp2_with fail
        go_ret
        exact ⟨by rw [List.take_length]; rfl, ho, by simpa [List.take_length] using hown⟩
theorem markLineS_at (x : Int) (v : Value) (ps : List LV) (base E k : Nat) (w : World) (hx : x = (k : Int)) (hv : OwnLnX w base v ps) (hap : Apart v ps) (hn : ps.length ≤ 1048576) (hk : k + cntP ps ≤ 1048576000) (hB : base ≤ w.heap.size) (hvE : ∀ x, v.ownBlock = some x → x < E) (htE : ∀ i (h : i < ps.length) x, (ps[i]).2.ownBlock = some x → x < E) (hnt : ∀ i (h : i < ps.length), (ps[i]).1.terms.length ≤ 1048576) :
    Calls Tryd.prog 52 #[v, .int .i64 x] w fun e w' => e = .returned (.int .i64 ((k + cntP ps : Nat) : Int)) ∧ Turned base E w w' ∧ OwnLnX w' base v (mkLs k ps) := by subst hx; exact markLineS_any v ps base E k w hv hap hn hk hB hvE htE hnt
/-- How many marks a program takes. -/
def cntPr (p : ProgD) : Nat := p.inputs.length + p.vars.length + p.outputs.length + cntL p.lines
theorem szLn_use (l : LineD) (m : Int) (h : 0 ≤ m) (h2 : 0 ≤ szLn l m) : (l.terms.length : Int) ≤ m - szLn l m := by
  have hb := szT_bd l.target m h
  rw [szLn] at h2 ⊢
  split at h2
  · omega
  · rename_i hh
    rw [if_neg hh]
    rw [szTermS] at h2 ⊢
    split at h2
    · omega
    · rename_i h3
      rw [if_neg h3]
      have := szETerm_bd l.terms (szT l.target m - l.terms.length) (by omega)
      omega
theorem szFoldLn_cnt : ∀ (ls : List LineD) (m : Int), 0 ≤ m → 0 ≤ szFold szLn ls m → (cntL ls : Int) ≤ ls.length + 3 * m
  | [], m, h, h2 => by simp [cntL]; omega
  | l :: ls, m, h, h2 => by
    have h1 := szLn_bd l m h
    rw [szFold] at h2
    split at h2
    · omega
    · have ih := szFoldLn_cnt ls (szLn l m) (by omega) h2
      have h3 := szLn_use l m h (by omega)
      rw [cntL, List.length_cons]
      omega
theorem szP_cnt (p : ProgD) (h2 : 0 ≤ szP p 1048576) : cntPr p ≤ 8388608 := by
  rw [szP, szSteps] at h2
  obtain ⟨a1, h2⟩ := szCh_cons h2
  have b1 := szT_bd p.name 1048576 (by omega)
  obtain ⟨a2, h2⟩ := szCh_cons h2
  have b2 := szSl_bd szT_bd p.inputs _ a1
  obtain ⟨a3, h2⟩ := szCh_cons h2
  have b3 := szSl_bd szT_bd p.vars _ a2
  obtain ⟨a4, h2⟩ := szCh_cons h2
  have b4 := szSl_bd szT_bd p.outputs _ a3
  obtain ⟨a5, h2⟩ := szCh_cons h2
  have b5 := szT_bd p.guard _ a4
  obtain ⟨a6, h2⟩ := szCh_cons h2
  have b6 := szSl_bd szLn_bd p.lines _ a5
  have c6 : (cntL p.lines : Int) ≤ 4 * 1048576 := by
    generalize hm : szT p.guard _ = m at *
    have h7 : szSl szLn p.lines m = szFold szLn p.lines (m - p.lines.length) := by
      rw [szSl]; split <;> rename_i hh; (rw [szSl, if_pos hh] at a6; omega); rfl
    have := szFoldLn_cnt p.lines (m - p.lines.length) (by have := b6.2.2 a6; omega) (by rw [← h7]; exact a6)
    omega
  have d2 := b2.2.2 a2
  have d3 := b3.2.2 a3
  have d4 := b4.2.2 a4
  rw [cntPr]; omega
set_option maxHeartbeats 3200000 in
theorem markProgram_any (p : ProgD) (iv vv ov lv : Value) (b0 b1 b2 b3 : Nat) (w0 w : World) (h : OwnP w0 b0 b1 b2 b3 p iv vv ov lv) (n : New w0 w) (hf : FitP p) (hc : cntPr p ≤ 8388608) :
    Calls Tryd.prog 11 #[valP p iv vv ov lv, .int .i64 1] w fun e w' => e = .returned (.int .i64 ((1 + cntPr p : Nat) : Int)) ∧ Turned b0 w0.heap.size w w' := by
  obtain ⟨hi, hiE, hv, hvE, ho, hoE, ⟨ps, hps, hX, hA⟩, o1, o2, o3, o4⟩ := h
  have hnz := n.size
  have hbi := own_block_lt hi
  have hbv := own_block_lt hv
  have hbo := own_block_lt ho
  have hbl := own_block_lt hX.1
  have hcl : cntP ps = cntL p.lines := by rw [cntP, hps]
  have htx := Lib.hid (fun i (hi : i < ps.length) x (hx : (ps[i]).2.ownBlock = some x) => (own_block_lt (hX.2 i hi) x hx).2)
  have hpl : ps.length ≤ 1048576 := by have := hf.linesl; rw [← hps, List.length_map] at this; exact this
  have hcc := Lib.hid hc
  rw [cntPr] at hc
  have HI := Lib.hid (own_new hi n); have HV := Lib.hid (own_new hv n); have HO := Lib.hid (own_new ho n); have HX := Lib.hid (hX.new n)
  have HNT : ∀ i (h : i < ps.length), (ps[i]).1.terms.length ≤ 1048576 := fun i h => (hf.lines ps[i].1 (by rw [← hps]; exact List.mem_map_of_mem (List.getElem_mem h))).2.2
  have l1 := hf.insl
  have l2 := hf.varsl
  have l3 := hf.outsl
  have HNT' := Lib.hid HNT
  have HPS := Lib.hid hps
  have HCL := Lib.hid hcl
  rw [← hcl] at hc
  clear hi hv ho hX hps HNT hcl n
  obtain ⟨ia, ic, rfl⟩ := own_slice HI.out
  obtain ⟨ja, jc, rfl⟩ := own_slice HV.out
  obtain ⟨oa, oc, rfl⟩ := own_slice HO.out
  obtain ⟨la, lc, rfl⟩ := own_slice HX.out.1
  go_enter Tryd.func11, Tryd.ntmps11
  go_wp2_with fail
  refine (markStringS_any _ p.inputs b0 1 _ (HI.out.alloc _) l1 (by omega)).mono ?_
  rintro e w1 ⟨rfl, on1, own1⟩
  have t1 : Turned b0 w0.heap.size _ w1 := Turned.of_onlyG on1 (by simp; omega) (fun k hk => hbi k hk)
  have s1 := onlyG_own on1 (HV.out.alloc _) (fun k hk => hiE k hk)
  have u1 := onlyG_own on1 (HO.out.alloc _) (fun k hk => by have := hiE k hk; omega)
  have v1 : OwnLnX w1 b3 _ ps := ⟨onlyG_own on1 (HX.out.1.alloc _) (fun k hk => by have := hiE k hk; omega), fun i hi => onlyG_own on1 ((HX.out.2 i hi).alloc _) (fun k hk => by have := hiE k hk; omega)⟩
  have d2 := t1.abv (b := w.heap.size) (o := 2) hnz (by simp)
  have d3 := t1.abv (b := w.heap.size) (o := 3) hnz (by simp)
  have d5 := t1.abv (b := w.heap.size) (o := 5) hnz (by simp)
  simp at d2 d3 d5
  have z1 := Below.size t1.1
  simp only [World.size_alloc] at z1
  go_wp2_with fail
  refine (markStringS_at _ _ p.vars b1 (1 + p.inputs.length) _ (by omega) s1 l2 (by omega)).mono ?_
  rintro e w2 ⟨rfl, on2, own2⟩
  have t2 : Turned b0 w0.heap.size _ w2 := Turned.of_onlyG on2 (by omega) (fun k hk => by have := hbv k hk; omega)
  have u2 := onlyG_own on2 u1 (fun k hk => hvE k hk)
  have v2 : OwnLnX w2 b3 _ ps := ⟨onlyG_own on2 v1.1 (fun k hk => by have := hvE k hk; omega), fun i hi => onlyG_own on2 (v1.2 i hi) (fun k hk => by have := hvE k hk; omega)⟩
  have e3 := (t2.abv (b := w.heap.size) (o := 3) hnz (by omega)).trans d3
  have e5 := (t2.abv (b := w.heap.size) (o := 5) hnz (by omega)).trans d5
  have z2 := Below.size t2.1
  clear d2 d3 d5 s1 u1 v1
  go_wp2_with fail
  refine (markStringS_at _ _ p.outputs b2 (1 + p.inputs.length + p.vars.length) _ (by omega) u2 l3 (by omega)).mono ?_
  rintro e w3 ⟨rfl, on3, own3⟩
  have t3 : Turned b0 w0.heap.size _ w3 := Turned.of_onlyG on3 (by omega) (fun k hk => by have := hbo k hk; omega)
  have v3 : OwnLnX w3 b3 _ ps := ⟨onlyG_own on3 v2.1 (fun k hk => hoE k hk), fun i hi => onlyG_own on3 (v2.2 i hi) (fun k hk => hoE k hk)⟩
  have g5 := (t3.abv (b := w.heap.size) (o := 5) hnz (by omega)).trans e5
  have z3 := Below.size t3.1
  clear e3 e5 u2 v2
  go_wp2_with fail
  refine (markLineS_at _ _ ps b3 w0.heap.size (1 + p.inputs.length + p.vars.length + p.outputs.length) _ (by omega) v3 hA hpl (by omega) (by omega) (fun x hx => (hbl x hx).2) htx.out HNT'.out).mono ?_
  rintro e w4 ⟨rfl, t4, _⟩
  go_wp2_with fail
  go_ret
  refine ⟨ret_int (by rw [cntPr, ← HCL.out]; omega), (((Turned.of_new (by omega) ((New.refl w).alloc _)).trans t1).trans t2).trans (t3.trans ⟨Below.mono t4.1 (by omega), t4.2⟩)⟩
end Go.Proofs.YtadoocadohdfcaaDoor

namespace Go.Proofs.YtadoocadohdfcaaDoor
open Go Go.Proofs Go.RowKit
set_option linter.unusedVariables false
set_option linter.unusedSimpArgs false
set_option maxRecDepth 100000
/-- The lines that a marking lays. -/
def mkD (k : Nat) : List LineD → List LineD
  | [] => []
  | l :: ls => mk1 k l :: mkD (k + (1 + l.terms.length * 3)) ls
theorem mkD_length : ∀ (k : Nat) (ls : List LineD), (mkD k ls).length = ls.length
  | _, [] => rfl
  | k, l :: ls => by rw [mkD, List.length_cons, mkD_length, List.length_cons]
theorem cntL_next {ls : List LineD} {j : Nat} (h : j < ls.length) : cntL (ls.take (j + 1)) = cntL (ls.take j) + (1 + ls[j].terms.length * 3) := by
  induction ls generalizing j with
  | nil => simp at h
  | cons l ls ih =>
    cases j with
    | zero => simp [cntL]
    | succ j =>
      have := ih (j := j) (by simpa using h)
      simp only [List.take_succ_cons, cntL, List.getElem_cons_succ] at this ⊢
      omega
theorem cntL_take (ls : List LineD) (j : Nat) : cntL (ls.take j) ≤ cntL ls := by
  induction ls generalizing j with
  | nil => simp
  | cons l ls ih =>
    cases j with
    | zero => simp [cntL]
    | succ j => have := ih j; simp only [List.take_succ_cons, cntL]; omega
theorem mkD_get : ∀ (k : Nat) (ls : List LineD) (j : Nat) (h : j < ls.length), (mkD k ls)[j]'(by rw [mkD_length]; exact h) = mk1 (k + cntL (ls.take j)) ls[j]
  | k, l :: ls, 0, _ => by simp [mkD, cntL]
  | k, l :: ls, j + 1, h => by
    have := mkD_get (k + (1 + l.terms.length * 3)) ls j (by simpa using h)
    simp only [mkD, List.getElem_cons_succ, List.take_succ_cons, cntL] at this ⊢
    rw [this]; congr 1; omega
theorem mkLs_fst : ∀ (k : Nat) (ps : List LV), (mkLs k ps).map Prod.fst = mkD k (ps.map Prod.fst)
  | _, [] => rfl
  | k, p :: ps => by rw [mkLs, List.map_cons, List.map_cons, mkD, mkLs_fst]
theorem heldTermS_at (x : Int) (v : Value) (k n : Nat) (w : World) (hx : x = (k : Int)) (hv : Rd w v n ((marksE (mkTerm k) n).flatMap encTerm)) (hn : n ≤ 1048576) (hk : k ≤ 1048576000) :
    Calls Tryd.prog 84 #[v, .int .i64 x] w fun e w' => e = .returned (.int .i64 ((k + n * 3 : Nat) : Int)) ∧ New w w' := by subst hx; exact heldTermS_any v k n w hv hn hk
set_option maxHeartbeats 1600000 in
theorem heldLineS_any (v : Value) (ls : List LineD) (k : Nat) (w : World) (hv : RdLn w v (mkD k ls)) (hn : ls.length ≤ 1048576) (hk : k + cntL ls ≤ 1048576000) (hnt : ∀ l ∈ ls, l.terms.length ≤ 1048576) :
    Calls Tryd.prog 54 #[v, .int .i64 k] w fun e w' => e = .returned (.int .i64 ((k + cntL ls : Nat) : Int)) ∧ New w w' := by
  obtain ⟨ps, hps, h1, h2⟩ := hv
  have hl : ps.length = ls.length := by have := congrArg List.length hps; simpa [mkD_length] using this
  have hl1 : ls.length ≤ ps.length := by omega
  have hl2 : ps.length ≤ ls.length := by omega
  clear hl
  have HE := Lib.hid (fun (j : Nat) (h : j < ls.length) => (by
    have e1 : (ps[j]'(by omega)).1 = (ps.map Prod.fst)[j]'(by rw [List.length_map]; omega) := by rw [List.getElem_map]
    have e2 := mkD_get k ls j h
    rw [e1, ← e2]; congr 1 : (ps[j]'(by omega)).1 = mk1 (k + cntL (ls.take j)) ls[j]))
  obtain ⟨a, cap, rfl, hm, HC⟩ := Rd.flat encLV_len (by omega) h1
  clear h1 hps
  have H2 := Lib.hid h2; clear h2
  have HNT := Lib.hid hnt; clear hnt
  go_enter Tryd.func54, Tryd.ntmps54
  go_wp2_with fail
  go_loopw [1, 5] (fun kk i wr => ∃ j : Nat, j ≤ ps.length ∧ i = .int .i64 j ∧ kk = .int .i64 ((k + cntL (ls.take j) : Nat) : Int) ∧ New w wr) (fun _ i _ => ps.length - (intOf i).toNat)
  case atStart => exact ⟨0, Nat.zero_le _, rfl, by simp [cntL], New.refl _⟩
  case round =>
    obtain ⟨j, hj, rfl, rfl, hb⟩ := hrel
    obtain ⟨cc, f'⟩ := hb.rules
    have hbz := hb.size
    by_cases hlt0 : j < ps.length
    · have hlt : j < ls.length := by omega
      obtain ⟨b, off, rfl, hbl, hx⟩ := HC.out j (by omega)
      have x0 := hx 0 _ (by omega) rfl
      have x1 := hx 1 _ (by omega) rfl
      rw [Nat.add_zero] at x0
      replace hx := Lib.hid hx
      have he := HE.out j hlt
      have HT := H2.out ps[j] (List.getElem_mem (by omega))
      rw [he] at x0 HT
      simp only [mk1, marksE_length] at x0 HT
      clear he
      have HTT := Lib.hid HT; clear HT
      have hcn := cntL_next hlt
      have hct := cntL_take ls (j + 1)
      have hmt := HNT.out ls[j] (List.getElem_mem hlt)
      have hbw : b < wr.heap.size := by omega
      have hcm : k + cntL (ls.take j) + 1 ≤ 1048576000 := by omega
      replace hcn := Lib.hid hcn
      generalize hC : cntL (ls.take j) = C at *
      generalize (ps[j]'(by omega)).2 = tv at *
      generalize ls[j].terms.length = m at *
      go_wp2_with fail
      have hq11 := fun (nn : NewOf wr) b o => NewOf.cell nn b o
      refine wp_region_new (by kernel_rfl) (by kernel_rfl) ?_
      repeat (first | go_big_quiet_skip | go_big_quiet_step ((first | exact newq (markText_at _ (k + C) _ (by omega) (by omega)))) | quiet_step ((first | exact newq (markText_at _ (k + C) _ (by omega) (by omega)))))
      refine wpQuiet_nil ?_
      rintro ⟨w11, b11⟩
      dsimp only
      try with_reducible replace b11 := New.undrawN b11
      try with_reducible replace b11 := New.undraw b11
      obtain ⟨c11, f11⟩ := b11.rules
      have z11 := b11.size
      try simp only [World.size_alloc, World.size_drew, World.heap_drewN, World.size_setCell] at z11
      have z11_0 : b < w11.heap.size := by omega
      go_wp2_with fail
      refine (heldTermS_at _ _ (k + C + 1) m _ (by omega) (Rd.new HTT.out (hb.trans b11)) hmt (by omega)).mono ?_
      rintro e w12 ⟨rfl, b12⟩
      go_wp2_with fail
      go_roundw
      case rel => exact ⟨j + 1, by omega, by go_num, by rw [hcn.out]; go_num, (hb.trans b11).trans b12⟩
      case measure => simp [intOf]; omega
    · obtain rfl : j = ps.length := by omega
      have HT := Lib.hid (show ls.take ps.length = ls from List.take_of_length_le (by omega))
      go_wp2_with fail
      go_ret
      exact ⟨by rw [HT.out]; rfl, hb⟩
theorem own_belowT {B E : Nat} {w w' : World} {base : Nat} {e : TypeId} {sz : Nat} {v : Value} {n : Nat} {cs : List Value} (h : Turned B E w w') (hu : w.ownsRow base e sz v n cs) (hb : ∀ k, v.ownBlock = some k → k < B) : w'.ownsRow base e sz v n cs := by
  refine ⟨hu.1, ?_⟩
  rcases hu.2 with hn | ⟨g, cap, cur, rfl, hg, hgg, rest⟩
  · exact .inl hn
  · exact .inr ⟨g, cap, cur, rfl, hg, (Below.block h.1 g (hb g rfl)).trans hgg, rest⟩
/-- The program that a marking lays. -/
def mkP (p : ProgD) : ProgD := ⟨p.name, marksE (mkString 1) p.inputs.length, marksE (mkString (1 + p.inputs.length)) p.vars.length, marksE (mkString (1 + p.inputs.length + p.vars.length)) p.outputs.length, p.guard, mkD (1 + p.inputs.length + p.vars.length + p.outputs.length) p.lines⟩
theorem rdS_marks {w : World} {base : Nat} {e : TypeId} {v : Value} {n k : Nat} (h : w.ownsRow base e 1 v n ((marksE (mkString k) n).map Value.string)) : RdS w v (marksE (mkString k) n) := by
  have := own_rd h; rwa [RdS, marksE_length]
set_option maxHeartbeats 3200000 in
theorem markProgram2_any (p : ProgD) (iv vv ov lv : Value) (b0 b1 b2 b3 : Nat) (w0 w : World) (h : OwnP w0 b0 b1 b2 b3 p iv vv ov lv) (n : New w0 w) (hf : FitP p) (hc : cntPr p ≤ 8388608) :
    Calls Tryd.prog 11 #[valP p iv vv ov lv, .int .i64 1] w fun e w' => e = .returned (.int .i64 ((1 + cntPr p : Nat) : Int)) ∧ Turned b0 w0.heap.size w w' ∧ RdP w' (mkP p) iv vv ov lv := by
  obtain ⟨hi, hiE, hv, hvE, ho, hoE, ⟨ps, hps, hX, hA⟩, o1, o2, o3, o4⟩ := h
  have hnz := n.size
  have hbi := own_block_lt hi
  have hbv := own_block_lt hv
  have hbo := own_block_lt ho
  have hbl := own_block_lt hX.1
  have hcl : cntP ps = cntL p.lines := by rw [cntP, hps]
  have htx := Lib.hid (fun i (hi : i < ps.length) x (hx : (ps[i]).2.ownBlock = some x) => (own_block_lt (hX.2 i hi) x hx).2)
  have hpl : ps.length ≤ 1048576 := by have := hf.linesl; rw [← hps, List.length_map] at this; exact this
  have hcc := Lib.hid hc
  rw [cntPr] at hc
  have HI := Lib.hid (own_new hi n); have HV := Lib.hid (own_new hv n); have HO := Lib.hid (own_new ho n); have HX := Lib.hid (hX.new n)
  have HNT : ∀ i (h : i < ps.length), (ps[i]).1.terms.length ≤ 1048576 := fun i h => (hf.lines ps[i].1 (by rw [← hps]; exact List.mem_map_of_mem (List.getElem_mem h))).2.2
  have l1 := hf.insl
  have l2 := hf.varsl
  have l3 := hf.outsl
  have HNT' := Lib.hid HNT
  have HPS := Lib.hid hps
  have HCL := Lib.hid hcl
  rw [← hcl] at hc
  clear hi hv ho hX hps HNT hcl n
  obtain ⟨ia, ic, rfl⟩ := own_slice HI.out
  obtain ⟨ja, jc, rfl⟩ := own_slice HV.out
  obtain ⟨oa, oc, rfl⟩ := own_slice HO.out
  obtain ⟨la, lc, rfl⟩ := own_slice HX.out.1
  go_enter Tryd.func11, Tryd.ntmps11
  go_wp2_with fail
  refine (markStringS_any _ p.inputs b0 1 _ (HI.out.alloc _) l1 (by omega)).mono ?_
  rintro e w1 ⟨rfl, on1, own1⟩
  have t1 : Turned b0 w0.heap.size _ w1 := Turned.of_onlyG on1 (by simp; omega) (fun k hk => hbi k hk)
  have s1 := onlyG_own on1 (HV.out.alloc _) (fun k hk => hiE k hk)
  have u1 := onlyG_own on1 (HO.out.alloc _) (fun k hk => by have := hiE k hk; omega)
  have v1 : OwnLnX w1 b3 _ ps := ⟨onlyG_own on1 (HX.out.1.alloc _) (fun k hk => by have := hiE k hk; omega), fun i hi => onlyG_own on1 ((HX.out.2 i hi).alloc _) (fun k hk => by have := hiE k hk; omega)⟩
  have d2 := t1.abv (b := w.heap.size) (o := 2) hnz (by simp)
  have d3 := t1.abv (b := w.heap.size) (o := 3) hnz (by simp)
  have d5 := t1.abv (b := w.heap.size) (o := 5) hnz (by simp)
  simp at d2 d3 d5
  have z1 := Below.size t1.1
  simp only [World.size_alloc] at z1
  go_wp2_with fail
  refine (markStringS_at _ _ p.vars b1 (1 + p.inputs.length) _ (by omega) s1 l2 (by omega)).mono ?_
  rintro e w2 ⟨rfl, on2, own2⟩
  have t2 : Turned b0 w0.heap.size _ w2 := Turned.of_onlyG on2 (by omega) (fun k hk => by have := hbv k hk; omega)
  have u2 := onlyG_own on2 u1 (fun k hk => hvE k hk)
  have v2 : OwnLnX w2 b3 _ ps := ⟨onlyG_own on2 v1.1 (fun k hk => by have := hvE k hk; omega), fun i hi => onlyG_own on2 (v1.2 i hi) (fun k hk => by have := hvE k hk; omega)⟩
  have e3 := (t2.abv (b := w.heap.size) (o := 3) hnz (by omega)).trans d3
  have e5 := (t2.abv (b := w.heap.size) (o := 5) hnz (by omega)).trans d5
  have z2 := Below.size t2.1
  have M1 := Lib.hid (own_apart on2 own1 (fun i j hi hj e => by have h1 := (hbv i hi).1; have h2 := hiE j hj; omega))
  clear d2 d3 d5 s1 u1 v1 own1
  go_wp2_with fail
  refine (markStringS_at _ _ p.outputs b2 (1 + p.inputs.length + p.vars.length) _ (by omega) u2 l3 (by omega)).mono ?_
  rintro e w3 ⟨rfl, on3, own3⟩
  have t3 : Turned b0 w0.heap.size _ w3 := Turned.of_onlyG on3 (by omega) (fun k hk => by have := hbo k hk; omega)
  have v3 : OwnLnX w3 b3 _ ps := ⟨onlyG_own on3 v2.1 (fun k hk => hoE k hk), fun i hi => onlyG_own on3 (v2.2 i hi) (fun k hk => hoE k hk)⟩
  have g5 := (t3.abv (b := w.heap.size) (o := 5) hnz (by omega)).trans e5
  have z3 := Below.size t3.1
  have P1 := Lib.hid (own_apart on3 M1.out (fun i j hi hj e => by have h1 := (hbo i hi).1; have h2 := hiE j hj; omega))
  have P2 := Lib.hid (own_apart on3 own2 (fun i j hi hj e => by have h1 := (hbo i hi).1; have h2 := hvE j hj; omega))
  have P3 := Lib.hid own3
  clear e3 e5 u2 v2 M1 own2 own3
  go_wp2_with fail
  refine (markLineS_at _ _ ps b3 w0.heap.size (1 + p.inputs.length + p.vars.length + p.outputs.length) _ (by omega) v3 hA hpl (by omega) (by omega) (fun x hx => (hbl x hx).2) htx.out HNT'.out).mono ?_
  rintro e w4 ⟨rfl, t4, q4⟩
  have R1 := Lib.hid (rdS_marks (own_belowT t4 P1.out (fun k hk => by have h2 := hiE k hk; omega)))
  have R2 := Lib.hid (rdS_marks (own_belowT t4 P2.out (fun k hk => by have h2 := hvE k hk; omega)))
  have R3 := Lib.hid (rdS_marks (own_belowT t4 P3.out (fun k hk => by have h2 := hoE k hk; omega)))
  have hml := mkLs_fst (1 + p.inputs.length + p.vars.length + p.outputs.length) ps
  rw [HPS.out] at hml
  have R4 : Hid (RdLn w4 (.slice la ps.length lc) (mkD (1 + p.inputs.length + p.vars.length + p.outputs.length) p.lines)) :=
    Lib.hid ⟨_, hml, own_rd q4.1, fun q hq => by obtain ⟨i, hi, rfl⟩ := List.mem_iff_getElem.1 hq; exact own_rd (q4.2 i hi)⟩
  clear q4 hml v3
  go_wp2_with fail
  go_ret
  refine ⟨ret_int (by rw [cntPr, ← HCL.out]; omega), (((Turned.of_new (by omega) ((New.refl w).alloc _)).trans t1).trans t2).trans (t3.trans ⟨Below.mono t4.1 (by omega), t4.2⟩), R1.out, R2.out, R3.out, R4.out⟩
theorem heldStringS_at (x : Int) (v : Value) (k n : Nat) (w : World) (hx : x = (k : Int)) (hv : RdS w v (marksE (mkString k) n)) (hn : n ≤ 1048576) (hk : k ≤ 1048576000) :
    Calls Tryd.prog 53 #[v, .int .i64 x] w fun e w' => e = .returned (.int .i64 ((k + n : Nat) : Int)) ∧ New w w' := by subst hx; exact heldStringS_any v k n w hv hn hk
theorem heldLineS_at (x : Int) (v : Value) (ls : List LineD) (k : Nat) (w : World) (hx : x = (k : Int)) (hv : RdLn w v (mkD k ls)) (hn : ls.length ≤ 1048576) (hk : k + cntL ls ≤ 1048576000) (hnt : ∀ l ∈ ls, l.terms.length ≤ 1048576) :
    Calls Tryd.prog 54 #[v, .int .i64 x] w fun e w' => e = .returned (.int .i64 ((k + cntL ls : Nat) : Int)) ∧ New w w' := by subst hx; exact heldLineS_any v ls k w hv hn hk hnt
set_option maxHeartbeats 1600000 in
theorem heldProgram_any (p : ProgD) (iv vv ov lv : Value) (w : World) (h : RdP w (mkP p) iv vv ov lv) (hf : FitP p) (hc : cntPr p ≤ 8388608) :
    Calls Tryd.prog 12 #[valP p iv vv ov lv, .int .i64 1] w fun e w' => e = .returned (.int .i64 ((1 + cntPr p : Nat) : Int)) ∧ New w w' := by
  have H1 := Lib.hid h.ins
  have H2 := Lib.hid h.vars
  have H3 := Lib.hid h.outs
  have H4 := Lib.hid h.lines
  dsimp only [mkP] at H1 H2 H3 H4
  have l1 := hf.insl
  have l2 := hf.varsl
  have l3 := hf.outsl
  have l4 := hf.linesl
  have HT := Lib.hid (fun l (hl : l ∈ p.lines) => (hf.lines l hl).2.2)
  have HC := Lib.hid (rfl : cntPr p = cntPr p)
  have hcc : cntPr p = p.inputs.length + p.vars.length + p.outputs.length + cntL p.lines := rfl
  rw [hcc] at hc ⊢
  clear h hf hcc HC
  generalize p.inputs.length = n1 at *
  generalize p.vars.length = n2 at *
  generalize p.outputs.length = n3 at *
  generalize hC : cntL p.lines = C at *
  replace hC := Lib.hid hC
  go_enter Tryd.func12, Tryd.ntmps12
  go_wp2_with fail
  refine (heldStringS_any _ 1 n1 _ (Rd.new H1.out (by repeat (first | with_reducible exact New.refl _ | with_reducible assumption | with_reducible refine New.drew ?_ | with_reducible refine New.drewN ?_ _ | with_reducible refine New.alloc ?_ _ | with_reducible refine New.setCell ?_ (by first | (simp; done) | (simp; omega) | omega) _ | with_reducible refine New.trans ?_ (by with_reducible assumption)))) l1 (by omega)).mono ?_; rintro e w1 ⟨rfl, b1⟩
  try with_reducible replace b1 := New.undrawN b1
  try with_reducible replace b1 := New.undraw b1
  obtain ⟨c1, f1⟩ := b1.rules
  have z1 := b1.size
  try simp only [World.size_alloc, World.size_drew, World.heap_drewN, World.size_setCell] at z1
  have z1_0 : w.heap.size < w1.heap.size := by omega
  go_wp2_with fail
  refine (heldStringS_at _ _ (1 + n1) n2 _ (by omega) (Rd.new H2.out (by repeat (first | with_reducible exact New.refl _ | with_reducible assumption | with_reducible refine New.drew ?_ | with_reducible refine New.drewN ?_ _ | with_reducible refine New.alloc ?_ _ | with_reducible refine New.setCell ?_ (by first | (simp; done) | (simp; omega) | omega) _ | with_reducible refine New.trans ?_ (by with_reducible assumption)))) l2 (by omega)).mono ?_; rintro e w2 ⟨rfl, b2⟩
  try with_reducible replace b2 := New.undrawN b2
  try with_reducible replace b2 := New.undraw b2
  obtain ⟨c2, f2⟩ := b2.rules
  have z2 := b2.size
  try simp only [World.size_alloc, World.size_drew, World.heap_drewN, World.size_setCell] at z2
  have z2_0 : w.heap.size < w2.heap.size := by omega
  go_wp2_with fail
  refine (heldStringS_at _ _ (1 + n1 + n2) n3 _ (by omega) (Rd.new H3.out (by repeat (first | with_reducible exact New.refl _ | with_reducible assumption | with_reducible refine New.drew ?_ | with_reducible refine New.drewN ?_ _ | with_reducible refine New.alloc ?_ _ | with_reducible refine New.setCell ?_ (by first | (simp; done) | (simp; omega) | omega) _ | with_reducible refine New.trans ?_ (by with_reducible assumption)))) l3 (by omega)).mono ?_; rintro e w3 ⟨rfl, b3⟩
  try with_reducible replace b3 := New.undrawN b3
  try with_reducible replace b3 := New.undraw b3
  obtain ⟨c3, f3⟩ := b3.rules
  have z3 := b3.size
  try simp only [World.size_alloc, World.size_drew, World.heap_drewN, World.size_setCell] at z3
  have z3_0 : w.heap.size < w3.heap.size := by omega
  go_wp2_with fail
  refine (heldLineS_at _ _ p.lines (1 + n1 + n2 + n3) _ (by omega) (H4.out.new (by repeat (first | with_reducible exact New.refl _ | with_reducible assumption | with_reducible refine New.drew ?_ | with_reducible refine New.drewN ?_ _ | with_reducible refine New.alloc ?_ _ | with_reducible refine New.setCell ?_ (by first | (simp; done) | (simp; omega) | omega) _ | with_reducible refine New.trans ?_ (by with_reducible assumption)))) l4 (by rw [hC.out]; omega) HT.out).mono ?_; rintro e w4 ⟨rfl, b4⟩
  try with_reducible replace b4 := New.undrawN b4
  try with_reducible replace b4 := New.undraw b4
  obtain ⟨c4, f4⟩ := b4.rules
  have z4 := b4.size
  try simp only [World.size_alloc, World.size_drew, World.heap_drewN, World.size_setCell] at z4
  have z4_0 : w.heap.size < w4.heap.size := by omega
  go_wp2_with fail
  go_ret
  exact ⟨ret_int (by rw [hC.out]; omega), (by repeat (first | with_reducible exact New.refl _ | with_reducible assumption | with_reducible refine New.drew ?_ | with_reducible refine New.drewN ?_ _ | with_reducible refine New.alloc ?_ _ | with_reducible refine New.setCell ?_ (by first | (simp; done) | (simp; omega) | omega) _ | with_reducible refine New.trans ?_ (by with_reducible assumption)))⟩
end Go.Proofs.YtadoocadohdfcaaDoor
