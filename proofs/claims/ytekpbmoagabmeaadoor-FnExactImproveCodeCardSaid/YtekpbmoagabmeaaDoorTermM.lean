/- Contracts: the laws' marks on lists of terms. -/
import Derived.Test.YtekpbmoagabmeaaDoorProg
import Derived.Test.YtekpbmoagabmeaaDoorTermS
import Derived.Test.YtekpbmoagabmeaaDoorGrew
namespace Go.Proofs.YtekpbmoagabmeaaDoor
open Go Go.Proofs Go.RowKit
set_option linter.unusedVariables false
set_option linter.unusedSimpArgs false
set_option maxRecDepth 100000
def mkTerm (k : Nat) (j : Nat) : ETerm := ⟨((k + j * 3 : Nat) : Int), markS (k + j * 3 + 1), ((k + j * 3 + 2 : Nat) : Int)⟩
set_option maxHeartbeats 1600000 in
theorem markTermS_any (v : Value) (xs : List ETerm) (base k : Nat) (w : World) (hv : w.ownsRow base 56 3 v xs.length (xs.flatMap encTerm)) (hn : xs.length ≤ 1048576) (hk : k ≤ 1048576000) :
    Calls Tryd.prog 33 #[v, .int .i64 k] w (MarkedG encTerm 3 (mkTerm k) v base xs.length (k + xs.length * 3) 56 w) := by
  by_cases h0 : xs.length = 0
  · have hx : xs = [] := List.eq_nil_of_length_eq_zero h0
    subst hx
    obtain ⟨a, cap, hve⟩ := own_slice hv
    subst hve
    go_enter Tryd.func33, Tryd.ntmps33
    go_wp2_with fail
    refine wp_loop_rounds 1 ?_
    rw [rounds_succ]
    go_wp2_with fail
    go_ret
    exact ⟨rfl, OnlyG.refl _ _, hv⟩
  · obtain ⟨g, cap, rfl⟩ : ∃ g cap, v = .slice (some ⟨g, 0, none⟩) xs.length cap := by
      rcases hv.2 with ⟨_, h⟩ | ⟨g, cap, cur, h, _⟩
      · exact absurd h h0
      · exact ⟨g, cap, h⟩
    clear h0
    go_enter Tryd.func33, Tryd.ntmps33
    go_wp2_with fail
    go_loopw [1, 5] (fun kk i wr => ∃ j : Nat, j ≤ xs.length ∧ i = .int .i64 j ∧ kk = .int .i64 ((k + j * 3 : Nat) : Int) ∧ OnlyG (.slice (some ⟨g, 0, none⟩) xs.length cap) w wr ∧ wr.ownsRow base 56 3 (.slice (some ⟨g, 0, none⟩) xs.length cap) xs.length ((marksE (mkTerm k) j ++ xs.drop j).flatMap encTerm)) (fun _ i _ => xs.length - (intOf i).toNat)
    case atStart => exact ⟨0, Nat.zero_le _, rfl, by simp, OnlyG.refl _ _, by simpa [marksE] using hv⟩
    case round =>
      obtain ⟨j, hj, rfl, rfl, ho, hown⟩ := hrel
      clear hv
      by_cases hlt : j < xs.length
      · have hln := marksE_len (mkTerm k) xs j hj
        have hdn : ∀ i u, i < 3 → (encTerm xs[j])[i]? = some u → wr.cell? ⟨g, j * 3 + i, none⟩ = some u := fun i u hi hu => by
          rw [hown.cellAt (j * 3 + i) (by omega), flat_at encTerm 3 encTerm_len _ j (by rw [hln]; exact hlt) i hi, marksE_at _ _ _ hlt, hu]
        have d0 := hdn 0 _ (by omega) rfl
        have d1 := hdn 1 _ (by omega) rfl
        have d2 := hdn 2 _ (by omega) rfl
        rw [Nat.add_zero] at d0
        clear hdn
        have f0 := hown.frozenAt (j * 3)
        have f1 := hown.frozenAt (j * 3 + 1)
        have f2 := hown.frozenAt (j * 3 + 2)
        clear hln
        have hgw : g < wr.heap.size := (own_block_lt hown g rfl).2
        go_wp2_with fail
        refine (markText_at _ (k + j * 3 + 1) _ (by omega) (by omega)).mono ?_; rintro e w11 ⟨rfl, b11⟩
        try with_reducible replace b11 := New.undrawN b11
        try with_reducible replace b11 := New.undraw b11
        obtain ⟨c11, f11⟩ := b11.rules
        have z11 := b11.size
        try simp only [World.size_alloc, World.size_drew, World.heap_drewN, World.size_setCell] at z11
        have z11_0 : g < w11.heap.size := by omega
        go_wp2_with fail
        go_roundw
        case rel =>
          have h1 := (((own_new (hown.stored (j * 3) (.int .i64 (((k + j * 3 : Nat) : Int)))).1 b11).stored (j * 3 + 1) (.string (markS (k + j * 3 + 1)))).1.stored (j * 3 + 2) (.int .i64 (((k + j * 3 + 2 : Nat) : Int)))).1
          have h2 := set_flat2 encTerm 3 encTerm_len (marksE (mkTerm k) j ++ xs.drop j) j (by rw [marksE_len _ _ _ hj]; exact hlt) (mkTerm k j)
          rw [marksE_set _ _ _ hlt] at h2
          simp only [setFrom, encTerm, mkTerm] at h2
          rw [h2] at h1
          refine ⟨j + 1, by omega, by go_num, by go_num, ?_⟩
          try simp only [Int.natCast_add, Int.natCast_mul, Int.natCast_one, Int.cast_ofNat_Int, Int.add_assoc, Int.reduceAdd, Nat.cast_ofNat] at h1 ⊢
          exact ⟨((((ho.set rfl _).more b11).set rfl _).set rfl _), h1⟩
        case measure => simp [intOf]; omega
      · obtain rfl : j = xs.length := by omega
        go_wp2_with fail
        go_ret
        exact ⟨rfl, ho, by simpa using hown⟩
set_option maxHeartbeats 1600000 in
theorem heldTermS_any (v : Value) (k n : Nat) (w : World) (hv : Rd w v n ((marksE (mkTerm k) n).flatMap encTerm)) (hn : n ≤ 1048576) (hk : k ≤ 1048576000) :
    Calls Tryd.prog 35 #[v, .int .i64 k] w fun e w' => e = .returned (.int .i64 ((k + n * 3 : Nat) : Int)) ∧ New w w' := by
  have hl := marksE_length (mkTerm k) n
  obtain ⟨a, cap, rfl, hm, HC⟩ := Rd.flat (xs := marksE (mkTerm k) n) encTerm_len (by omega) (by rw [hl]; exact hv)
  rw [hl] at hm ⊢
  clear hv
  go_enter Tryd.func35, Tryd.ntmps35
  go_wp2_with fail
  go_loopw [1, 5] (fun kk i wr => ∃ j : Nat, j ≤ n ∧ i = .int .i64 j ∧ kk = .int .i64 ((k + j * 3 : Nat) : Int) ∧ New w wr) (fun _ i _ => n - (intOf i).toNat)
  case atStart => exact ⟨0, Nat.zero_le _, rfl, by simp, New.refl _⟩
  case round =>
    obtain ⟨j, hj, rfl, rfl, hb⟩ := hrel
    obtain ⟨cc, f'⟩ := hb.rules
    have hbz := hb.size
    by_cases hlt : j < n
    · obtain ⟨b, off, rfl, hbl, hx⟩ := HC.out j (by rw [hl]; exact hlt)
      rw [marksE_get _ n j hlt] at hx
      have x0 := hx 0 _ (by omega) rfl
      have x1 := hx 1 _ (by omega) rfl
      have x2 := hx 2 _ (by omega) rfl
      rw [Nat.add_zero] at x0
      simp only [mkTerm] at x0
      simp only [mkTerm] at x1
      simp only [mkTerm] at x2
      replace hx := Lib.hid hx
      have hbw : b < wr.heap.size := by omega
      clear hl
      go_wp2_with fail
      have hq11 := fun (nn : NewOf wr) b o => NewOf.cell nn b o
      refine wp_region_new (by kernel_rfl) (by kernel_rfl) ?_
      repeat (first | go_big_quiet_skip | go_big_quiet_step ((first | exact newq (markText_at _ (k + j * 3 + 1) _ (by omega) (by omega)))) | quiet_step ((first | exact newq (markText_at _ (k + j * 3 + 1) _ (by omega) (by omega)))))
      refine wpQuiet_nil ?_
      rintro ⟨w11, b11⟩
      dsimp only
      try with_reducible replace b11 := New.undrawN b11
      try with_reducible replace b11 := New.undraw b11
      obtain ⟨c11, f11⟩ := b11.rules
      have z11 := b11.size
      try simp only [World.size_alloc, World.size_drew, World.heap_drewN, World.size_setCell] at z11
      have z11_0 : b < w11.heap.size := by omega
      go_wp2_with fail
      go_roundw
      case rel => exact ⟨j + 1, by omega, by go_num, by go_num, (by repeat (first | with_reducible exact New.refl _ | with_reducible assumption | with_reducible refine New.drew ?_ | with_reducible refine New.drewN ?_ _ | with_reducible refine New.alloc ?_ _ | with_reducible refine New.setCell ?_ (by first | (simp; done) | (simp; omega) | omega) _ | with_reducible refine New.trans ?_ (by with_reducible assumption)))⟩
      case measure => simp [intOf]; omega
    · obtain rfl : j = n := by omega
      go_wp2_with fail
      go_ret
      exact ⟨rfl, hb⟩
end Go.Proofs.YtekpbmoagabmeaaDoor
