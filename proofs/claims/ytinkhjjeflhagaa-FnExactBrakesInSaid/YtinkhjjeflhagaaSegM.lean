/- Contracts: the laws' mark of segments and layouts. -/
import Derived.Test.YtinkhjjeflhagaaProg
import Derived.Test.YtinkhjjeflhagaaSegS
import Derived.Test.YtinkhjjeflhagaaInts
namespace Go.Proofs.Ytinkhjjeflhagaa
open Go Go.Proofs Go.RowKit
set_option linter.unusedVariables false
set_option linter.unusedSimpArgs false
set_option maxRecDepth 100000

set_option maxHeartbeats 1600000 in
theorem markSegmentS_any (v : Value) (xs : List ESegment) (base k : Nat) (w : World) (hv : w.ownsRow base 48 7 v xs.length (xs.flatMap encSegment)) (hn : xs.length ≤ 1048576) (hk : k ≤ 1048576000) :
    Calls Try.prog 23 #[v, .int .i64 k] w (MarkedE encSegment 7 (mkSegment k) v base xs.length (k + xs.length * 7) 48 w) := by
  by_cases h0 : xs.length = 0
  · have hx : xs = [] := List.eq_nil_of_length_eq_zero h0
    subst hx
    obtain ⟨a, cap, hve⟩ := own_slice hv
    subst hve
    go_enter Try.func23, Try.ntmps23
    go_wp2_with fail
    refine wp_loop_rounds 1 ?_
    rw [rounds_succ]
    go_wp2_with fail
    go_ret
    exact ⟨rfl, Only.refl _ _, hv⟩
  · obtain ⟨g, cap, rfl⟩ : ∃ g cap, v = .slice (some ⟨g, 0, none⟩) xs.length cap := by
      rcases hv.2 with ⟨_, h⟩ | ⟨g, cap, cur, h, _⟩
      · exact absurd h h0
      · exact ⟨g, cap, h⟩
    clear h0
    go_enter Try.func23, Try.ntmps23
    go_wp2_with fail
    go_loopw [1, 5] (fun kk i wr => ∃ j : Nat, j ≤ xs.length ∧ i = .int .i64 j ∧ kk = .int .i64 ((k + j * 7 : Nat) : Int) ∧ Only (.slice (some ⟨g, 0, none⟩) xs.length cap) w wr ∧ wr.ownsRow base 48 7 (.slice (some ⟨g, 0, none⟩) xs.length cap) xs.length ((marksE (mkSegment k) j ++ xs.drop j).flatMap encSegment)) (fun _ i _ => xs.length - (intOf i).toNat)
    case atStart => exact ⟨0, Nat.zero_le _, rfl, by simp, Only.refl _ _, by simpa [marksE] using hv⟩
    case round =>
      obtain ⟨j, hj, rfl, rfl, ho, hown⟩ := hrel
      clear hv
      by_cases hlt : j < xs.length
      · have hln := marksE_len (mkSegment k) xs j hj
        have hdn : ∀ i u, i < 7 → (encSegment xs[j])[i]? = some u → wr.cell? ⟨g, j * 7 + i, none⟩ = some u := fun i u hi hu => by
          rw [hown.cellAt (j * 7 + i) (by omega), flat_at encSegment 7 encSegment_len _ j (by rw [hln]; exact hlt) i hi, marksE_at _ _ _ hlt, hu]
        have d0 := hdn 0 _ (by omega) rfl
        have d1 := hdn 1 _ (by omega) rfl
        have d2 := hdn 2 _ (by omega) rfl
        have d3 := hdn 3 _ (by omega) rfl
        have d4 := hdn 4 _ (by omega) rfl
        have d5 := hdn 5 _ (by omega) rfl
        have d6 := hdn 6 _ (by omega) rfl
        rw [Nat.add_zero] at d0
        clear hdn
        have f0 := hown.frozenAt (j * 7)
        have f1 := hown.frozenAt (j * 7 + 1)
        have f2 := hown.frozenAt (j * 7 + 2)
        have f3 := hown.frozenAt (j * 7 + 3)
        have f4 := hown.frozenAt (j * 7 + 4)
        have f5 := hown.frozenAt (j * 7 + 5)
        have f6 := hown.frozenAt (j * 7 + 6)
        clear hln
        have hgw : g < wr.heap.size := (own_block_lt hown g rfl).2
        go_wp2_with fail
        go_roundw
        case rel =>
          have h1 := (((((((hown.stored (j * 7) (.int .i64 (((k + j * 7 : Nat) : Int)))).1.stored (j * 7 + 1) (.int .i64 (((k + j * 7 + 1 : Nat) : Int)))).1.stored (j * 7 + 2) (.int .i64 (((k + j * 7 + 2 : Nat) : Int)))).1.stored (j * 7 + 3) (.int .i64 (((k + j * 7 + 3 : Nat) : Int)))).1.stored (j * 7 + 4) (.int .i64 (((k + j * 7 + 4 : Nat) : Int)))).1.stored (j * 7 + 5) (.int .i64 (((k + j * 7 + 5 : Nat) : Int)))).1.stored (j * 7 + 6) (.int .i64 (((k + j * 7 + 6 : Nat) : Int)))).1
          have h2 := set_flat2 encSegment 7 encSegment_len (marksE (mkSegment k) j ++ xs.drop j) j (by rw [marksE_len _ _ _ hj]; exact hlt) (mkSegment k j)
          rw [marksE_set _ _ _ hlt] at h2
          simp only [setFrom, encSegment, mkSegment] at h2
          rw [h2] at h1
          refine ⟨j + 1, by omega, by go_num, by go_num, ?_⟩
          try simp only [Int.natCast_add, Int.natCast_mul, Int.natCast_one, Int.cast_ofNat_Int, Int.add_assoc, Int.reduceAdd, Nat.cast_ofNat] at h1 ⊢
          exact ⟨(((((((ho.set rfl _).set rfl _).set rfl _).set rfl _).set rfl _).set rfl _).set rfl _), h1⟩
        case measure => simp [intOf]; omega
      · obtain rfl : j = xs.length := by omega
        go_wp2_with fail
        go_ret
        exact ⟨rfl, ho, by simpa using hown⟩
theorem markLayout_any (v : Value) (xs : List ESegment) (B E k : Nat) (w : World) (hv : w.ownsRow B 48 7 v xs.length (xs.flatMap encSegment)) (hn : xs.length ≤ 1048576) (hk : k ≤ 1048576) (hE : ∀ k, v.ownBlock = some k → k < E) (hB : B ≤ w.heap.size) :
    Calls Try.prog 10 #[.agg #[v], .int .i64 k] w fun e w' => e = .returned (.int .i64 ((k + xs.length * 7 : Nat) : Int)) ∧ Turned B E w w' := by
  have hvb := own_block_lt hv
  go_enter Try.func10, Try.ntmps10
  go_wp2_with fail
  refine (markSegmentS_any _ xs B k _ (hv.alloc _) hn (by omega)).mono ?_
  rintro e w1 ⟨rfl, on1, own1⟩
  have t1 : Turned B E _ w1 := Turned.of_only on1 (by simp; omega) (fun k hk => ⟨(hvb k hk).1, hE k hk⟩)
  go_wp2_with fail
  go_ret
  exact ⟨rfl, (Turned.of_new hB ((New.refl w).alloc _)).trans t1⟩
end Go.Proofs.Ytinkhjjeflhagaa
