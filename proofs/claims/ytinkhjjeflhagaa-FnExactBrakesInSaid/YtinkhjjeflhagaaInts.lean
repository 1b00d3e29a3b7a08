/- Contracts: the laws' helpers on lists of numbers. -/
import Derived.Test.YtinkhjjeflhagaaProg
import Derived.Test.YtinkhjjeflhagaaBase
namespace Go.Proofs.Ytinkhjjeflhagaa
open Go Go.Proofs Go.RowKit
set_option linter.unusedVariables false
set_option linter.unusedSimpArgs false
set_option maxRecDepth 100000
theorem infoInt : (Try.prog.info? 2).map (fun i => (i.zero, i.size, i.bytes)) = some (some (.int .i64 0), 1, 8) := by kernel_rfl
def szL (n : Nat) (left : Int) : Int := if (n:Int) ≤ left then left - n else -1
theorem szL_bd {n : Nat} {left : Int} (h : 0 ≤ szL n left) : (n : Int) ≤ left ∧ szL n left = left - n := by
  unfold szL at *; split at h <;> simp_all
theorem szL_range {n : Nat} {left B : Int} (h0 : 0 ≤ left) (h : left ≤ B) : -1 ≤ szL n left ∧ szL n left ≤ B := by
  unfold szL; split <;> omega
set_option maxHeartbeats 400000 in
theorem eqInt64S_any (v u : Value) (xs ys : List Int) (w : World) (hv : RdI w v xs) (hu : RdI w u ys) :
    Calls Try.prog 8 #[v, u] w fun e w' => e = .returned (.bool (decide (xs = ys))) ∧ ∃ n, w' = w.drewN n := by
  obtain ⟨a, cap, rfl, hn, HC⟩ := hv.open
  obtain ⟨a', cap', rfl, hn', HC'⟩ := hu.open
  by_cases hlen : xs.length = ys.length
  · have hne : ((xs.length : Int) != ys.length) = false := by simp [hlen]
    have HL : Hid (xs.length = ys.length) := hlen
    have hle : xs.length ≤ ys.length := by omega
    have hge : ys.length ≤ xs.length := by omega
    clear hlen
    go_enter Try.func8, Try.ntmps8
    go_wp2_with fail
    go_loopw [5] (fun i wr => ∃ k : Nat, k ≤ xs.length ∧ i = .int .i64 k ∧ Hid (xs.take k = ys.take k) ∧ ∃ n, wr = w.drewN n) (fun i _ => xs.length - (intOf i).toNat)
    case atStart => exact ⟨0, Nat.zero_le _, rfl, rfl, 0, rfl⟩
    case round =>
      obtain ⟨k, hk, rfl, hpre, n, rfl⟩ := hrel
      by_cases hlt : k < xs.length
      · have hlt' : k < ys.length := by omega
        obtain ⟨b, off, rfl, hb, hx⟩ := HC.out w (New.refl w) k hlt
        obtain ⟨b', off', rfl, hb', hy⟩ := HC'.out w (New.refl w) k hlt'
        go_wp2_with fail
        go_quiet (fail)
        go_wp2_with fail
        · go_ret
          refine ⟨ret_bool (Eq.symm (decide_eq_false ?_)), n + nq, by rw [World.drewN_drewN]⟩
          rintro rfl
          have hh : (xs[k] != xs[k]) = true := by assumption
          simp at hh
        · have hh : (xs[k] != ys[k]) = false := by assumption
          have hh' : xs[k] = ys[k] := by simpa using hh
          replace hh' := Lib.hid hh'
          go_roundw
          case rel => exact ⟨k + 1, by omega, by go_num, Lib.hid (by rw [List.take_succ_eq_append_getElem hlt, List.take_succ_eq_append_getElem hlt', hpre.out, hh'.out]), _, rfl⟩
          case measure => simp [intOf]; omega
      · have hkx : k = xs.length := by omega
        have hky : k = ys.length := by omega
        have he : xs = ys := by
          have := hpre.out
          rwa [List.take_of_length_le (by omega), List.take_of_length_le (by omega)] at this
        have HE := Lib.hid he
        clear hkx hky he
        go_wp2_with fail
        go_ret
        exact ⟨ret_bool (decide_eq_true HE.out).symm, _, rfl⟩
  · have hne : ((xs.length : Int) != ys.length) = true := by simp; omega
    go_enter Try.func8, Try.ntmps8
    go_wp2_with fail
    go_ret
    exact ⟨ret_bool (decide_eq_false (fun h => hlen (by rw [h]))).symm, 0, rfl⟩
def marks (k n : Nat) : List Int := (List.range n).map fun i => ((k + i : Nat) : Int)
theorem marks_length (k n : Nat) : (marks k n).length = n := by simp [marks]
theorem marks_get (k n i : Nat) (h : i < n) : (marks k n)[i]'(by rw [marks_length]; exact h) = ((k + i : Nat) : Int) := by simp [marks]
theorem marks_set (xs : List Int) (k i : Nat) (h : i < xs.length) : (marks k i ++ xs.drop i).set i ((k + i : Nat) : Int) = marks k (i + 1) ++ xs.drop (i + 1) := by
  rw [List.set_append, if_neg (by rw [marks_length]; omega), marks_length, Nat.sub_self, List.drop_eq_getElem_cons h, List.set_cons_zero]
  simp [marks, List.range_succ]
/-- A function that marks: it turns the one block of its slice. -/
def Marked (v : Value) (base n : Nat) (k : Nat) (e : TypeId) (w : World) (en : Ending) (w' : World) : Prop :=
  en = .returned (.int .i64 ((k + n : Nat) : Int)) ∧ Only v w w' ∧ w'.ownsRow base e 1 v n ((marks k n).map (Value.int .i64))
set_option maxHeartbeats 400000 in
theorem markInt64S_any (v : Value) (xs : List Int) (base k : Nat) (w : World) (hv : w.ownsRow base 2 1 v xs.length (xs.map (Value.int .i64))) (hn : xs.length ≤ 1048576) (hk : k ≤ 1048576000) :
    Calls Try.prog 11 #[v, .int .i64 k] w (Marked v base xs.length k 2 w) := by
  by_cases h0 : xs.length = 0
  · have hx : xs = [] := List.eq_nil_of_length_eq_zero h0
    subst hx
    obtain ⟨a, cap, hve, _⟩ : ∃ a cap, v = .slice a 0 cap ∧ True := by
      rcases hv.2 with ⟨h, _⟩ | ⟨g, cap, cur, h, _⟩
      · exact ⟨_, _, h, trivial⟩
      · exact ⟨_, _, h, trivial⟩
    subst hve
    go_enter Try.func11, Try.ntmps11
    go_wp2_with fail
    refine wp_loop_rounds 1 ?_
    rw [rounds_succ]
    go_wp2_with fail
    go_ret
    exact ⟨rfl, ⟨rfl, rfl, rfl, rfl, Nat.le_refl _, fun _ _ _ => rfl⟩, hv⟩
  · obtain ⟨g, cap, rfl⟩ : ∃ g cap, v = .slice (some ⟨g, 0, none⟩) xs.length cap := by
      rcases hv.2 with ⟨_, h⟩ | ⟨g, cap, cur, h, _⟩
      · exact absurd h h0
      · exact ⟨g, cap, h⟩
    clear h0
    go_enter Try.func11, Try.ntmps11
    go_wp2_with fail
    go_loopw [1, 5] (fun kk i wr => ∃ j : Nat, j ≤ xs.length ∧ i = .int .i64 j ∧ kk = .int .i64 ((k + j : Nat) : Int) ∧ Only (.slice (some ⟨g, 0, none⟩) xs.length cap) w wr ∧ wr.ownsRow base 2 1 (.slice (some ⟨g, 0, none⟩) xs.length cap) xs.length ((marks k j ++ xs.drop j).map (Value.int .i64))) (fun _ i _ => xs.length - (intOf i).toNat)
    case atStart => exact ⟨0, Nat.zero_le _, rfl, by simp, ⟨rfl, rfl, rfl, rfl, Nat.le_refl _, fun _ _ _ => rfl⟩, by simpa [marks] using hv⟩
    case round =>
      obtain ⟨j, hj, rfl, rfl, ho, hown⟩ := hrel
      clear hv
      by_cases hlt : j < xs.length
      · have hd : wr.cell? ⟨g, j, none⟩ = some (.int .i64 xs[j]) := by
          rw [hown.cellAt j (by omega)]
          simp [List.getElem?_append_right, marks_length, hlt]
        have hfz := hown.frozenAt j
        go_wp2_with fail
        go_roundw
        case rel =>
          have h1 := (hown.stored j (.int .i64 ((k + j : Nat) : Int))).1
          have h2 := (hown.stored j (.int .i64 ((k + j : Nat) : Int))).2
          have e1 : ((marks k j ++ xs.drop j).map (Value.int .i64)).set j (.int .i64 ((k + j : Nat) : Int)) = (marks k (j + 1) ++ xs.drop (j + 1)).map (Value.int .i64) := by
            rw [← marks_set xs k j hlt, List.map_set]
          rw [e1] at h1
          exact ⟨j + 1, by omega, by go_num, by go_num, ⟨(by simp [ho.1]), ⟨ho.2.os, ho.2.tape, ho.2.output, (by simp [ho.1]), fun q hq hne => (h2.block q (by rw [ho.1]; exact hq) (by simpa [Value.ownBlock] using hne)).trans (ho.2.block q hq hne)⟩⟩, h1⟩
        case measure => simp [intOf]; omega
      · obtain rfl : j = xs.length := by omega
        go_wp2_with fail
        go_ret
        exact ⟨rfl, ho, by simpa using hown⟩
set_option maxHeartbeats 400000 in
theorem heldInt64S_any (v : Value) (k n : Nat) (w : World) (hv : RdI w v (marks k n)) (hn : n ≤ 1048576) (hk : k ≤ 1048576000) :
    Calls Try.prog 12 #[v, .int .i64 k] w fun e w' => e = .returned (.int .i64 ((k + n : Nat) : Int)) ∧ w = w' := by
  obtain ⟨a, cap, rfl, hm, HC⟩ := hv.open
  have hl := marks_length k n
  rw [hl] at hm ⊢
  go_enter Try.func12, Try.ntmps12
  go_wp2_with fail
  go_loop [1, 5] (fun kk i => ∃ j : Nat, j ≤ n ∧ i = .int .i64 j ∧ kk = .int .i64 ((k + j : Nat) : Int)) (fun _ i => n - (intOf i).toNat)
  case atStart => exact ⟨0, Nat.zero_le _, rfl, by simp⟩
  case round =>
    obtain ⟨j, hj, rfl, rfl⟩ := hrel
    by_cases hlt : j < n
    · obtain ⟨b, off, rfl, hb, hx⟩ := HC.out w (New.refl w) j (by rw [hl]; exact hlt)
      rw [marks_get k n j hlt] at hx
      clear hv hl
      go_wp2_with fail
      go_round
      case rel => exact ⟨j + 1, by omega, by go_num, by go_num⟩
      case measure => simp [intOf]; omega
    · obtain rfl : j = n := by omega
      go_wp2_with fail
      go_ret
      exact ⟨rfl, rfl⟩
end Go.Proofs.Ytinkhjjeflhagaa
