/- Contracts: are numbers devices of a layout; the laws' helpers on layouts. -/
import Derived.Test.YtinkhjjeflhagaaProg
import Derived.Test.YtinkhjjeflhagaaDevices2
namespace Go.Proofs.Ytinkhjjeflhagaa
open Go Go.Proofs Go.RowKit
set_option linter.unusedVariables false
set_option linter.unusedSimpArgs false
set_option maxRecDepth 100000
def plainAt (xs : List ESegment) (i : Int) : Bool := (xs.getD i.toNat ⟨0, 0, 0, 0, 0, 0, 0⟩).kind == 0
theorem plainAt_eq {xs : List ESegment} {j : Nat} (h : j < xs.length) : plainAt xs (j : Int) = (xs[j].kind == 0) := by simp [plainAt, List.getD, h]
def devB (xs : List ESegment) (on : List Int) : Bool := risesB on xs.length && !(on.any (plainAt xs))
def areDevB (xs : List ESegment) (on : List Int) : Bool := layB xs && devB xs on
theorem lengthG_any (v : Value) (xs : List ESegment) (w : World) (hv : RdG w v xs) : Calls Try.prog 20 #[v] w fun e w' => e = .returned (.int .i64 xs.length) ∧ w = w' := by
  obtain ⟨a, cap, rfl, hn, _⟩ := hv
  go_enter Try.func20, Try.ntmps20
  go_wp2_with fail
  go_ret
  exact ⟨rfl, rfl⟩
theorem szLayout_any (v : Value) (xs : List ESegment) (left : Int) (w : World) (hv : RdG w v xs) (hl : 0 ≤ left) (hl' : left ≤ 1048576) :
    Calls Try.prog 4 #[.agg #[v], .int .i64 left] w fun e w' => e = .returned (.int .i64 (szL xs.length left)) ∧ New w w' := by
  have hr := szL_range (n := xs.length) (left := left) (B := 1048576) hl hl'
  go_enter Try.func4, Try.ntmps4
  go_wp2_with fail
  refine (szSegmentS_any v xs.length _ left _ (Rd.new hv (by repeat (first | with_reducible exact New.refl _ | with_reducible assumption | with_reducible refine New.drew ?_ | with_reducible refine New.drewN ?_ _ | with_reducible refine New.alloc ?_ _ | with_reducible refine New.setCell ?_ (by first | (simp; done) | (simp; omega) | omega) _ | with_reducible refine New.trans ?_ (by with_reducible assumption)))) hl hl').mono ?_; rintro e _ ⟨rfl, rfl⟩
  go_wp2_with fail
  all_goals go_ret
  all_goals exact ⟨ret_int (by omega), (by repeat (first | with_reducible exact New.refl _ | with_reducible assumption | with_reducible refine New.drew ?_ | with_reducible refine New.drewN ?_ _ | with_reducible refine New.alloc ?_ _ | with_reducible refine New.setCell ?_ (by first | (simp; done) | (simp; omega) | omega) _ | with_reducible refine New.trans ?_ (by with_reducible assumption)))⟩
theorem toLayout_any (v : Value) (xs : List ESegment) (w : World) (hv : RdG w v xs) (hn : xs.length ≤ 1048576) :
    Calls Try.prog 6 #[.agg #[v]] w fun e w' => ∃ r, e = .returned (.agg #[r]) ∧ New w w' ∧ w'.ownsRow w.heap.size 48 7 r xs.length (xs.flatMap encSegment) := by
  go_enter Try.func6, Try.ntmps6
  go_wp2_with fail
  refine (toSegmentS_any _ xs _ (Rd.new hv (by repeat (first | with_reducible exact New.refl _ | with_reducible assumption | with_reducible refine New.drew ?_ | with_reducible refine New.drewN ?_ _ | with_reducible refine New.alloc ?_ _ | with_reducible refine New.setCell ?_ (by first | (simp; done) | (simp; omega) | omega) _ | with_reducible refine New.trans ?_ (by with_reducible assumption)))) hn).mono ?_; rintro e w1 ⟨r, rfl, b1, own1⟩
  obtain ⟨ra, rc, rfl⟩ := own_slice own1
  obtain ⟨c1, f1⟩ := b1.rules
  have z1 := b1.size
  try simp only [World.size_alloc, World.size_drew, World.heap_drewN, World.size_setCell] at z1
  have z1_0 : w.heap.size < w1.heap.size := by omega
  have z1_1 : w.heap.size + 1 < w1.heap.size := by omega
  have z1_2 : w.heap.size + 1 + 1 < w1.heap.size := by omega
  go_wp2_with fail
  exact bodyPost_ret (v := .agg #[.slice ra xs.length rc]) (by simp [results, Try.results6, go_sem, c1, f1, z1_0, z1_1, z1_2]) rfl ⟨_, rfl, (by repeat (first | with_reducible exact New.refl _ | with_reducible assumption | with_reducible refine New.drew ?_ | with_reducible refine New.drewN ?_ _ | with_reducible refine New.alloc ?_ _ | with_reducible refine New.setCell ?_ (by first | (simp; done) | (simp; omega) | omega) _ | with_reducible refine New.trans ?_ (by with_reducible assumption))), (by apply own_base; (repeat (first | with_reducible exact own1 | with_reducible apply ownsRow_setCell_below | with_reducible refine World.ownsRow.alloc ?_ _ | with_reducible refine own_new ?_ (by with_reducible assumption))); all_goals (first | (simp; done) | (simp; omega) | omega))⟩
theorem eqLayout_any (v u : Value) (xs ys : List ESegment) (w : World) (hv : RdG w v xs) (hu : RdG w u ys) :
    Calls Try.prog 9 #[.agg #[v], .agg #[u]] w fun e w' => e = .returned (.bool (decide (xs = ys))) ∧ New w w' := by
  have zz : w.heap.size < w.heap.size + 1 + 1 := by omega
  rcases Bool.eq_false_or_eq_true (decide (xs = ys)) with h | h
  all_goals rw [h]
  all_goals go_enter Try.func9, Try.ntmps9
  all_goals go_wp2_with fail
  all_goals refine (eqSegmentS_any _ _ xs ys _ (Rd.new hv (by repeat (first | with_reducible exact New.refl _ | with_reducible assumption | with_reducible refine New.drew ?_ | with_reducible refine New.drewN ?_ _ | with_reducible refine New.alloc ?_ _ | with_reducible refine New.setCell ?_ (by first | (simp; done) | (simp; omega) | omega) _ | with_reducible refine New.trans ?_ (by with_reducible assumption)))) (Rd.new hu (by repeat (first | with_reducible exact New.refl _ | with_reducible assumption | with_reducible refine New.drew ?_ | with_reducible refine New.drewN ?_ _ | with_reducible refine New.alloc ?_ _ | with_reducible refine New.setCell ?_ (by first | (simp; done) | (simp; omega) | omega) _ | with_reducible refine New.trans ?_ (by with_reducible assumption))))).mono ?_
  all_goals rintro e w1 ⟨rfl, b1⟩
  all_goals rw [h]
  all_goals go_wp2_with fail
  all_goals go_ret
  all_goals exact ⟨rfl, (by repeat (first | with_reducible exact New.refl _ | with_reducible assumption | with_reducible refine New.drew ?_ | with_reducible refine New.drewN ?_ _ | with_reducible refine New.alloc ?_ _ | with_reducible refine New.setCell ?_ (by first | (simp; done) | (simp; omega) | omega) _ | with_reducible refine New.trans ?_ (by with_reducible assumption)))⟩
end Go.Proofs.Ytinkhjjeflhagaa
