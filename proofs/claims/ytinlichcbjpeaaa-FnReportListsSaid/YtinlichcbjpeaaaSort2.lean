/- Contracts: the library's sorting, at two numbers. -/
import Derived.Deep.RegionHeld3
import Derived.Deep.DrawnRows
import Derived.Deep.RegionLaw
import Derived.Test.YtinlichcbjpeaaaProg
import Derived.Test.YtinlichcbjpeaaaTraffic
namespace Go.Proofs.Ytinlichcbjpeaaa
open Go Go.Proofs Go.RowKit
set_option linter.unusedVariables false
set_option linter.unusedSimpArgs false
set_option maxRecDepth 100000
def sort2 (x y : Int) : List Int := if y < x then [y, x] else [x, y]
theorem isNaN_any (x : Int) (w : World) : Calls Try.prog 151 #[.int .i64 x] w fun e w' => e = .returned (.bool false) ∧ w = w' := by
  have h : (x != x) = false := by simp
  go_enter Try.func151, Try.ntmps151
  go_wp2_with fail
  go_ret
  exact ⟨rfl, rfl⟩
theorem less_any (x y : Int) (w : World) : Calls Try.prog 138 #[.int .i64 x, .int .i64 y] w fun e w' => e = .returned (.bool (decide (x < y))) ∧ w = w' := by
  go_enter Try.func138, Try.ntmps138
  go_wp2_with (first | (go_at_call 151; refine (isNaN_any _ _).mono ?_; rintro e _ ⟨rfl, rfl⟩))
  go_ret
  exact ⟨rfl, rfl⟩
theorem len64_2 (w : World) : Calls Try.prog 142 #[.int .u64 2] w fun e w' => ∃ r : Int, e = .returned (.int .i64 r) ∧ w = w' := by
  go_enter Try.func142, Try.ntmps142
  go_wp2_with fail
  go_ret
  exact ⟨_, rfl, rfl⟩
theorem len_2 (w : World) : Calls Try.prog 124 #[.int .u64 2] w fun e w' => ∃ r : Int, e = .returned (.int .i64 r) ∧ w = w' := by
  go_enter Try.func124, Try.ntmps124
  go_wp2_with fail
  refine (len64_2 _).mono ?_; rintro e w1 ⟨r, rfl, rfl⟩
  go_wp2_with fail
  go_ret
  exact ⟨_, rfl, rfl⟩
theorem turned_set {B E : Nat} {w : World} {g o : Nat} (h1 : B ≤ g) (h2 : g < E) (u : Value) : Turned B E w (w.setCell ⟨g, o, none⟩ u) :=
  ⟨Below.setCell (Below.refl B w) h1 u, fun q hq hl => heap_setCell_other w ⟨g, o, none⟩ q u (fun e => by have : q = g := e; omega)⟩
set_option maxHeartbeats 4000000 in
theorem insSort2_any (x y : Int) (g cap base : Nat) (w : World) (hv : w.ownsRow base 2 1 (.slice (some ⟨g, 0, none⟩) 2 cap) 2 [.int .i64 x, .int .i64 y]) :
    Calls Try.prog 132 #[.slice (some ⟨g, 0, none⟩) 2 cap, .int .i64 0, .int .i64 2] w fun e w' => e = .returned (.tuple #[]) ∧ Turned g (g + 1) w w' ∧ w'.ownsRow base 2 1 (.slice (some ⟨g, 0, none⟩) 2 cap) 2 ((sort2 x y).map (Value.int .i64)) := by
  go_enter Try.func132, Try.ntmps132
  go_wp2_with fail
  go_loopw [6] (fun i wr => ∃ l : List Int, ((i = .int .i64 1 ∧ l = [x, y]) ∨ (i = .int .i64 2 ∧ l = sort2 x y)) ∧ Turned g (g + 1) w wr ∧ wr.ownsRow base 2 1 (.slice (some ⟨g, 0, none⟩) 2 cap) 2 (l.map (Value.int .i64))) (fun i _ => 2 - (intOf i).toNat)
  case atStart => exact ⟨_, .inl ⟨rfl, rfl⟩, Turned.refl _ _ _, hv⟩
  case round =>
    obtain ⟨l, h, ht, hown⟩ := hrel
    rcases h with ⟨rfl, rfl⟩ | ⟨rfl, rfl⟩
    · have d0 : wr.cell? ⟨g, 0, none⟩ = some (.int .i64 x) := by have := hown.cellAt 0 (by omega); simpa using this
      have d1 : wr.cell? ⟨g, 1, none⟩ = some (.int .i64 y) := by have := hown.cellAt 1 (by omega); simpa using this
      have f0 := hown.frozenAt 0
      have f1 := hown.frozenAt 1
      have hgw : g < wr.heap.size := (own_block_lt hown g rfl).2
      have hdl := Lib.hid hown
      go_wp2_with fail
      go_loopw [7] (fun i wr2 => ∃ l : List Int, ((i = .int .i64 1 ∧ l = [x, y]) ∨ (i = .int .i64 0 ∧ y < x ∧ l = [y, x])) ∧ Turned g (g + 1) w wr2 ∧ wr2.ownsRow base 2 1 (.slice (some ⟨g, 0, none⟩) 2 cap) 2 (l.map (Value.int .i64))) (fun i _ => (intOf i).toNat)
      case atStart => exact ⟨_, .inl ⟨rfl, rfl⟩, ht, hdl.out⟩
      case round =>
        rename World => wr2
        obtain ⟨l, h, ht2, hown2⟩ := hrel
        clear d0 d1 f0 f1 hgw hown
        rcases h with ⟨rfl, rfl⟩ | ⟨rfl, hyx, rfl⟩
        · have d0 : wr2.cell? ⟨g, 0, none⟩ = some (.int .i64 x) := by have := hown2.cellAt 0 (by omega); simpa using this
          have d1 : wr2.cell? ⟨g, 1, none⟩ = some (.int .i64 y) := by have := hown2.cellAt 1 (by omega); simpa using this
          have f0 := hown2.frozenAt 0
          have f1 := hown2.frozenAt 1
          have hgw : g < wr2.heap.size := (own_block_lt hown2 g rfl).2
          by_cases hyx : y < x
          · have hd : decide (y < x) = true := by simp [hyx]
            go_wp2_with fail
            go_quiet ((go_at_call 138; exact quiet_eq (less_any _ _ _)))
            go_wp2_with fail
            have e0 : IntKind.i64.wrap 0 = 0 := by decide
            go_region_law (fail)
            all_goals
              have hs := (((own_new hown2 ((New.refl wr2).drewN (nq + 1))).stored 1 (.int .i64 x)).1.stored 0 (.int .i64 y)).1
              have ht3 := ((ht2.trans (Turned.of_new (Nat.le_of_lt hgw) ((New.refl wr2).drewN (nq + 1)))).trans (turned_set (g := g) (o := 1) (Nat.le_refl _) (Nat.lt_succ_self _) (.int .i64 x))).trans (turned_set (g := g) (o := 0) (Nat.le_refl _) (Nat.lt_succ_self _) (.int .i64 y))
              go_wp2_with fail
              go_roundw
              case rel => exact ⟨[y, x], .inr ⟨rfl, hyx, rfl⟩, ht3, by simpa using hs⟩
              case measure => simp [intOf]
          · have hd : decide (y < x) = false := by simp [hyx]
            go_wp2_with fail
            go_quiet ((go_at_call 138; exact quiet_eq (less_any _ _ _)))
            go_wp2_with fail
            go_roundw
            case rel => exact ⟨sort2 x y, .inr ⟨rfl, rfl⟩, ht2.trans (Turned.of_new (Nat.le_of_lt hgw) ((New.refl _).drewN _)), by rw [sort2, if_neg (by omega)]; exact own_new hown2 ((New.refl _).drewN _)⟩
            case measure => simp [intOf]
        · have hs : sort2 x y = [y, x] := by rw [sort2, if_pos hyx]
          have hgw : g < wr2.heap.size := (own_block_lt hown2 g rfl).2
          replace hs := Lib.hid hs
          go_wp2_with fail
          go_quiet (fail)
          go_wp2_with fail
          go_roundw
          case rel => exact ⟨sort2 x y, .inr ⟨rfl, rfl⟩, ht2.trans (Turned.of_new (Nat.le_of_lt hgw) ((New.refl _).drewN _)), by rw [hs.out]; exact own_new hown2 ((New.refl _).drewN _)⟩
          case measure => simp [intOf]
    · go_wp2_with fail
      exact bodyPost_end (v := .tuple #[]) (by simp [results, Try.results132, go_sem]) rfl ⟨rfl, ht, hown⟩
set_option maxHeartbeats 4000000 in
theorem pdq2_any (x y r : Int) (g cap base : Nat) (w : World) (hv : w.ownsRow base 2 1 (.slice (some ⟨g, 0, none⟩) 2 cap) 2 [.int .i64 x, .int .i64 y]) :
    Calls Try.prog 123 #[.slice (some ⟨g, 0, none⟩) 2 cap, .int .i64 0, .int .i64 2, .int .i64 r] w fun e w' => e = .returned (.tuple #[]) ∧ Turned g (g + 1) w w' ∧ w'.ownsRow base 2 1 (.slice (some ⟨g, 0, none⟩) 2 cap) 2 ((sort2 x y).map (Value.int .i64)) := by
  have HV := Lib.hid hv; clear hv
  go_enter Try.func123, Try.ntmps123
  go_wp2_with fail
  refine wp_loop_rounds 1 ?_
  rw [rounds_succ]
  go_wp2_with fail
  refine (insSort2_any x y g cap base _ HV.out).mono ?_
  rintro e w1 ⟨rfl, t1, own1⟩
  go_wp2_with fail
  exact bodyPost_ret (v := .tuple #[]) (by simp [results, Try.results123, go_sem]) rfl ⟨rfl, t1, own1⟩
theorem sort2_any (x y : Int) (g cap base : Nat) (w : World) (hv : w.ownsRow base 2 1 (.slice (some ⟨g, 0, none⟩) 2 cap) 2 [.int .i64 x, .int .i64 y]) :
    Calls Try.prog 111 #[.slice (some ⟨g, 0, none⟩) 2 cap] w fun e w' => e = .returned (.tuple #[]) ∧ Turned g (g + 1) w w' ∧ w'.ownsRow base 2 1 (.slice (some ⟨g, 0, none⟩) 2 cap) 2 ((sort2 x y).map (Value.int .i64)) := by
  have HV := Lib.hid hv; clear hv
  go_enter Try.func111, Try.ntmps111
  go_wp2_with fail
  refine (len_2 _).mono ?_
  rintro e w1 ⟨r, rfl, rfl⟩
  go_wp2_with fail
  refine (pdq2_any x y r g cap base _ HV.out).mono ?_
  rintro e w1 ⟨rfl, t1, own1⟩
  go_wp2_with fail
  exact bodyPost_end (v := .tuple #[]) (by simp [results, Try.results111, go_sem]) rfl ⟨rfl, t1, own1⟩
end Go.Proofs.Ytinlichcbjpeaaa
