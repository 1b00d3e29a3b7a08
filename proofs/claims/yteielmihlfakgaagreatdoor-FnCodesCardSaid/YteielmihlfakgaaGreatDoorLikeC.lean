/- Contracts: the laws' comparisons of lists and codes that are alike. -/
import Derived.WalkSpells
import Derived.Test.YteielmihlfakgaaGreatDoorProg
import Derived.Test.YteielmihlfakgaaGreatDoorUD
import Derived.Test.YteielmihlfakgaaGreatDoorVC
import Derived.Test.YteielmihlfakgaaGreatDoorVB
import Derived.Test.YteielmihlfakgaaGreatDoorVA
namespace Go.Proofs.YteielmihlfakgaaGreatDoor
open Go Go.Proofs Go.RowKit
set_option linter.unusedVariables false
set_option linter.unusedSimpArgs false
set_option maxRecDepth 100000
set_option maxHeartbeats 800000 in
theorem likeTerms_same (v u : Value) (xs : List ETerm) (w : World) (hv : RdT w v xs) (hu : RdT w u xs) :
    Calls Tryz.prog 44 #[v, u] w fun e w' => e = .returned (.bool true) ∧ New w w' := by
  obtain ⟨a, cap, rfl, hm, HC⟩ := Rd.flat encTerm_len (by omega) hv
  obtain ⟨a', cap', rfl, hm', HC'⟩ := Rd.flat encTerm_len (by omega) hu
  clear hv hu
  have hne : ((xs.length : Int) != xs.length) = false := by simp
  go_enter Tryz.func44, Tryz.ntmps44
  go_wp2_with fail
  go_loopw [5] (fun i wr => ∃ k : Nat, k ≤ xs.length ∧ i = .int .i64 k ∧ New w wr) (fun i _ => xs.length - (intOf i).toNat)
  case atStart => exact ⟨0, Nat.zero_le _, rfl, New.refl w⟩
  case round =>
    obtain ⟨k, hk, rfl, hb⟩ := hrel
    obtain ⟨cb, fb⟩ := hb.rules
    have zb := hb.size
    by_cases hlt : k < xs.length
    · obtain ⟨b, o, rfl, hbl, hx⟩ := HC.out k hlt
      obtain ⟨b', o', rfl, hbl', hy⟩ := HC'.out k hlt
      have x0 := hx 0 _ (by omega) rfl
      have x1 := hx 1 _ (by omega) rfl
      have x2 := hx 2 _ (by omega) rfl
      have y0 := hy 0 _ (by omega) rfl
      have y1 := hy 1 _ (by omega) rfl
      have y2 := hy 2 _ (by omega) rfl
      rw [Nat.add_zero] at x0 y0
      clear hx hy
      have h0 : (xs[k].kind == xs[k].kind) = true := by simp
      have h1 : (xs[k].name.toList == xs[k].name.toList) = true := by simp
      have h2 : (xs[k].num == xs[k].num) = true := by simp
      have hbw : b < wr.heap.size := by omega
      have hbw' : b' < wr.heap.size := by omega
      generalize xs[k] = x at *
      go_wp2_with fail
      go_quiet (fail)
      go_wp2_with fail
      go_roundw
      case rel => exact ⟨k + 1, by omega, by go_num, (by repeat (first | with_reducible exact New.refl _ | with_reducible assumption | with_reducible refine New.drew ?_ | with_reducible refine New.drewN ?_ _ | with_reducible refine New.alloc ?_ _ | with_reducible refine New.setCell ?_ (by first | (simp; done) | (simp; omega) | omega) _ | with_reducible refine New.trans ?_ (by with_reducible assumption)))⟩
      case measure => simp [intOf]; omega
    · obtain rfl : k = xs.length := by omega
      go_wp2_with fail
      go_ret
      exact ⟨rfl, hb⟩
set_option maxHeartbeats 1600000 in
theorem likeCodes_same (c : CodeD) (bv sv bv' sv' : Value) (w : World) (hb : RdT w bv c.blocks) (hs : RdN w sv c.steps) (hb' : RdT w bv' c.blocks) (hs' : RdN w sv' c.steps) :
    Calls Tryz.prog 15 #[valC c bv sv, valC c bv' sv'] w fun e w' => e = .returned (.bool true) ∧ New w w' := by
  have HB := Lib.hid hb
  have HB' := Lib.hid hb'
  obtain ⟨ba, bc, rfl, _⟩ := hb
  obtain ⟨ba', bc', rfl, _⟩ := hb'
  obtain ⟨a, cap, rfl, hm, HC⟩ := Rd.flat encInstruction_len (by omega) hs
  obtain ⟨a', cap', rfl, hm', HC'⟩ := Rd.flat encInstruction_len (by omega) hs'
  clear hs hs'
  have g0 : (c.ins != c.ins) = false := by simp
  have g1 : (c.vars != c.vars) = false := by simp
  have g2 : (c.outs != c.outs) = false := by simp
  have hne : ((c.steps.length : Int) != c.steps.length) = false := by simp
  have zz : w.heap.size < w.heap.size + 1 := by omega
  go_enter Tryz.func15, Tryz.ntmps15
  go_wp2_with fail
  refine (likeTerms_same _ _ c.blocks _ (Rd.new HB.out (by repeat (first | with_reducible exact New.refl _ | with_reducible assumption | with_reducible refine New.drew ?_ | with_reducible refine New.drewN ?_ _ | with_reducible refine New.alloc ?_ _ | with_reducible refine New.setCell ?_ (by first | (simp; done) | (simp; omega) | omega) _ | with_reducible refine New.trans ?_ (by with_reducible assumption)))) (Rd.new HB'.out (by repeat (first | with_reducible exact New.refl _ | with_reducible assumption | with_reducible refine New.drew ?_ | with_reducible refine New.drewN ?_ _ | with_reducible refine New.alloc ?_ _ | with_reducible refine New.setCell ?_ (by first | (simp; done) | (simp; omega) | omega) _ | with_reducible refine New.trans ?_ (by with_reducible assumption))))).mono ?_; rintro e w1 ⟨rfl, b1⟩
  try with_reducible replace b1 := New.undrawN b1
  try with_reducible replace b1 := New.undraw b1
  obtain ⟨c1, f1⟩ := b1.rules
  have z1 := b1.size
  try simp only [World.size_alloc, World.size_drew, World.heap_drewN, World.size_setCell] at z1
  have z1_0 : w.heap.size < w1.heap.size := by omega
  have z1_1 : w.heap.size + 1 < w1.heap.size := by omega
  go_wp2_with fail
  have k4 : w1.cell? ⟨w.heap.size, 4, none⟩ = some (.slice a c.steps.length cap) := by simp (disch := first | (simp only [World.size_alloc, World.size_drew, World.size_setCell]; omega) | omega | (simp; done) | (simp; omega)) only [c1, cell_alloc_old, cell_alloc_new, World.cell?_drewN, World.cell?_drew]; first | done | rfl | (simp; done)
  have k4b : w1.cell? ⟨w.heap.size + 1, 4, none⟩ = some (.slice a' c.steps.length cap') := by simp (disch := first | (simp only [World.size_alloc, World.size_drew, World.size_setCell]; omega) | omega | (simp; done) | (simp; omega)) only [c1, cell_alloc_old, cell_alloc_new, World.cell?_drewN, World.cell?_drew]; first | done | rfl | (simp; done)
  have N1 : New w w1 := (by repeat (first | with_reducible exact New.refl _ | with_reducible assumption | with_reducible refine New.drew ?_ | with_reducible refine New.drewN ?_ _ | with_reducible refine New.alloc ?_ _ | with_reducible refine New.setCell ?_ (by first | (simp; done) | (simp; omega) | omega) _ | with_reducible refine New.trans ?_ (by with_reducible assumption)))
  clear c1 f1 b1
  go_loopw [5] (fun i wr => ∃ k : Nat, k ≤ c.steps.length ∧ i = .int .i64 k ∧ New w1 wr) (fun i _ => c.steps.length - (intOf i).toNat)
  case atStart => exact ⟨0, Nat.zero_le _, rfl, New.refl _⟩
  case round =>
    obtain ⟨k, hk, rfl, hb⟩ := hrel
    have zb := hb.size
    have N0 := N1.trans hb
    have m4 := (hb.cell (b := w.heap.size) (o := 4) (by omega)).trans k4
    have m4b := (hb.cell (b := w.heap.size + 1) (o := 4) (by omega)).trans k4b
    by_cases hlt : k < c.steps.length
    · obtain ⟨b, o, rfl, hbl, hx⟩ := HC.out k hlt
      obtain ⟨b', o', rfl, hbl', hy⟩ := HC'.out k hlt
      have x0 := (N0.cell hbl).trans (hx 0 _ (by omega) rfl)
      have x1 := (N0.cell hbl).trans (hx 1 _ (by omega) rfl)
      have y0 := (N0.cell hbl').trans (hy 0 _ (by omega) rfl)
      have y1 := (N0.cell hbl').trans (hy 1 _ (by omega) rfl)
      rw [Nat.add_zero] at x0 y0
      clear hx hy
      have h0 : (c.steps[k].op == c.steps[k].op) = true := by simp
      have h2 : (c.steps[k].arg == c.steps[k].arg) = true := by simp
      have hbw : b < wr.heap.size := by omega
      have hbw' : b' < wr.heap.size := by omega
      have hbw1 : b < w1.heap.size := by omega
      have hbw1' : b' < w1.heap.size := by omega
      generalize c.steps[k] = x at *
      go_wp2_with fail
      go_quiet (fail)
      go_wp2_with fail
      go_roundw
      case rel => exact ⟨k + 1, by omega, by go_num, (by repeat (first | with_reducible exact New.refl _ | with_reducible assumption | with_reducible refine New.drew ?_ | with_reducible refine New.drewN ?_ _ | with_reducible refine New.alloc ?_ _ | with_reducible refine New.setCell ?_ (by first | (simp; done) | (simp; omega) | omega) _ | with_reducible refine New.trans ?_ (by with_reducible assumption)))⟩
      case measure => simp [intOf]; omega
    · obtain rfl : k = c.steps.length := by omega
      go_wp2_with fail
      go_ret
      exact ⟨rfl, (by repeat (first | with_reducible exact New.refl _ | with_reducible assumption | with_reducible refine New.drew ?_ | with_reducible refine New.drewN ?_ _ | with_reducible refine New.alloc ?_ _ | with_reducible refine New.setCell ?_ (by first | (simp; done) | (simp; omega) | omega) _ | with_reducible refine New.trans ?_ (by with_reducible assumption)))⟩
end Go.Proofs.YteielmihlfakgaaGreatDoor
