/- Contracts: the laws' marks on codes, and what is held of them. -/
import Derived.Test.YtekpbmoagabmeaaDoorProg
import Derived.Test.YtekpbmoagabmeaaDoorCodeM
namespace Go.Proofs.YtekpbmoagabmeaaDoor
open Go Go.Proofs Go.RowKit
set_option linter.unusedVariables false
set_option linter.unusedSimpArgs false
set_option maxRecDepth 100000
theorem own_apartC {u v : Value} {w w' : World} {base : Nat} {e : TypeId} {sz n : Nat} {cs : List Value} (h : w.grownBy w' v.ownBlock) (hu : w.ownsRow base e sz u n cs) (hne : ∀ i j, v.ownBlock = some i → u.ownBlock = some j → i ≠ j) : w'.ownsRow base e sz u n cs := by
  refine hu.kept h ?_
  cases hb : u.ownBlock with
  | none => exact .inl rfl
  | some k => exact .inr (fun e => hne k k e.symm hb rfl)
theorem markCode2_any (c : CodeD) (bv sv : Value) (B E k : Nat) (w : World) (hb : w.ownsRow B 56 3 bv c.blocks.length (c.blocks.flatMap encTerm)) (hs : w.ownsRow B 58 2 sv c.steps.length (c.steps.flatMap encInstruction)) (hne : ∀ i j, bv.ownBlock = some i → sv.ownBlock = some j → i ≠ j)
    (hk : k ≤ 100000000) (h1 : c.blocks.length ≤ 1048576) (h2 : c.steps.length ≤ 1048576) (hbE : ∀ k, bv.ownBlock = some k → k < E) (hsE : ∀ k, sv.ownBlock = some k → k < E) (hB : B ≤ w.heap.size) (hE : E ≤ w.heap.size) :
    Calls Tryd.prog 11 #[valC c bv sv, .int .i64 k] w fun e w' => e = .returned (.int .i64 ((k + c.blocks.length * 3 + c.steps.length * 2 : Nat) : Int)) ∧ Turned B E w w' ∧
      Rd w' bv c.blocks.length ((marksE (mkTerm k) c.blocks.length).flatMap encTerm) ∧ Rd w' sv c.steps.length ((marksE (mkInstruction (k + c.blocks.length * 3)) c.steps.length).flatMap encInstruction) := by
  have hbb := own_block_lt hb
  have hsb := own_block_lt hs
  go_enter Tryd.func11, Tryd.ntmps11
  go_wp2_with fail
  refine (markTermS_any _ c.blocks B k _ (hb.alloc _) h1 (by omega)).mono ?_
  rintro e w1 ⟨rfl, on1, own1⟩
  have t1 : Turned B E _ w1 := Turned.of_onlyG on1 (by simp; omega) (fun k hk => ⟨(hbb k hk).1, hbE k hk⟩)
  have s1 := own_apartC on1 (hs.alloc (.cells #[.int .i64 c.ins, .int .i64 c.vars, .int .i64 c.outs, bv, sv] 30)) hne
  have d1 := t1.abv (b := w.heap.size) (o := 4) hE (by simp)
  simp at d1
  go_wp2_with fail
  refine (markInstructionS_any _ c.steps B (k + c.blocks.length * 3) _ s1 h2 (by omega)).mono ?_
  rintro e w2 ⟨rfl, on2, own2⟩
  have t2 : Turned B E _ w2 := Turned.of_only on2 (by have := Below.size t1.1; simp at this; omega) (fun k hk => ⟨by have := (hsb k hk).1; omega, hsE k hk⟩)
  have own12 := own_apartC on2.2 own1 (fun i j hi hj e => hne j i hj hi e.symm)
  go_wp2_with fail
  go_ret
  exact ⟨rfl, ((Turned.of_new hB ((New.refl w).alloc _)).trans t1).trans t2, own_rd own12, own_rd own2⟩
theorem heldCode_any (i v o : Int) (bv sv : Value) (k n m : Nat) (w : World) (hb : Rd w bv n ((marksE (mkTerm k) n).flatMap encTerm)) (hs : Rd w sv m ((marksE (mkInstruction (k + n * 3)) m).flatMap encInstruction))
    (hk : k ≤ 100000000) (h1 : n ≤ 1048576) (h2 : m ≤ 1048576) :
    Calls Tryd.prog 12 #[.agg #[.int .i64 i, .int .i64 v, .int .i64 o, bv, sv], .int .i64 k] w fun e w' => e = .returned (.int .i64 ((k + n * 3 + m * 2 : Nat) : Int)) ∧ New w w' := by
  have HB := Lib.hid hb; clear hb
  have HS := Lib.hid hs; clear hs
  have e0 : ((k + n * 3 : Nat) : Int) = (k : Int) + (n : Int) * 3 := by omega
  go_enter Tryd.func12, Tryd.ntmps12
  go_wp2_with fail
  refine (heldTermS_any _ k n _ (Rd.new HB.out (by repeat (first | with_reducible exact New.refl _ | with_reducible assumption | with_reducible refine New.drew ?_ | with_reducible refine New.drewN ?_ _ | with_reducible refine New.alloc ?_ _ | with_reducible refine New.setCell ?_ (by first | (simp; done) | (simp; omega) | omega) _ | with_reducible refine New.trans ?_ (by with_reducible assumption)))) h1 (by omega)).mono ?_; rintro e w1 ⟨rfl, b1⟩
  try with_reducible replace b1 := New.undrawN b1
  try with_reducible replace b1 := New.undraw b1
  obtain ⟨c1, f1⟩ := b1.rules
  have z1 := b1.size
  try simp only [World.size_alloc, World.size_drew, World.heap_drewN, World.size_setCell] at z1
  have z1_0 : w.heap.size < w1.heap.size := by omega
  go_wp2_with fail
  refine (heldInstructionS_any _ (k + n * 3) m _ (Rd.new HS.out (by repeat (first | with_reducible exact New.refl _ | with_reducible assumption | with_reducible refine New.drew ?_ | with_reducible refine New.drewN ?_ _ | with_reducible refine New.alloc ?_ _ | with_reducible refine New.setCell ?_ (by first | (simp; done) | (simp; omega) | omega) _ | with_reducible refine New.trans ?_ (by with_reducible assumption)))) h2 (by omega)).mono ?_; rintro e w2 ⟨rfl, rfl⟩
  go_wp2_with fail
  go_ret
  exact ⟨rfl, (by repeat (first | with_reducible exact New.refl _ | with_reducible assumption | with_reducible refine New.drew ?_ | with_reducible refine New.drewN ?_ _ | with_reducible refine New.alloc ?_ _ | with_reducible refine New.setCell ?_ (by first | (simp; done) | (simp; omega) | omega) _ | with_reducible refine New.trans ?_ (by with_reducible assumption)))⟩
end Go.Proofs.YtekpbmoagabmeaaDoor
