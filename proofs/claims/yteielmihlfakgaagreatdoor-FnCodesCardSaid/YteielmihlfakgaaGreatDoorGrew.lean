/- One block turned, new blocks laid. -/
import Derived.Test.YteielmihlfakgaaGreatDoorProg
import Derived.Test.YteielmihlfakgaaGreatDoorVA
import Derived.Test.YteielmihlfakgaaGreatDoorMarkT
namespace Go.Proofs.YteielmihlfakgaaGreatDoor
open Go Go.Proofs Go.RowKit
set_option linter.unusedVariables false
set_option linter.unusedSimpArgs false
def OnlyG (v : Value) (w w' : World) : Prop := w.grownBy w' v.ownBlock
theorem OnlyG.refl (v : Value) (w : World) : OnlyG v w w := ⟨rfl, rfl, rfl, Nat.le_refl _, fun _ _ _ => rfl⟩
theorem OnlyG.set {v : Value} {w w' : World} (h : OnlyG v w w') {g o : Nat} (hg : v.ownBlock = some g) (u : Value) : OnlyG v w (w'.setCell ⟨g, o, none⟩ u) := by
  refine ⟨h.os, h.tape, h.output, by simp only [World.size_setCell]; exact h.size, fun q hq hne => ?_⟩
  rw [hg] at hne
  exact (heap_setCell_other w' ⟨g, o, none⟩ q u (fun e => hne (by simp [e]))).trans (h.block q hq (by rw [hg]; exact hne))
theorem OnlyG.more {v : Value} {w w' w'' : World} (h : OnlyG v w w') (n : New w' w'') : OnlyG v w w'' := by
  obtain ⟨n1, n2, n3, n4, n5⟩ := n
  refine ⟨n1.trans h.os, n2.trans h.tape, n3.trans h.output, Nat.le_trans h.size n4, fun q hq hne => ?_⟩
  exact (n5 q (Nat.lt_of_lt_of_le hq h.size)).trans (h.block q hq hne)
theorem OnlyG.new {v : Value} {w0 w w' : World} (h : OnlyG v w w') (hn : New w0 w) (hv : ∀ k, v.ownBlock = some k → w0.heap.size ≤ k) : New w0 w' := hn.grown h hv
theorem OnlyG.of_only {v : Value} {w w' : World} (h : Only v w w') : OnlyG v w w' := h.2
theorem onlyG_own {v u : Value} {w w' : World} {base : Nat} {e : TypeId} {sz n : Nat} {cs : List Value} (h : OnlyG v w w') (hu : w.ownsRow base e sz u n cs) (hne : ∀ k, v.ownBlock = some k → k < base) : w'.ownsRow base e sz u n cs := by
  refine hu.kept h ?_
  cases hb : u.ownBlock with
  | none => exact .inl rfl
  | some k => exact .inr (fun e => by have h1 := hu.lt k hb; have h2 := hne k e.symm; omega)
theorem Turned.of_onlyG {B E : Nat} {v : Value} {w w' : World} (h : OnlyG v w w') (hB : B ≤ w.heap.size) (hv : ∀ k, v.ownBlock = some k → B ≤ k ∧ k < E) : Turned B E w w' :=
  ⟨Below.grown (Below.refl B w) h hB (fun k hk => (hv k hk).1), fun q hq hl => h.block q hl (fun e => by have := hv q e.symm; omega)⟩
def MarkedG {α : Type} (enc : α → List Value) (sz : Nat) (f : Nat → α) (v : Value) (base n : Nat) (k' : Nat) (e : TypeId) (w : World) (en : Ending) (w' : World) : Prop :=
  en = .returned (.int .i64 (k' : Int)) ∧ OnlyG v w w' ∧ w'.ownsRow base e sz v n ((marksE f n).flatMap enc)
theorem Turned.abv {B E : Nat} {w w' : World} (h : Turned B E w w') {b o : Nat} (hb : E ≤ b) (hl : b < w.heap.size) : w'.cell? ⟨b, o, none⟩ = w.cell? ⟨b, o, none⟩ := World.cell?_of_block (h.2 b hb hl)
end Go.Proofs.YteielmihlfakgaaGreatDoor
