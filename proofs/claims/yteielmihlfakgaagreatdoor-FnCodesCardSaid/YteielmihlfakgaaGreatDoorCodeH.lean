/- Contracts: the laws' marks on codes, and what is held of them. -/
import Derived.Test.YteielmihlfakgaaGreatDoorProg
import Derived.Test.YteielmihlfakgaaGreatDoorCodeM
namespace Go.Proofs.YteielmihlfakgaaGreatDoor
open Go Go.Proofs Go.RowKit
set_option linter.unusedVariables false
set_option linter.unusedSimpArgs false
set_option maxRecDepth 100000
theorem own_apartC {u v : Value} {w w' : World} {base : Nat} {e : TypeId} {sz n : Nat} {cs : List Value} (h : w.grownBy w' v.ownBlock) (hu : w.ownsRow base e sz u n cs) (hne : ∀ i j, v.ownBlock = some i → u.ownBlock = some j → i ≠ j) : w'.ownsRow base e sz u n cs := by
  refine hu.kept h ?_
  cases hb : u.ownBlock with
  | none => exact .inl rfl
  | some k => exact .inr (fun e => hne k k e.symm hb rfl)
end Go.Proofs.YteielmihlfakgaaGreatDoor
