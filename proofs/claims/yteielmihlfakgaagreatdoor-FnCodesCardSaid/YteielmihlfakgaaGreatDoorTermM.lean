/- Contracts: the laws' marks on lists of terms. -/
import Derived.Test.YteielmihlfakgaaGreatDoorProg
import Derived.Test.YteielmihlfakgaaGreatDoorVB
import Derived.Test.YteielmihlfakgaaGreatDoorGrew
namespace Go.Proofs.YteielmihlfakgaaGreatDoor
open Go Go.Proofs Go.RowKit
set_option linter.unusedVariables false
set_option linter.unusedSimpArgs false
set_option maxRecDepth 100000
def mkTerm (k : Nat) (j : Nat) : ETerm := ⟨((k + j * 3 : Nat) : Int), markS (k + j * 3 + 1), ((k + j * 3 + 2 : Nat) : Int)⟩
end Go.Proofs.YteielmihlfakgaaGreatDoor
