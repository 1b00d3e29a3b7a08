/- Contracts: is a state possible, is a block faulty. -/
import Derived.Test.YtekpbmoagabmeaaGreatDoorProg
import Derived.Test.YtekpbmoagabmeaaGreatDoorBlocks
namespace Go.Proofs.YtekpbmoagabmeaaGreatDoor
open Go Go.Proofs Go.RowKit
set_option linter.unusedVariables false
set_option linter.unusedSimpArgs false
set_option maxRecDepth 100000
def canB (k : Int) (s : ByteArray) (n a b c : Int) : Bool := isBlk k s n && posB k n a b c
/-- The code of a block and a state. -/
def canCode (k : Int) (s : ByteArray) (n a b c : Int) : Int := if isBlk k s n = true then (if posB k n a b c = true then 0 else 2) else 1
def faultyOf (k : Int) (s : ByteArray) (n a b c : Int) : Bool := canB k s n a b c && c == 1
theorem pos_pair {k n a b c : Int} (h : posB k n a b c = true) (hc : c = 1) : k = 12 := by
  subst hc
  unfold posB at h
  split at h
  · simp at h
  · split at h
    · simp at h
    · split at h
      · assumption
      · simp at h
end Go.Proofs.YtekpbmoagabmeaaGreatDoor
