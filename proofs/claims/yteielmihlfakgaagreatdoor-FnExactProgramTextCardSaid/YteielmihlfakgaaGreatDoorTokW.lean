/- Contracts: tokens. -/
import Derived.Test.YteielmihlfakgaaGreatDoorProg
import Derived.Test.YteielmihlfakgaaGreatDoorNumW
import Derived.Test.YteielmihlfakgaaGreatDoorVB
namespace Go.Proofs.YteielmihlfakgaaGreatDoor
open Go Go.Proofs Go.RowKit
set_option linter.unusedVariables false
set_option linter.unusedSimpArgs false
set_option maxRecDepth 100000
def signL : List UInt8 := [61, 40, 41, 44, 59]
def isSgn (l : List UInt8) : Bool := signL.any fun c => l == [c]
theorem cmp_lit (s : ByteArray) (l : List UInt8) : (s.toList == (⟨l.toArray⟩ : ByteArray).toList) = (s.data.toList == l) := by rw [ByteArray.toList_eq, ByteArray.toList_eq]
theorem sSign_any (s : ByteArray) (w : World) : Calls Tryz.prog 89 #[.string s] w fun e w' => e = .returned (.bool (isSgn s.data.toList)) ∧ w = w' := by
  have e : isSgn s.data.toList = (s.data.toList == [61] || (s.data.toList == [40] || (s.data.toList == [41] || (s.data.toList == [44] || s.data.toList == [59])))) := by simp [isSgn, signL]
  have E := Lib.hid e; clear e
  go_enter Tryz.func89, Tryz.ntmps89
  go_wp2_with fail
  all_goals
    go_ret
    refine ⟨ret_bool ?_, rfl⟩
    have e := E.out
    rw [← ByteArray.toList_eq] at e ⊢
    rw [e]
    simp_all [Bool.or_assoc]
/-- A token, by its kind and text. -/
def tokB (k : Int) (s : ByteArray) : Bool := if k = 1 then isWordB s else if k = 2 then isCnt s.data.toList else if k = 3 then isSgn s.data.toList else false
end Go.Proofs.YteielmihlfakgaaGreatDoor
