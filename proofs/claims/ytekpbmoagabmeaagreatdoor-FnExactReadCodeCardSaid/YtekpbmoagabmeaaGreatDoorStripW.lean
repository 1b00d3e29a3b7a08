/- Contracts: texts without their comments. -/
import Derived.Test.YtekpbmoagabmeaaGreatDoorProg
import Derived.Test.YtekpbmoagabmeaaGreatDoorSpl
import Derived.Test.YtekpbmoagabmeaaGreatDoorBytesW
import Derived.Test.YtekpbmoagabmeaaGreatDoorLibW
import Derived.Test.YtekpbmoagabmeaaGreatDoorShelf
namespace Go.Proofs.YtekpbmoagabmeaaGreatDoor
open Go Go.Proofs Go.RowKit
set_option linter.unusedVariables false
set_option linter.unusedSimpArgs false
set_option maxRecDepth 100000
def stripR (s : ByteArray) : ByteArray × Int := if (6000 : Int) < s.size then (⟨#[]⟩, 3) else (strL (strip false s.data.toList), 0)
/-- What is left to keep. -/
theorem strip_step {s : ByteArray} {k : Nat} (h : k < s.size) (cm : Bool) : strip cm (s.data.toList.drop k) = if s[k] = 10 then s[k] :: strip false (s.data.toList.drop (k + 1)) else if (cm || s[k] == 35) then strip true (s.data.toList.drop (k + 1)) else s[k] :: strip false (s.data.toList.drop (k + 1)) := by
  rw [drop_at s k h, strip]
end Go.Proofs.YtekpbmoagabmeaaGreatDoor
