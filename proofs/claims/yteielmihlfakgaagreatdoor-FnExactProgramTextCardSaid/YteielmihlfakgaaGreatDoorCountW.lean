/- Contracts: lists of tokens. -/
import Derived.Test.YteielmihlfakgaaGreatDoorProg
import Derived.Test.YteielmihlfakgaaGreatDoorTokFn
namespace Go.Proofs.YteielmihlfakgaaGreatDoor
open Go Go.Proofs Go.RowKit
set_option linter.unusedVariables false
set_option linter.unusedSimpArgs false
set_option maxRecDepth 100000
def badTok (t : EToken) : Bool := !tokB t.kind t.text
/-- The code of a list of tokens. -/
def tokCode (ts : List EToken) : Int := if 800 < ts.length then 3 else if ts.any badTok then 1 else 0
end Go.Proofs.YteielmihlfakgaaGreatDoor
