/- Contracts: texts of expressions and programs: the program. -/
import Derived.Test.YteielmihlfakgaaGreatDoorProg
import Derived.Test.YteielmihlfakgaaGreatDoorExpK
import Derived.Test.YteielmihlfakgaaGreatDoorPtxtP
import Derived.Test.YteielmihlfakgaaGreatDoorUF
import Derived.Test.YteielmihlfakgaaGreatDoorUG
namespace Go.Proofs.YteielmihlfakgaaGreatDoor
open Go Go.Proofs Go.RowKit
set_option linter.unusedVariables false
set_option linter.unusedSimpArgs false
set_option maxRecDepth 100000
/-- What a text call hands back. -/
def etR (ts : List ETerm) : ByteArray × Int := if okH ts = true then (strL (stdT (exprT ts)), 0) else (⟨#[]⟩, 1)
def ptR (p : ProgD) : ByteArray × Int := if wB p = true then (strL (stdT (progT p)), 0) else (⟨#[]⟩, 1)
end Go.Proofs.YteielmihlfakgaaGreatDoor
