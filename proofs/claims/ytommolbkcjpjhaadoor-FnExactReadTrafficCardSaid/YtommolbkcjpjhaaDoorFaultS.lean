/- Contracts: the laws' helpers on lists of faults. -/
import Derived.Test.YtommolbkcjpjhaaDoorProg
import Derived.Test.YtommolbkcjpjhaaDoorInts
namespace Go.Proofs.YtommolbkcjpjhaaDoor
open Go Go.Proofs Go.RowKit
set_option linter.unusedVariables false
set_option linter.unusedSimpArgs false
set_option maxRecDepth 100000
structure ESensorFault where (blk : Int) (chan : Int) (val : Int)
  deriving DecidableEq
def encSensorFault (x : ESensorFault) : List Value := [.int .i64 x.blk, .int .i64 x.chan, .int .i64 x.val]
theorem encSensorFault_len (x : ESensorFault) : (encSensorFault x).length = 3 := rfl
def valSensorFault (x : ESensorFault) : Value := .agg #[.int .i64 x.blk, .int .i64 x.chan, .int .i64 x.val]
def mkSensorFault (k : Nat) (j : Nat) : ESensorFault := ⟨((k + j * 3 : Nat) : Int), ((k + j * 3 + 1 : Nat) : Int), ((k + j * 3 + 2 : Nat) : Int)⟩
end Go.Proofs.YtommolbkcjpjhaaDoor
