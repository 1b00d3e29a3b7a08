/- Contracts: faults. -/
import Derived.Test.YtommolbkcjpjhaaDoorProg
import Derived.Test.YtommolbkcjpjhaaDoorNum
import Derived.Test.YtommolbkcjpjhaaDoorFunc
import Derived.Test.YtommolbkcjpjhaaDoorFaultS
namespace Go.Proofs.YtommolbkcjpjhaaDoor
open Go Go.Proofs Go.RowKit
set_option linter.unusedVariables false
set_option linter.unusedSimpArgs false
set_option maxRecDepth 100000
def okF (hi : Int) (x : ESensorFault) : Bool := inB x.blk 0 hi && inB x.chan 0 1 && inB x.val 0 1
def sameF (x o : ESensorFault) : Bool := (o.blk == x.blk) && (o.chan == x.chan)
def pF (hi : Int) (xs : List ESensorFault) (i : Nat) : Bool := match xs[i]? with | some x => okF hi x && !((xs.take i).any (sameF x)) | none => true
theorem pF_at {hi : Int} {xs : List ESensorFault} {k : Nat} (hk : k < xs.length) : pF hi xs k = (okF hi xs[k] && !((xs.take k).any (sameF xs[k]))) := by
  simp [pF, hk]
def faultsOk (b : Int) (xs : List ESensorFault) : Bool := allUp (pF (wrap64 (b - 1)) xs) xs.length && decide (xs.length ≤ 8)
end Go.Proofs.YtommolbkcjpjhaaDoor
