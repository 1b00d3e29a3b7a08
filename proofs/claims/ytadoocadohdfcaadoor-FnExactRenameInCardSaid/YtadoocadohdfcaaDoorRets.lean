/- What calls hand back. -/
import Derived.Test.YtadoocadohdfcaaDoorProg
import Derived.Test.YtadoocadohdfcaaDoorBase
namespace Go.Proofs.YtadoocadohdfcaaDoor
open Go Go.Proofs
/-- A call hands back a list of numbers in new memory, and a code. -/
def RetIC (w : World) (r : List Int × Int) (e : Ending) (w' : World) : Prop := ∃ v, e = .returned (.tuple #[v, .int .i64 r.2]) ∧ New w w' ∧ w'.ownsRow w.heap.size 2 1 v r.1.length (r.1.map (Value.int .i64))
end Go.Proofs.YtadoocadohdfcaaDoor
