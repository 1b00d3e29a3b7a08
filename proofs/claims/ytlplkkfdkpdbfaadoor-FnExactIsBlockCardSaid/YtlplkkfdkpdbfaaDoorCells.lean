/- Reads through a new block. -/
import Derived.Test.YtlplkkfdkpdbfaaDoorProg
import Derived.Test.YtlplkkfdkpdbfaaDoorBase
namespace Go.Proofs.YtlplkkfdkpdbfaaDoor
open Go Go.Proofs
theorem cell_alloc_old (w : World) (o : Obj) (b k : Nat) (h : b < w.heap.size) : (w.alloc o).cell? ⟨b, k, none⟩ = w.cell? ⟨b, k, none⟩ := (New.alloc (New.refl w) o).cell h
theorem cell_alloc_new (w : World) (cs : Array Value) (t : TypeId) (b k : Nat) (h : b = w.heap.size) : (w.alloc (.cells cs t)).cell? ⟨b, k, none⟩ = cs[k]? := by subst h; simp
end Go.Proofs.YtlplkkfdkpdbfaaDoor
