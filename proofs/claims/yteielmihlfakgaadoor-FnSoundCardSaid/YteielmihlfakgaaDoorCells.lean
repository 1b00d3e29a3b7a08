/- Reads through a new block. -/
import Derived.Test.YteielmihlfakgaaDoorProg
import Derived.Test.YteielmihlfakgaaDoorBase
namespace Go.Proofs.YteielmihlfakgaaDoor
open Go Go.Proofs
theorem cell_alloc_old (w : World) (o : Obj) (b k : Nat) (h : b < w.heap.size) : (w.alloc o).cell? ⟨b, k, none⟩ = w.cell? ⟨b, k, none⟩ := (New.alloc (New.refl w) o).cell h
theorem cell_alloc_new (w : World) (cs : Array Value) (t : TypeId) (b k : Nat) (h : b = w.heap.size) : (w.alloc (.cells cs t)).cell? ⟨b, k, none⟩ = cs[k]? := by subst h; simp
theorem alloc_one {w : World} {b : Nat} {v : Value} {e : TypeId} (h : b = w.heap.size) : (w.alloc (.cells #[v] e)).cell? ⟨b, 0, none⟩ = some v := by subst h; simp
theorem own_empty {w : World} {base : Nat} {e : TypeId} {sz : Nat} (h : base ≤ w.heap.size) : (w.alloc (.cells #[] e)).ownsRow base e sz (.slice (some ⟨w.heap.size, 0, none⟩) 0 0) 0 [] := by
  refine ⟨by simp, .inr ⟨w.heap.size, 0, #[], rfl, h, Array.getElem?_push_size, Nat.le_refl _, Nat.zero_le _, by simp, by simp⟩⟩
end Go.Proofs.YteielmihlfakgaaDoor
