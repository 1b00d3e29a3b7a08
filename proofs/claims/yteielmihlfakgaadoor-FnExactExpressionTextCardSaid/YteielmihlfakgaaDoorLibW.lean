/- What the library's contracts want of a world: tables and variables, and that new blocks keep it. -/
import Derived.Lib.AppendIntMem
import Derived.Lib.AtoiErrMem
import Derived.Test.YteielmihlfakgaaDoorProg
import Derived.Test.YteielmihlfakgaaDoorVA
import Derived.Test.YteielmihlfakgaaDoorShelf
namespace Go.Proofs.YteielmihlfakgaaDoor
open Go Go.Proofs Go.RowKit
set_option linter.unusedVariables false
set_option linter.unusedSimpArgs false
theorem var?_new {P : Program} {w w' : World} {n : String} {c : Value} {cs : List Value} (h : w.var? P n = some (c :: cs).toArray) (hn : New w w') : w'.var? P n = some (c :: cs).toArray := by
  unfold World.var? at h ⊢
  cases hg : P.globalNamed n with
  | none => simp [hg] at h
  | some g =>
    simp only [hg, Option.bind_some] at h ⊢
    have hlt : g < w.heap.size := by
      rcases Nat.lt_or_ge g w.heap.size with h' | h'
      · exact h'
      · rw [Array.getElem?_eq_none h'] at h; cases h
    rw [hn.block g hlt]; exact h
/-- The table of powers of ten. -/
def PW (w : World) : Prop := Lib.TabIs Tryd.prog w "internal/strconv.uint64pow10" .u64 Lib.pow10Tab
theorem PW.new {w w' : World} (h : PW w) (hn : New w w') : PW w' := by
  unfold PW Lib.TabIs at *
  exact var?_new (c := .int .u64 1) (cs := (Lib.pow10Tab.map fun z => Value.int .u64 z).tail) h hn
/-- The two errors. -/
def ER (w : World) : Prop := (∃ tp p, w.var? Tryd.prog "strconv.ErrSyntax" = some #[.iface tp p]) ∧ (∃ tp p, w.var? Tryd.prog "strconv.ErrRange" = some #[.iface tp p])
theorem ER.new {w w' : World} (h : ER w) (hn : New w w') : ER w' := by
  obtain ⟨⟨t1, p1, h1⟩, ⟨t2, p2, h2⟩⟩ := h
  exact ⟨⟨t1, p1, var?_new (cs := []) h1 hn⟩, ⟨t2, p2, var?_new (cs := []) h2 hn⟩⟩
theorem new_grow {w : World} (k : Nat) (os : Array Obj) : New w (Sort.grow (w.drewN k) os) := Lib.below_grow _ _ (Nat.le_refl _) _ _
theorem new_bytes (w : World) (e : TypeId) (s : ByteArray) : New w (Lib.bytesWorld w e s) := Lib.bytesWorld_below _ _ _
end Go.Proofs.YteielmihlfakgaaDoor
