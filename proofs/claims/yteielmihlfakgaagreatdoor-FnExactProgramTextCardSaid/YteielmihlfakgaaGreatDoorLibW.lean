/- What the library's contracts want of a world: tables and variables, and that new blocks keep it. -/
import Derived.Lib.AppendIntMem
import Derived.Lib.AtoiErrMem
import Derived.Test.YteielmihlfakgaaGreatDoorProg
import Derived.Test.YteielmihlfakgaaGreatDoorVA
import Derived.Test.YteielmihlfakgaaGreatDoorShelf
namespace Go.Proofs.YteielmihlfakgaaGreatDoor
open Go Go.Proofs Go.RowKit
set_option linter.unusedVariables false
set_option linter.unusedSimpArgs false
theorem var?_new {P : Program} {w w' : World} {n : String} {c : Value} {cs : List Value} (h : w.var? P n = some (c :: cs).toArray) (hn : New w w') : w'.var? P n = some (c :: cs).toArray := by
  unfold World.var? at h ⊢
  cases hg : P.globalNamed n with
  | none => simp [hg] at h
  | some g =>
    simp only [hg, Option.bind_some] at h ⊢
    have hlt : g < w.heap.size := by
      rcases Nat.lt_or_ge g w.heap.size with h' | h'
      · exact h'
      · rw [Array.getElem?_eq_none h'] at h; cases h
    rw [hn.block g hlt]; exact h
/-- The table of powers of ten. -/
def PW (w : World) : Prop := Lib.TabIs Tryz.prog w "internal/strconv.uint64pow10" .u64 Lib.pow10Tab
theorem PW.new {w w' : World} (h : PW w) (hn : New w w') : PW w' := by
  unfold PW Lib.TabIs at *
  exact var?_new (c := .int .u64 1) (cs := (Lib.pow10Tab.map fun z => Value.int .u64 z).tail) h hn
/-- The two errors. -/
def ER (w : World) : Prop := (∃ tp p, w.var? Tryz.prog "strconv.ErrSyntax" = some #[.iface tp p]) ∧ (∃ tp p, w.var? Tryz.prog "strconv.ErrRange" = some #[.iface tp p])
theorem ER.new {w w' : World} (h : ER w) (hn : New w w') : ER w' := by
  obtain ⟨⟨t1, p1, h1⟩, ⟨t2, p2, h2⟩⟩ := h
  exact ⟨⟨t1, p1, var?_new (cs := []) h1 hn⟩, ⟨t2, p2, var?_new (cs := []) h2 hn⟩⟩
theorem new_grow {w : World} (k : Nat) (os : Array Obj) : New w (Sort.grow (w.drewN k) os) := Lib.below_grow _ _ (Nat.le_refl _) _ _
theorem new_bytes (w : World) (e : TypeId) (s : ByteArray) : New w (Lib.bytesWorld w e s) := Lib.bytesWorld_below _ _ _
theorem parse_wrong (s : ByteArray) (hlim : s.size ≤ 281474976710656) (h1 : ∀ v, Lib.parseIntB 64 s.data.toList ≠ .ok v) (h2 : Lib.parseIntB 64 s.data.toList ≠ .range) (tp : TypeId) (p : Value) (w : World) (hvar : w.var? Tryz.prog "strconv.ErrSyntax" = some #[.iface tp p]) :
    Calls Tryz.prog 74 #[.string s, .int .i64 10, .int .i64 64] w fun e w' => ∃ N, e = .returned (.tuple #[.int .i64 0, .iface 188 (.pointer (some ⟨N, 0, none⟩))]) ∧ w.heap.size ≤ N ∧ New w w' := by
  rcases hq : Lib.parseIntB 64 s.data.toList with v | _ | _
  · exact absurd hq (h1 v)
  · exact (show Calls Tryz.prog 74 #[.string s, .int .i64 10, .int .i64 64] w _ from Any.strconv_ParseInt_10_at64_syntax_var Tryz.laysC174 s hlim hq tp p w hvar).mono fun e w' ⟨N, he, hN, _, hb⟩ => ⟨N, he, hN, hb⟩
  · exact absurd hq h2
/-- A constant of the library's, whatever it holds. -/
def ML (w : World) : Prop := ∃ m, w.cell? ⟨1, 0, none⟩ = some (.int .i64 m)
theorem ML.new {w w' : World} (h : ML w) (hn : New w w') : ML w' := by
  obtain ⟨m, h⟩ := h
  have hlt : 1 < w.heap.size := by
    rcases Nat.lt_or_ge 1 w.heap.size with h' | h'
    · exact h'
    · unfold World.cell? at h; simp [Array.getElem?_eq_none h'] at h
  exact ⟨m, (hn.cell hlt).trans h⟩
end Go.Proofs.YteielmihlfakgaaGreatDoor
