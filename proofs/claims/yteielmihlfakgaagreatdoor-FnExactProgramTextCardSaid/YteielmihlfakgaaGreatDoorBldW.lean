/- Contracts: a strings.Builder that is the call's own first block. -/
import Derived.Test.YteielmihlfakgaaGreatDoorProg
import Derived.Test.YteielmihlfakgaaGreatDoorVA
import Derived.Test.YteielmihlfakgaaGreatDoorShelf
namespace Go.Proofs.YteielmihlfakgaaGreatDoor
open Go Go.Proofs Go.RowKit
set_option linter.unusedVariables false
set_option linter.unusedSimpArgs false
set_option maxRecDepth 100000
/-- The builder at block B holds the bytes l. -/
def Bld (B : Nat) (w : World) (l : List UInt8) : Prop := Lib.IsBuilderF 106 5 B B (Lib.byteCells l) w
theorem bldAt_new {w w' : World} {B : Nat} {p : Value} {l : List Value} (h : Lib.BuilderAtF 106 5 B B p l w) (hn : New w w') : Lib.BuilderAtF 106 5 B B p l w' := by
  obtain ⟨hB, v, hb, hown, hne⟩ := h
  refine ⟨hB, v, (Below.block hn B (Array.getElem?_eq_some_iff.1 hb).1).trans hb, ⟨hown.1, ?_⟩, hne⟩
  rcases hown.2 with h0 | ⟨g, cap, cur, fz, rfl, hg, hgg, rest⟩
  · exact .inl h0
  · exact .inr ⟨g, cap, cur, fz, rfl, hg, (Below.block hn g (Array.getElem?_eq_some_iff.1 hgg).1).trans hgg, rest⟩
theorem Bld.new {w w' : World} {B : Nat} {l : List UInt8} (h : Bld B w l) (hn : New w w') : Bld B w' l := by
  rcases h with h | h
  · exact .inl (bldAt_new h hn)
  · exact .inr (bldAt_new h hn)
theorem Bld.lt {w : World} {B : Nat} {l : List UInt8} (h : Bld B w l) : B < w.heap.size := by
  rcases h with h | h <;> exact h.lt
theorem bld_fresh (w : World) : Bld w.heap.size (w.alloc (.cells #[.pointer none, .slice none 0 0] 106)) [] := Lib.IsBuilderF.of (Lib.fresh_isBuilder _ _ w)
/-- Blocks of another type are kept. -/
def KeptB (B : Nat) (w w' : World) : Prop := ∀ k cs T fz, k ≠ B → T ≠ 5 → w.heap[k]? = some (.cells cs T fz) → w'.heap[k]? = some (.cells cs T fz)
theorem kept_of {B : Nat} {w w' : World} (h : Lib.OthersKept 5 (some B) w w') : KeptB B w w' := by
  intro k cs T fz hk hT hh
  refine h k _ hh (fun e => hk (Option.some.inj e)) (fun c fz' e => ?_)
  cases e
  exact hT rfl
theorem bWriteByte (B : Nat) (l : List UInt8) (c : UInt8) (w : World) (h : Bld B w l) (hl : l.length ≤ 1000000000) : 
    Calls Tryz.prog 102 #[.pointer (some ⟨B, 0, none⟩), .int .u8 c.toNat] w fun e w' => e = .returned .nilIface ∧ Bld B w' (l ++ [c]) ∧ Below B w w' ∧ KeptB B w w' := by
  refine (show Calls Tryz.prog 102 #[.pointer (some ⟨B, 0, none⟩), .int .u8 c.toNat] w _ from Any.Builder_WriteByte_k Tryz.laysB167 Tryz.Builder_Extra_B B B (Lib.byteCells l) c.toNat w h (by rw [Lib.byteCells_length]; omega) (Nat.le_of_lt h.lt)).mono ?_
  rintro e w' ⟨he, h1, h2, h3⟩
  refine ⟨he, .inr ?_, h2, kept_of h3⟩
  rw [show Lib.byteCells (l ++ [c]) = Lib.byteCells l ++ [.int .u8 c.toNat] by simp [Lib.byteCells]]
  exact h1
theorem bWriteString (B : Nat) (l : List UInt8) (s : ByteArray) (w : World) (h : Bld B w l) (hl : l.length + s.size ≤ 1000000000) : 
    Calls Tryz.prog 65 #[.pointer (some ⟨B, 0, none⟩), .string s] w fun e w' => e = .returned (.tuple #[.int .i64 s.size, .nilIface]) ∧ Bld B w' (l ++ s.data.toList) ∧ Below B w w' ∧ KeptB B w w' := by
  refine (show Calls Tryz.prog 65 #[.pointer (some ⟨B, 0, none⟩), .string s] w _ from Any.Builder_WriteString_k Tryz.laysB166 Tryz.Builder_Extra_B B B (Lib.byteCells l) s w h (by rw [Lib.byteCells_length]; omega) (Nat.le_of_lt h.lt)).mono ?_
  rintro e w' ⟨he, h1, h2, h3⟩
  refine ⟨he, .inr ?_, h2, kept_of h3⟩
  rw [show Lib.byteCells (l ++ s.data.toList) = Lib.byteCells l ++ Lib.strCells s by simp [Lib.byteCells, Lib.strCells]]
  exact h1
theorem bString (B : Nat) (l : List UInt8) (w : World) (h : Bld B w l) : 
    Calls Tryz.prog 69 #[.pointer (some ⟨B, 0, none⟩)] w fun e w' => e = .returned (.string ⟨l.toArray⟩) ∧ Below B w w' := by
  refine (show Calls Tryz.prog 69 #[.pointer (some ⟨B, 0, none⟩)] w _ from Any.Builder_String_any_k Tryz.lays169 Tryz.Builder_Extra_169 B B l w h (Nat.le_of_lt h.lt)).mono ?_
  rintro e w' ⟨he, _, h2, _⟩
  exact ⟨he, h2⟩
theorem cell_heap {w : World} {b : Nat} {cs : Array Value} {T : TypeId} {fz : Nat × Nat} (h : w.heap[b]? = some (.cells cs T fz)) {j : Nat} {u : Value} (hj : cs[j]? = some u) : w.cell? ⟨b, j, none⟩ = some u := by simp [World.cell?, h, hj]
end Go.Proofs.YteielmihlfakgaaGreatDoor
