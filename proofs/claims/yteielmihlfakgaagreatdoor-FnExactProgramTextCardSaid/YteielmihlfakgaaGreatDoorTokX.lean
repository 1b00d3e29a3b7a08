/- Rows of tokens, told by their texts alone. -/
import Derived.Test.YteielmihlfakgaaGreatDoorProg
import Derived.Test.YteielmihlfakgaaGreatDoorTokS
import Derived.Test.YteielmihlfakgaaGreatDoorAppStep
import Derived.Test.YteielmihlfakgaaGreatDoorVA
namespace Go.Proofs.YteielmihlfakgaaGreatDoor
open Go Go.Proofs Go.RowKit
set_option linter.unusedVariables false
set_option linter.unusedSimpArgs false
set_option maxRecDepth 100000
def txts (xs : List EToken) : List ByteArray := xs.map (·.text)
/-- The slice reads tokens with these texts. -/
def RdX (w : World) (v : Value) (T : List ByteArray) : Prop := ∃ xs : List EToken, txts xs = T ∧ Rd w v xs.length (xs.flatMap encToken)
/-- The slice is a row of the call's own, of tokens with these texts. -/
def OwnX (base : Nat) (w : World) (v : Value) (T : List ByteArray) : Prop := ∃ xs : List EToken, txts xs = T ∧ w.ownsRow base 132 2 v xs.length (xs.flatMap encToken)
theorem txts_len {xs : List EToken} {T : List ByteArray} (h : txts xs = T) : xs.length = T.length := by rw [← h, txts, List.length_map]
theorem RdX.new {w w' : World} {v : Value} {T : List ByteArray} (h : RdX w v T) (hn : New w w') : RdX w' v T := by
  obtain ⟨xs, h1, h2⟩ := h; exact ⟨xs, h1, h2.new hn⟩
theorem OwnX.new {base : Nat} {w w' : World} {v : Value} {T : List ByteArray} (h : OwnX base w v T) (hn : New w w') : OwnX base w' v T := by
  obtain ⟨xs, h1, h2⟩ := h; exact ⟨xs, h1, own_new h2 hn⟩
theorem OwnX.base {base b' : Nat} {w : World} {v : Value} {T : List ByteArray} (h : OwnX base w v T) (hb : b' ≤ base) : OwnX b' w v T := by
  obtain ⟨xs, h1, h2⟩ := h; exact ⟨xs, h1, own_base h2 hb⟩
theorem OwnX.rd {base : Nat} {w : World} {v : Value} {T : List ByteArray} (h : OwnX base w v T) : RdX w v T := by
  obtain ⟨xs, h1, h2⟩ := h; exact ⟨xs, h1, own_rd h2⟩
theorem OwnX.slice {base : Nat} {w : World} {v : Value} {T : List ByteArray} (h : OwnX base w v T) : ∃ a c, v = .slice a T.length c := by
  obtain ⟨xs, h1, h2⟩ := h; rw [← txts_len h1]; exact own_slice h2
theorem RdX.slice {w : World} {v : Value} {T : List ByteArray} (h : RdX w v T) : ∃ a c, v = .slice a T.length c := by
  obtain ⟨xs, h1, a, c, h2, _⟩ := h; rw [← txts_len h1]; exact ⟨a, c, h2⟩
theorem OwnX.block {base : Nat} {w : World} {v : Value} {T : List ByteArray} (h : OwnX base w v T) : ∀ k, v.ownBlock = some k → base ≤ k ∧ k < w.heap.size := by
  obtain ⟨xs, h1, h2⟩ := h; exact own_block_lt h2
theorem OwnX.nil (w : World) (base : Nat) : OwnX base w (.slice none 0 0) [] := ⟨[], rfl, World.ownsRow_nil _ _ _ _⟩
theorem OwnX.empty {w : World} {base : Nat} (h : base ≤ w.heap.size) {T : TypeId} (hT : T = 132) : OwnX base (w.alloc (.cells #[] T)) (.slice (some ⟨w.heap.size, 0, none⟩) 0 0) [] := by
  subst hT; exact ⟨[], rfl, own_empty h⟩
/-- What a call that hands back tokens leaves. -/
def RetX (w : World) (T : List ByteArray) (e : Ending) (w' : World) : Prop := ∃ r, e = .returned r ∧ New w w' ∧ OwnX w.heap.size w' r T
theorem encK_one (xs : List EToken) : ∀ u ∈ xs.flatMap encToken, u.oneCell' = true := by
  intro u hu
  obtain ⟨x, _, hx⟩ := List.mem_flatMap.1 hu
  simp [encToken] at hx
  rcases hx with rfl | rfl <;> rfl
theorem encK_one1 (x : EToken) : ∀ u ∈ encToken x, u.oneCell' = true := by
  intro u hu
  simp [encToken] at hu
  rcases hu with rfl | rfl <;> rfl
/-- Append of tokens to a row of the call's own. -/
theorem wpList_append_X {w : World} {ops : Array Oper} {rest : List Oper} {o : Oper} {a : Act} {Q : Exit → Act → World → Prop} (hgd : o.guard = none) (s x : Operand)
    (ho : o.op = .call { callee := .builtin .append, args := #[s, x], argTypes := #[88, 88] })
    (base : Nat) (v : Value) (A : List ByteArray) (hs : a.eval s = v) (hown : OwnX base w v A) (xv : Value) (B : List ByteArray) (hx : a.eval x = xv) (hrd : RdX w xv B)
    (hl : A.length + B.length ≤ 1000000) (hbase : base ≤ w.heap.size)
    (h : ∀ v' w', OwnX base w' v' (A ++ B) → (∀ W, New W w → W.heap.size ≤ base → New W w') → wpList Tryz.prog ops Q rest (a.put o.dst v') w') : wpList Tryz.prog ops Q (o :: rest) a w := by
  obtain ⟨i0, hi, hz0, hz1, hz2⟩ := info_parts infoToken
  obtain ⟨xs, hA, ow⟩ := hown
  obtain ⟨ys, hB, rd⟩ := hrd
  have l1 := txts_len hA
  have l2 := txts_len hB
  refine wpList_append_rd hgd s x 88 ho base 132 i0 (Value.agg #[.int .i64 0, .string ⟨#[]⟩]) 2 24 Tryz.underlying88 hi hz0 hz1 hz2 rfl (by decide) v xs.length _ hs ow xv ys.length _ hx rd (flat_length encToken 2 encToken_len _) (encK_one _) (by unfold maxLen; omega) (by omega) hbase ?_
  intro v' w' h1 hg
  refine h v' w' ⟨xs ++ ys, by rw [txts, List.map_append, ← txts, ← txts, hA, hB], ?_⟩ (fun W hW hb => New.grown hW hg (fun q hq => Nat.le_trans hb (own_block_lt ow q hq).1))
  rw [List.length_append, List.flatMap_append]; exact h1
theorem step_append_X {w : World} {ops : Array Oper} {o : Oper} {a : Act} {K : Act → World → Prop} {Q : Exit → Act → World → Prop} {E : Prop} (hgd : o.guard = none) (s x : Operand)
    (ho : o.op = .call { callee := .builtin .append, args := #[s, x], argTypes := #[88, 88] })
    (base : Nat) (v : Value) (A : List ByteArray) (hs : a.eval s = v) (hown : OwnX base w v A) (xv : Value) (B : List ByteArray) (hx : a.eval x = xv) (hrd : RdX w xv B)
    (hl : A.length + B.length ≤ 1000000) (hbase : base ≤ w.heap.size)
    (h : ∀ v' w', OwnX base w' v' (A ++ B) → (∀ W, New W w → W.heap.size ≤ base → New W w') → K (a.put o.dst v') w') : if Region.wanted o (yielded ops a.tmps) = true then Oper.wp Tryz.prog o a w K Q else E := by
  obtain ⟨i0, hi, hz0, hz1, hz2⟩ := info_parts infoToken
  obtain ⟨xs, hA, ow⟩ := hown
  obtain ⟨ys, hB, rd⟩ := hrd
  have l1 := txts_len hA
  have l2 := txts_len hB
  refine step_append_rd hgd s x 88 ho base 132 i0 (Value.agg #[.int .i64 0, .string ⟨#[]⟩]) 2 24 Tryz.underlying88 hi hz0 hz1 hz2 rfl (by decide) v xs.length _ hs ow xv ys.length _ hx rd (flat_length encToken 2 encToken_len _) (encK_one _) (by unfold maxLen; omega) (by omega) hbase ?_
  intro v' w' h1 hg
  refine h v' w' ⟨xs ++ ys, by rw [txts, List.map_append, ← txts, ← txts, hA, hB], ?_⟩ (fun W hW hb => New.grown hW hg (fun q hq => Nat.le_trans hb (own_block_lt ow q hq).1))
  rw [List.length_append, List.flatMap_append]; exact h1
/-- One token in a block of its own. -/
theorem rdX_one {w : World} {k : Int} {s : ByteArray} {T : TypeId} : RdX (w.alloc (.cells #[.int .i64 k, .string s] T)) (.slice (some ⟨w.heap.size, 0, none⟩) 1 1) [s] := by
  refine ⟨[⟨k, s⟩], rfl, some ⟨w.heap.size, 0, none⟩, 1, rfl, by simp, ⟨(fun h => by cases h), Nat.le_refl _⟩, fun j u hu => ⟨w.heap.size, 0, rfl, by simp, ?_⟩⟩
  rw [Nat.zero_add]
  rw [World.cell?, heap_alloc_self]
  simpa [encToken] using hu
end Go.Proofs.YteielmihlfakgaaGreatDoor
