/- A row of bytes of the call's own that a conversion may have made (its mark lies behind its last cell): append of a string, conversion back. -/
import Derived.Deep.RegionHeld3
import Derived.Deep.AppendLies
import Derived.Deep.DrawnRows
import Derived.Lib.AppendStr
import Derived.Laws.AppendOwn
import Derived.Laws.IdiomStrings
import Derived.Laws.IdiomCopy
import Derived.Laws.BytesArg
import Derived.Lib.ConvBytes
import Derived.Test.YteielmihlfakgaaGreatDoorProg
import Derived.Test.YteielmihlfakgaaGreatDoorNumW
import Derived.Test.YteielmihlfakgaaGreatDoorVA
import Derived.Test.YteielmihlfakgaaGreatDoorVD
namespace Go.Proofs.YteielmihlfakgaaGreatDoor
open Go Go.Proofs Go.RowKit
set_option linter.unusedVariables false
set_option linter.unusedSimpArgs false
set_option maxRecDepth 100000
/-- The row in block g, of capacity cap, holds the bytes l. -/
structure RowM (base g cap : Nat) (w : World) (l : List UInt8) : Prop where
  hb : base ≤ g
  hg : g < w.heap.size
  hc : l.length ≤ cap
  hm : cap ≤ maxLen
  cell : ∀ j (h : j < l.length), w.cell? ⟨g, j, none⟩ = some (byteC l[j])
  some : ∀ j, j < cap → (w.cell? ⟨g, j, none⟩).isSome = true
  free : ∀ j, j < cap → w.frozen? ⟨g, j, none⟩ = false
def OwnM (base : Nat) (w : World) (v : Value) (l : List UInt8) : Prop := ∃ g cap, v = .slice (some ⟨g, 0, none⟩) l.length cap ∧ RowM base g cap w l
theorem OwnM.new {base : Nat} {w w' : World} {v : Value} {l : List UInt8} (h : OwnM base w v l) (hn : New w w') : OwnM base w' v l := by
  obtain ⟨g, cap, rfl, h⟩ := h
  refine ⟨g, cap, rfl, h.hb, Nat.lt_of_lt_of_le h.hg hn.size, h.hc, h.hm, fun j hj => (hn.cell h.hg).trans (h.cell j hj), fun j hj => ?_, fun j hj => (hn.frozen h.hg).trans (h.free j hj)⟩
  rw [hn.cell h.hg]; exact h.some j hj
theorem OwnM.conv {base : Nat} {w : World} {v : Value} {l : List UInt8} (h : OwnM base w v l) : (convert 22 9 v).run Tryz.prog w = .ok (.string (strL l)) w := by
  obtain ⟨g, cap, rfl, h⟩ := h
  exact run_convert_bytes_back (P := Tryz.prog) w 22 9 5 ⟨g, 0, none⟩ cap l Tryz.underlying22 Tryz.underlying5 Tryz.underlying9 (fun j hj => by
      have e : (⟨g, 0, none⟩ : Addr).add j = ⟨g, j, none⟩ := by unfold Addr.add; split <;> simp_all
      rw [e, h.cell j hj]; rfl)
/-- What a conversion made. -/
theorem ownM_conv (w : World) (base : Nat) (hb : base ≤ w.heap.size) (l : List UInt8) (hl : l.length ≤ 1000000) :
    ∃ v w', (convert 9 22 (.string (strL l))).run Tryz.prog w = .ok v w' ∧ OwnM base w' v l ∧ New w w' := by
  refine ⟨_, _, Lib.run_convert_string_bytes (P := Tryz.prog) w 9 22 5 (strL l) Tryz.underlying9 Tryz.underlying22 Tryz.underlying5, ?_, ?_⟩
  · have hge := grownCap_ge w (strL l).size 0 5
    have hcm := grownCap_le_maxLen w (strL l).size 0 5 (by rw [strL_size]; unfold maxLen; omega)
    have hsz : (Lib.bytesCells w 5 (strL l)).size = grownCap w (strL l).size 0 5 := by
      have : (strL l).data.size = (strL l).size := rfl
      simp only [Lib.bytesCells, Array.size_append, Array.size_map, Array.size_replicate]; omega
    have hnew := Lib.bytesWorld_at_new w 5 (strL l)
    rw [strL_size] at hge hcm hsz
    rw [strL_size]
    refine ⟨w.heap.size, _, rfl, hb, by rw [Lib.bytesWorld_size]; omega, hge, hcm, fun j hj => ?_, fun j hj => ?_, fun j hj => ?_⟩
    · rw [Lib.bytesWorld_cell w 5 (strL l) j (by rw [strL_size]; exact hj), strL_list]
      simp [byteC, List.getD, hj]
    · simp [World.cell?, hnew, hsz, hj]
    · simp [World.frozen?, hnew, hsz, hj]; omega
  · exact ⟨rfl, rfl, rfl, by rw [Lib.bytesWorld_size]; omega, fun j hj => Lib.bytesWorld_at_old w _ _ j hj⟩
theorem setCell_grown (w : World) (g o : Nat) (u : Value) : w.grownBy (w.setCell ⟨g, o, none⟩ u) (some g) :=
  ⟨rfl, rfl, rfl, by simp, fun k _ hne => by
    have : g ≠ k := fun e => hne (by rw [e])
    simp [World.setCell, Array.getElem?_modify, this]⟩
theorem setCells_grown (g : Nat) : ∀ (vs : List Value) (o : Nat) (w : World), w.grownBy (w.setCells g o vs) (some g)
  | [], _, _ => ⟨rfl, rfl, rfl, Nat.le_refl _, fun _ _ _ => rfl⟩
  | u :: vs, o, w => by
    have h1 := setCell_grown w g o u
    have h2 := setCells_grown g vs (o + 1) (w.setCell ⟨g, o, none⟩ u)
    exact ⟨h2.os.trans h1.os, h2.tape.trans h1.tape, h2.output.trans h1.output, Nat.le_trans h1.size h2.size, fun k hk hne => (h2.block k (Nat.lt_of_lt_of_le hk h1.size) hne).trans (h1.block k hk hne)⟩
theorem cat_at (l m : List UInt8) (j : Nat) (hj : j < (l ++ m).length) : (l ++ m)[j] = if h : j < l.length then l[j] else m[j - l.length]'(by simp at hj; omega) := by
  rw [List.getElem_append]
theorem run_append_ownM (base : Nat) (ty : TypeId) (v : Value) (l : List UInt8) (s : ByteArray) (w : World) (h : OwnM base w v l) (hl : l.length + s.size ≤ 100000000) (hbase : base ≤ w.heap.size) :
    ∃ v' w', (Builtin.append_ #[22, 9] ty #[v, .string s]).run Tryz.prog w = .ok v' w' ∧ OwnM base w' v' (l ++ s.data.toList) ∧ w.grownBy w' v.ownBlock := by
  obtain ⟨i0, hi, hz0, hz1, hz2⟩ := info_parts infoU8
  obtain ⟨g, cap, rfl, h⟩ := h
  have hds : s.data.toList.length = s.size := by rw [Array.length_toList]; rfl
  have hsl := Lib.strCells_length s
  have hc := h.hc
  have hcm := h.hm
  by_cases hroom : l.length + s.size ≤ cap
  · have hf := Lib.run_firstCells_string (P := Tryz.prog) w 1 s
    have hst := run_storeCells_cells (P := Tryz.prog) g l.length (Lib.strCells s) 0 w (fun j hj => by rw [Nat.add_zero]; exact h.some _ (by omega)) (fun j hj => by rw [Nat.add_zero]; exact h.free _ (by omega)) (Lib.strCells_oneCell s)
    rw [Nat.add_zero] at hst
    refine ⟨.slice (some ⟨g, 0, none⟩) (l.length + s.size) cap, w.setCells g l.length (Lib.strCells s), ?_, ⟨g, cap, by rw [List.length_append, hds], h.hb, ?_, by rw [List.length_append, hds]; omega, hcm, ?_, ?_, ?_⟩, setCells_grown g _ _ _⟩
    · simp [Builtin.append_, run_underlying Tryz.underlying22, run_underlying Tryz.underlying9, sizeOf, typeInfo, hi, hz1, Builtin.lenOf, hroom, hf, Addr.add_lit, hst]
    · exact Nat.lt_of_lt_of_le h.hg (setCells_grown g _ _ _).size
    · intro j hj
      rw [cat_at]
      split
      · next hjl => rw [World.cell?_setCells_out _ _ _ _ _ (fun _ _ => .inl hjl)]; exact h.cell j hjl
      · next hjl =>
        rw [List.length_append, hds] at hj
        have hin := World.cell?_setCells_in g (Lib.strCells s) l.length w (fun j hj => h.some _ (by omega)) (j - l.length) (by omega)
        rw [show l.length + (j - l.length) = j by omega] at hin
        rw [hin]
        simp [Lib.strCells, byteC]
    · intro j hj
      by_cases hin : l.length ≤ j ∧ j < l.length + s.size
      · have hh := World.cell?_setCells_in g (Lib.strCells s) l.length w (fun j hj => h.some _ (by omega)) (j - l.length) (by omega)
        rw [show l.length + (j - l.length) = j by omega] at hh
        rw [hh]; rfl
      · rw [World.cell?_setCells_out _ _ _ _ _ (fun _ _ => by dsimp; omega)]; exact h.some j hj
    · intro j hj
      rw [World.frozen?_setCells]; exact h.free j hj
  · have holds : ∀ j u, (l.map byteC)[j]? = some u → w.cell? ((⟨g, 0, none⟩ : Addr).add j) = some u := by
      intro j u hu
      have e : (⟨g, 0, none⟩ : Addr).add j = ⟨g, j, none⟩ := by unfold Addr.add; split <;> simp_all
      rw [e]
      obtain ⟨hj, he⟩ := List.getElem?_eq_some_iff.1 hu
      rw [List.getElem_map] at he
      rw [h.cell j (by simpa using hj), he]
    have hr := Lib.run_append_grow_string (P := Tryz.prog) w 22 9 ty 5 i0 (.int .u8 0) Tryz.underlying22 Tryz.underlying9 hi hz0 ⟨g, 0, none⟩ l.length cap (l.map byteC) (by rw [hz1]; simp) holds s (by omega) (by omega) (by rw [hz2]; exact growslice_fits (by omega) (by omega))
    have hge := grownCap_ge w (l.length + s.size) cap 5
    have hgm := grownCap_le_maxLen w (l.length + s.size) cap 5 (by unfold maxLen; omega)
    generalize grownCap w (l.length + s.size) cap 5 = gc at hr hge hgm
    have hz1 : (Value.int IntKind.u8 0).cells.size = 1 := rfl
    have hcz : ((l.map byteC).toArray ++ (Lib.strCells s).toArray ++ Builtin.zeroCells (Value.int .u8 0).cells (gc - (l.length + s.size))).size = gc := by
      simp only [Array.size_append, List.size_toArray, size_zeroCells, hz1, List.length_map, hsl]; omega
    have hcl : ∀ j (h : j < (l ++ s.data.toList).length), ((l.map byteC).toArray ++ (Lib.strCells s).toArray ++ Builtin.zeroCells (Value.int .u8 0).cells (gc - (l.length + s.size)))[j]? = some (byteC (l ++ s.data.toList)[j]) := by
      intro j hj
      have e : (l.map byteC).toArray ++ (Lib.strCells s).toArray = ((l ++ s.data.toList).map byteC).toArray := by
        apply Array.ext'; simp [Lib.strCells, byteC]
      rw [e, Array.getElem?_append_left (by simpa using hj), List.getElem?_toArray, List.getElem?_map, List.getElem?_eq_getElem hj]; rfl
    generalize (l.map byteC).toArray ++ (Lib.strCells s).toArray ++ Builtin.zeroCells (Value.int .u8 0).cells (gc - (l.length + s.size)) = CS at hr hcz hcl
    have hcell : ∀ j, (w.drew.alloc (.cells CS 5)).cell? ⟨w.heap.size, j, none⟩ = CS[j]? := fun j => cell_alloc_new _ _ _ _ _ rfl
    refine ⟨_, _, hr, ⟨w.heap.size, gc, by rw [List.length_append, hds], hbase, by simp, by rw [List.length_append, hds]; exact hge, hgm, fun j hj => (hcell j).trans (hcl j hj), fun j hj => ?_, fun j hj => ?_⟩, ?_⟩
    · rw [hcell j, Array.getElem?_eq_getElem (by omega)]; rfl
    · have hh := heap_alloc_new w.drew (.cells CS 5)
      have hh2 : (w.drew.alloc (.cells CS 5)).heap[w.heap.size]? = some (.cells CS 5) := hh
      unfold World.frozen?; simp only [hh2]; simp
    · exact ⟨rfl, rfl, rfl, by simp, fun k hk _ => heap_alloc_old w.drew _ hk⟩
/-- Append of a string, at a step of a region that draws its order. -/
theorem step_append_M {w : World} {ops : Array Oper} {o : Oper} {a : Act} {K : Act → World → Prop} {Q : Exit → Act → World → Prop} {E : Prop} (hgd : o.guard = none) (sl x : Operand)
    (ho : o.op = .call { callee := .builtin .append, args := #[sl, x], argTypes := #[22, 9] })
    (base : Nat) (v : Value) (l : List UInt8) (hs : a.eval sl = v) (hown : OwnM base w v l) (s : ByteArray) (hx : a.eval x = .string s)
    (hl : l.length + s.size ≤ 100000000) (hbase : base ≤ w.heap.size)
    (h : ∀ v' w', OwnM base w' v' (l ++ s.data.toList) → w.grownBy w' v.ownBlock → K (a.put o.dst v') w') : if Region.wanted o (yielded ops a.tmps) = true then Oper.wp Tryz.prog o a w K Q else E := by
  have hw : Region.wanted o (yielded ops a.tmps) = true := by simp [Region.wanted, hgd]
  rw [if_pos hw]
  obtain ⟨v', w', hr, h2, h3⟩ := run_append_ownM base o.type v l s w hown hl hbase
  unfold Oper.wp execOp
  simp only [ho, resolve, invoke, builtin, Sem.run_bind, Sem.run_pure, Result.andThen_ok, List.map_toArray, List.map_cons, List.map_nil, hs, hx, hr]
  exact h v' w' h2 h3
theorem wpList_append_M {w : World} {ops : Array Oper} {rest : List Oper} {o : Oper} {a : Act} {Q : Exit → Act → World → Prop} (hgd : o.guard = none) (sl x : Operand)
    (ho : o.op = .call { callee := .builtin .append, args := #[sl, x], argTypes := #[22, 9] })
    (base : Nat) (v : Value) (l : List UInt8) (hs : a.eval sl = v) (hown : OwnM base w v l) (s : ByteArray) (hx : a.eval x = .string s)
    (hl : l.length + s.size ≤ 100000000) (hbase : base ≤ w.heap.size)
    (h : ∀ v' w', OwnM base w' v' (l ++ s.data.toList) → w.grownBy w' v.ownBlock → wpList Tryz.prog ops Q rest (a.put o.dst v') w') : wpList Tryz.prog ops Q (o :: rest) a w := by
  refine wpList_plain hgd fun K hK => ?_
  obtain ⟨v', w', hr, h2, h3⟩ := run_append_ownM base o.type v l s w hown hl hbase
  unfold Oper.wp execOp
  simp only [ho, resolve, invoke, builtin, Sem.run_bind, Sem.run_pure, Result.andThen_ok, List.map_toArray, List.map_cons, List.map_nil, hs, hx, hr]
  exact hK _ _ (h v' w' h2 h3)
end Go.Proofs.YteielmihlfakgaaGreatDoor
