/- copy and clear on a row that is known whole, at elements of several cells. -/
import Derived.Laws.CopyOwn
import Derived.Laws.AppendOwn
import Derived.Deep.RegionLaw
import Derived.Lib.SliceRun
import Derived.Deep.RegionHeld3
import Derived.Test.YteielmihlfakgaaDoorProg
import Derived.Test.YteielmihlfakgaaDoorAppRd
import Derived.Test.YteielmihlfakgaaDoorUC
import Derived.Test.YteielmihlfakgaaDoorCells
namespace Go.Proofs.YteielmihlfakgaaDoor
open Go Go.Proofs Go.RowKit
set_option linter.unusedVariables false
set_option linter.unusedSimpArgs false
theorem take_splice {α : Type} (L : List α) (off : Nat) (cs : List α) (h : off ≤ L.length) : (splice L off cs).take (off + cs.length) = L.take off ++ cs := by
  rw [splice, List.take_append, List.length_take, Nat.min_eq_left h, List.take_of_length_le (by simp; omega), Nat.add_sub_cancel_left, List.take_append, List.take_length, Nat.sub_self, List.take_zero, List.append_nil]
theorem take_splice_le {α : Type} (L : List α) (off n : Nat) (cs : List α) (h : off ≤ L.length) (hn : n ≤ off) : (splice L off cs).take n = L.take n := by
  rw [splice, List.take_append_of_le_length (by simp; omega), List.take_take, Nat.min_eq_left hn]
theorem drop_splice_ge {α : Type} (L : List α) (off n : Nat) (cs : List α) (h : off + cs.length ≤ L.length) (hn : off + cs.length ≤ n) : (splice L off cs).drop n = L.drop n := by
  rw [splice, ← List.append_assoc, List.drop_append, List.drop_eq_nil_of_le (by simp; omega), List.nil_append, List.drop_drop]
  congr 1
  simp; omega
theorem run_copyN {P : Program} (w : World) (dT sT ty elem : TypeId) (sz : Nat) (g o dLen dCap : Nat) (a : Addr) (sLen sCap : Nat) (cur : Array Value) (t : TypeId) (cs : List Value) (m : Nat)
    (hu : P.underlying dT = some (.slice elem)) (hs : (P.info? elem).map (·.size) = some sz)
    (hg : w.heap[g]? = some (.cells cur t (0, 0))) (hm : Nat.min sLen dLen = m) (hn : cs.length = m * sz)
    (hsrc : ∀ j v, cs[j]? = some v → w.cell? (a.add j) = some v) (hfit : o + cs.length ≤ cur.size) (h1 : ∀ v ∈ cs, v.oneCell' = true) :
    (Builtin.copy_ #[dT, sT] ty #[.slice (some ⟨g, o, none⟩) dLen dCap, .slice (some a) sLen sCap]).run P w =
      .ok (goInt m) (w.setRow g (splice cur.toList o cs).toArray) := by
  have hl := run_loadCells_list (P := P) w a cs hsrc
  have hst := run_storeCells_at P g o t cs 0 cur w hg (by simpa using hfit) h1
  cases hq : P.info? elem with
  | none => simp [hq] at hs
  | some i =>
    have hi : i.size = sz := by simpa [hq] using hs
    rw [hn] at hl
    simp [Builtin.copy_, run_underlying hu, Builtin.lenOf, Builtin.firstCells, sizeOf, typeInfo, hq, hi, hm, hl, hst, splice]
theorem run_copy_zero {P : Program} (w : World) (dT sT ty elem : TypeId) (d : Option Addr) (dLen dCap : Nat) (s : Option Addr) (sLen sCap : Nat)
    (hu : P.underlying dT = some (.slice elem)) (hs : ((P.info? elem).map (·.size)).isSome = true) (hm : Nat.min sLen dLen = 0) :
    (Builtin.copy_ #[dT, sT] ty #[.slice d dLen dCap, .slice s sLen sCap]).run P w = .ok (goInt 0) w := by
  cases hq : P.info? elem with
  | none => simp [hq] at hs
  | some i => cases d <;> cases s <;> simp [Builtin.copy_, run_underlying hu, Builtin.lenOf, Builtin.firstCells, sizeOf, typeInfo, hq, hm, storeCells, loadCells, loadCellsFrom]
/-- A copy onto a row that is known whole: m elements, from 'off' on; the source has an address where there is one. -/
theorem copy_row {P : Program} (w : World) (dT sT ty elem : TypeId) (sz : Nat) (g off dLen dCap : Nat) (d : Option Addr) (s : Option Addr) (sLen sCap : Nat) (cur : List Value) (t : TypeId) (cs : List Value) (m : Nat)
    (hu : P.underlying dT = some (.slice elem)) (hs : (P.info? elem).map (·.size) = some sz) (hsz : 0 < sz)
    (hg : w.heap[g]? = some (.cells cur.toArray t (0, 0))) (hm : Nat.min sLen dLen = m) (hn : cs.length = m * sz)
    (hpos : 0 < m → d = some ⟨g, off, none⟩ ∧ ∃ ad, s = some ad ∧ ∀ j v, cs[j]? = some v → w.cell? (ad.add j) = some v) (hfit : off + cs.length ≤ cur.length) (h1 : ∀ v ∈ cs, v.oneCell' = true) :
    ∃ w', (Builtin.copy_ #[dT, sT] ty #[.slice d dLen dCap, .slice s sLen sCap]).run P w = .ok (goInt m) w' ∧ w'.heap[g]? = some (.cells (splice cur off cs).toArray t (0, 0)) ∧ w.grownBy w' (some g) ∧ w'.heap.size = w.heap.size := by
  rcases Nat.eq_zero_or_pos m with h0 | h0
  · subst h0
    have hc : cs = [] := List.eq_nil_of_length_eq_zero (by simpa using hn)
    subst hc
    exact ⟨w, run_copy_zero w dT sT ty elem d dLen dCap s sLen sCap hu (by rw [hs]; rfl) hm, by simpa [splice] using hg, ⟨rfl, rfl, rfl, Nat.le_refl _, fun _ _ _ => rfl⟩, rfl⟩
  · obtain ⟨rfl, ad, rfl, hsrc⟩ := hpos h0
    refine ⟨_, run_copyN w dT sT ty elem sz g off dLen dCap ad sLen sCap cur.toArray t cs m hu hs hg hm hn hsrc (by simpa using hfit) h1, setRow_heap w g _ _ t _ hg, ⟨rfl, rfl, rfl, by simp [World.setRow], fun k hk hne => setRow_other w g k _ (fun e => hne (by rw [e]))⟩, by simp [World.setRow]⟩
theorem run_clearN {P : Program} (w : World) (t e ty : TypeId) (z : Value) (sz : Nat) (ht : P.underlying t = some (.slice e)) (hv : ∀ w, (zeroValue e).run P w = .ok z w) (hz : z.cells.size = sz) (h1 : ∀ u ∈ z.cells.toList, u.oneCell' = true) (hsz : 0 < sz)
    (g off n c : Nat) (s : Option Addr) (cur : List Value) (T : TypeId) (hg : w.heap[g]? = some (.cells cur.toArray T (0, 0))) (hpos : 0 < n → s = some ⟨g, off, none⟩) (hfit : off + n * sz ≤ cur.length) :
    ∃ w' zs, (Builtin.clear_ #[t] ty #[.slice s n c]).run P w = .ok (.tuple #[]) w' ∧ zs.length = n * sz ∧ w'.heap[g]? = some (.cells (splice cur off zs).toArray T (0, 0)) ∧ w.grownBy w' (some g) ∧ w'.heap.size = w.heap.size := by
  rcases Nat.eq_zero_or_pos n with h0 | h0
  · subst h0
    refine ⟨w, [], ?_, by simp, by simpa [splice] using hg, ⟨rfl, rfl, rfl, Nat.le_refl _, fun _ _ _ => rfl⟩, rfl⟩
    cases s <;> simp [Builtin.clear_, run_underlying ht]
  · have hs := hpos h0
    subst hs
    obtain ⟨m, rfl⟩ : ∃ m, n = m + 1 := ⟨n - 1, by omega⟩
    have hl : (Builtin.zeroCells z.cells (m + 1)).toList.length = (m + 1) * sz := by simp [Builtin.zeroCells, hz]
    have ho : ∀ v ∈ (Builtin.zeroCells z.cells (m + 1)).toList, v.oneCell' = true := by
      intro v hv'
      simp [Builtin.zeroCells] at hv'
      obtain ⟨i, hi, rfl⟩ := hv'
      have hlt : i % z.cells.size < z.cells.size := Nat.mod_lt _ (by omega)
      rw [getElem!_pos z.cells _ hlt]
      exact h1 _ (by simp)
    have hst := run_storeCells_at P g off T (Builtin.zeroCells z.cells (m + 1)).toList 0 cur.toArray w hg (by rw [hl]; simpa using hfit) ho
    refine ⟨w.setRow g (splice cur off (Builtin.zeroCells z.cells (m + 1)).toList).toArray, (Builtin.zeroCells z.cells (m + 1)).toList, ?_, hl, setRow_heap w g _ _ T _ hg, ⟨rfl, rfl, rfl, by simp [World.setRow], fun k hk hne => setRow_other w g k _ (fun e => hne (by rw [e]))⟩, by simp [World.setRow]⟩
    have e : (⟨g, off, none⟩ : Addr).add 0 = ⟨g, off, none⟩ := by simp [Addr.add]
    simp [Builtin.clear_, run_underlying ht, hv, hst, splice]
theorem wpList_copyN {P : Program} {w : World} {ops : Array Oper} {rest : List Oper} {o : Oper} {a : Act} {Q : Exit → Act → World → Prop} (hgd : o.guard = none) (d s : Operand) (dT sT : TypeId)
    (ho : o.op = .call { callee := .builtin .copy, args := #[d, s], argTypes := #[dT, sT] }) (elem : TypeId) (sz : Nat) (hu : P.underlying dT = some (.slice elem)) (hsz : (P.info? elem).map (·.size) = some sz) (h0 : 0 < sz)
    (dp sp : Option Addr) (dLen dCap sLen sCap : Nat) (hd : a.eval d = .slice dp dLen dCap) (hs : a.eval s = .slice sp sLen sCap)
    (g off : Nat) (cur : List Value) (t : TypeId) (hg : w.heap[g]? = some (.cells cur.toArray t (0, 0))) (cs : List Value) (m : Nat) (hm : Nat.min sLen dLen = m) (hn : cs.length = m * sz)
    (hpos : 0 < m → dp = some ⟨g, off, none⟩ ∧ ∃ ad, sp = some ad ∧ ∀ j v, cs[j]? = some v → w.cell? (ad.add j) = some v)
    (hfit : off + cs.length ≤ cur.length) (h1 : ∀ v ∈ cs, v.oneCell' = true)
    (h : ∀ w', Hid (w'.heap[g]? = some (.cells (splice cur off cs).toArray t (0, 0))) → Hid (w.grownBy w' (some g)) → w'.heap.size = w.heap.size → wpList P ops Q rest (a.put o.dst (goInt m)) w') :
    wpList P ops Q (o :: rest) a w := by
  refine wpList_plain hgd fun K hK => ?_
  obtain ⟨w', hrun, h2, h3, h4⟩ := copy_row (P := P) w dT sT o.type elem sz g off dLen dCap dp sp sLen sCap cur t cs m hu hsz h0 hg hm hn hpos hfit h1
  unfold Oper.wp
  simp [execOp, ho, resolve, invoke, builtin, hd, hs, hrun, Result.andThen]
  exact hK _ _ (h w' h2 h3 h4)
theorem step_copyN {P : Program} {ops : Array Oper} {o : Oper} {a : Act} {w : World} {K : Act → World → Prop} {Q : Exit → Act → World → Prop} {E : Prop} (hgd : o.guard = none) (d s : Operand) (dT sT : TypeId)
    (ho : o.op = .call { callee := .builtin .copy, args := #[d, s], argTypes := #[dT, sT] }) (elem : TypeId) (sz : Nat) (hu : P.underlying dT = some (.slice elem)) (hsz : (P.info? elem).map (·.size) = some sz) (h0 : 0 < sz)
    (dp sp : Option Addr) (dLen dCap sLen sCap : Nat) (hd : a.eval d = .slice dp dLen dCap) (hs : a.eval s = .slice sp sLen sCap)
    (g off : Nat) (cur : List Value) (t : TypeId) (hg : w.heap[g]? = some (.cells cur.toArray t (0, 0))) (cs : List Value) (m : Nat) (hm : Nat.min sLen dLen = m) (hn : cs.length = m * sz)
    (hpos : 0 < m → dp = some ⟨g, off, none⟩ ∧ ∃ ad, sp = some ad ∧ ∀ j v, cs[j]? = some v → w.cell? (ad.add j) = some v)
    (hfit : off + cs.length ≤ cur.length) (h1 : ∀ v ∈ cs, v.oneCell' = true)
    (h : ∀ w', Hid (w'.heap[g]? = some (.cells (splice cur off cs).toArray t (0, 0))) → Hid (w.grownBy w' (some g)) → w'.heap.size = w.heap.size → K (a.put o.dst (goInt m)) w') :
    if Region.wanted o (yielded ops a.tmps) = true then Oper.wp P o a w K Q else E := by
  have hw : Region.wanted o (yielded ops a.tmps) = true := by simp [Region.wanted, hgd]
  rw [if_pos hw]
  obtain ⟨w', hrun, h2, h3, h4⟩ := copy_row (P := P) w dT sT o.type elem sz g off dLen dCap dp sp sLen sCap cur t cs m hu hsz h0 hg hm hn hpos hfit h1
  unfold Oper.wp
  simp [execOp, ho, resolve, invoke, builtin, hd, hs, hrun, Result.andThen]
  exact h w' h2 h3 h4
theorem wpList_clearN {P : Program} {w : World} {ops : Array Oper} {rest : List Oper} {o : Oper} {a : Act} {Q : Exit → Act → World → Prop} (hgd : o.guard = none) (d : Operand) (t : TypeId)
    (ho : o.op = .call { callee := .builtin .clear, args := #[d], argTypes := #[t] }) (e : TypeId) (z : Value) (sz : Nat) (ht : P.underlying t = some (.slice e)) (hv : ∀ w, (zeroValue e).run P w = .ok z w) (hz : z.cells.size = sz) (h1 : ∀ u ∈ z.cells.toList, u.oneCell' = true) (h0 : 0 < sz)
    (s : Option Addr) (n c : Nat) (hd : a.eval d = .slice s n c) (g off : Nat) (cur : List Value) (T : TypeId) (hg : w.heap[g]? = some (.cells cur.toArray T (0, 0))) (hpos : 0 < n → s = some ⟨g, off, none⟩) (hfit : off + n * sz ≤ cur.length)
    (h : ∀ w' zs, zs.length = n * sz → Hid (w'.heap[g]? = some (.cells (splice cur off zs).toArray T (0, 0))) → Hid (w.grownBy w' (some g)) → w'.heap.size = w.heap.size → wpList P ops Q rest (a.put o.dst (.tuple #[])) w') :
    wpList P ops Q (o :: rest) a w := by
  refine wpList_plain hgd fun K hK => ?_
  obtain ⟨w', zs, hrun, h2, h3, h4, h5⟩ := run_clearN (P := P) w t e o.type z sz ht hv hz h1 h0 g off n c s cur T hg hpos hfit
  unfold Oper.wp
  simp [execOp, ho, resolve, invoke, builtin, hd, hrun, Result.andThen]
  exact hK _ _ (h w' zs h2 h3 h4 h5)
end Go.Proofs.YteielmihlfakgaaDoor
/- Contracts: slices.Replace, slices.Clone at instructions. -/
namespace Go.Proofs.YteielmihlfakgaaDoor
open Go Go.Proofs Go.RowKit
set_option linter.unusedVariables false
set_option linter.unusedSimpArgs false
set_option maxRecDepth 100000
def insAt (xs : List EInstruction) (k : Nat) : EInstruction := xs.getD k ⟨0, 0⟩
/-- Two instructions replaced by others. -/
def replI (xs zs : List EInstruction) (i : Nat) : List EInstruction := xs.take i ++ zs ++ xs.drop (i + 2)
theorem replI_len {xs zs : List EInstruction} {i : Nat} (h : i + 1 < xs.length) : (replI xs zs i).length = i + zs.length + (xs.length - (i + 2)) := by
  rw [replI, List.length_append, List.length_append, List.length_take, List.length_drop]; omega
theorem enc_one (x : EInstruction) : ∀ u ∈ encInstruction x, u.oneCell' = true := by intro u hu; simp [encInstruction] at hu; rcases hu with rfl | rfl <;> rfl
theorem enc_all (xs : List EInstruction) : ∀ u ∈ xs.flatMap encInstruction, u.oneCell' = true := by intro u hu; obtain ⟨x, _, hx⟩ := List.mem_flatMap.1 hu; exact enc_one x u hx
theorem lenI (xs : List EInstruction) : (xs.flatMap encInstruction).length = xs.length * 2 := flat_length encInstruction 2 encInstruction_len xs
theorem takeI {cur : List Value} {xs : List EInstruction} {i : Nat} (h : cur.take (xs.length * 2) = xs.flatMap encInstruction) (hi : i ≤ xs.length) : cur.take (i * 2) = (xs.take i).flatMap encInstruction := by
  rw [← flat_take encInstruction 2 encInstruction_len xs i hi, ← h, List.take_take, Nat.min_eq_left (by omega)]
theorem dropI {cur : List Value} {xs : List EInstruction} {j : Nat} (h : cur.take (xs.length * 2) = xs.flatMap encInstruction) (hj : j ≤ xs.length) {k : Nat} {u : Value} (hu : ((xs.drop j).flatMap encInstruction)[k]? = some u) : cur[j * 2 + k]? = some u := by
  have e : (xs.take j).flatMap encInstruction ++ (xs.drop j).flatMap encInstruction = xs.flatMap encInstruction := by rw [← List.flatMap_append, List.take_append_drop]
  have hl : ((xs.take j).flatMap encInstruction).length = j * 2 := by rw [lenI, List.length_take, Nat.min_eq_left hj]
  have h2 : (xs.flatMap encInstruction)[j * 2 + k]? = some u := by
    rw [← e, List.getElem?_append_right (by omega), hl, Nat.add_sub_cancel_left]; exact hu
  rw [← h] at h2
  rw [List.getElem?_take] at h2
  split at h2
  · exact h2
  · cases h2
/-- What is replaced with: nothing, or one instruction in a block of its own. -/
def RplZ (w : World) (zv : Value) (zs : List EInstruction) : Prop :=
  (zv = .slice none 0 0 ∧ zs = []) ∨ ∃ b z, zv = .slice (some ⟨b, 0, none⟩) 1 1 ∧ zs = [z] ∧ b < w.heap.size ∧ w.cell? ⟨b, 0, none⟩ = some (.int .i64 z.op) ∧ w.cell? ⟨b, 1, none⟩ = some (.int .i64 z.arg)
def RetRepl (g cap base : Nat) (ys : List EInstruction) (w : World) (e : Ending) (w' : World) : Prop :=
  e = .returned (.slice (some ⟨g, 0, none⟩) ys.length cap) ∧ w.grownBy w' (some g) ∧ w'.ownsRow base 94 2 (.slice (some ⟨g, 0, none⟩) ys.length cap) ys.length (ys.flatMap encInstruction)
theorem grown_trans {a b c : World} {g : Nat} (h : a.grownBy b (some g)) (k : b.grownBy c (some g)) : a.grownBy c (some g) :=
  ⟨k.os.trans h.os, k.tape.trans h.tape, k.output.trans h.output, Nat.le_trans h.size k.size, fun q hq hne => (k.block q (Nat.lt_of_lt_of_le hq h.size) hne).trans (h.block q hq hne)⟩
theorem grown_refl (w : World) (r : Option Nat) : w.grownBy w r := ⟨rfl, rfl, rfl, Nat.le_refl _, fun _ _ _ => rfl⟩
theorem grown_drawN {a b : World} {g n : Nat} (h : a.grownBy b (some g)) : a.grownBy (b.drewN n) (some g) := ⟨h.os, h.tape, h.output, h.size, h.block⟩
theorem splice_get {α : Type} (L : List α) (off : Nat) (cs : List α) (h : off + cs.length ≤ L.length) (k : Nat) (hk : off + cs.length ≤ k) : (splice L off cs)[k]? = L[k]? := by
  have e := drop_splice_ge L off k cs h hk
  have e2 := congrArg (fun l => l[0]?) e
  simpa [List.getElem?_drop] using e2
theorem cell_row {w : World} {g : Nat} {cs : List Value} {T : TypeId} (h : w.heap[g]? = some (.cells cs.toArray T (0, 0))) (k : Nat) : w.cell? ⟨g, k, none⟩ = cs[k]? := by simp [World.cell?, h]
theorem addr_add (g o j : Nat) : (⟨g, o, none⟩ : Addr).add j = ⟨g, o + j, none⟩ := by unfold Addr.add; split <;> simp_all
theorem insSize : (Tryd.prog.info? 94).map (·.size) = some 2 := by kernel_rfl
theorem ret_sl {a : Option Addr} {n m c : Nat} (h : n = m) : Ending.returned (.slice a n c) = .returned (.slice a m c) := by rw [h]
theorem grown_undrawN {a b : World} {g n : Nat} (h : (a.drewN n).grownBy b (some g)) : a.grownBy b (some g) := ⟨h.os, h.tape, h.output, h.size, h.block⟩
theorem grown_undraw {a b : World} {g : Nat} (h : a.drew.grownBy b (some g)) : a.grownBy b (some g) := ⟨h.os, h.tape, h.output, h.size, h.block⟩
set_option maxHeartbeats 1000000 in
theorem replace_any (g cap base i : Nat) (xs zs : List EInstruction) (zv : Value) (w : World) (hi : i + 1 < xs.length) (hx : xs.length ≤ 1048576) (hv : w.ownsRow base 94 2 (.slice (some ⟨g, 0, none⟩) xs.length cap) xs.length (xs.flatMap encInstruction)) (hz : RplZ w zv zs) :
    Calls Tryd.prog 124 #[.slice (some ⟨g, 0, none⟩) xs.length cap, .int .i64 i, .int .i64 ((i : Int) + 2), zv] w (RetRepl g cap base (replI xs zs i) w) := by
  obtain ⟨i0, hi0, hz0, hz1, hz2⟩ := info_parts infoInstruction
  obtain ⟨_, h⟩ := hv
  obtain ⟨cur, hbg, hg, hnc, hcm, hcs, htake⟩ : ∃ cur : List Value, base ≤ g ∧ w.heap[g]? = some (.cells cur.toArray 94 (0, 0)) ∧ xs.length ≤ cap ∧ cap ≤ maxLen ∧ cur.length = cap * 2 ∧ cur.take (xs.length * 2) = xs.flatMap encInstruction := by
    rcases h with ⟨h, _⟩ | ⟨g', cap', cur, h, h1, h2, h3, h4, h5, h6⟩
    · cases h
    · cases h
      exact ⟨cur.toList, h1, by simpa using h2, h3, h4, by simpa using h5, h6⟩
  have HO := Lib.hid (fun (w' : World) (n : Nat) (c2 : List Value) (hg2 : w'.heap[g]? = some (.cells c2.toArray 94 (0, 0))) (hc2 : c2.length = cap * 2) (hn : n = (replI xs zs i).length) (hn2 : n ≤ cap) (ht : c2.take (n * 2) = (replI xs zs i).flatMap encInstruction) =>
    show w'.ownsRow base 94 2 (.slice (some ⟨g, 0, none⟩) (replI xs zs i).length cap) (replI xs zs i).length ((replI xs zs i).flatMap encInstruction) from by
      subst hn
      exact ⟨lenI _, .inr ⟨g, cap, c2.toArray, rfl, hbg, hg2, hn2, hcm, by simpa using hc2, by simpa using ht⟩⟩)
  have hlr := replI_len (zs := zs) hi
  have hcap : (cap : Int) ≤ 9223372036854775807 := by simp only [maxLen] at hcm; omega
  have hc1 : ¬ (i : Int) = (i : Int) + 2 := by omega
  have hzl : zs.length ≤ 1 := by rcases hz with ⟨_, rfl⟩ | ⟨_, _, _, rfl, _⟩ <;> simp
  have HT := Lib.hid (takeI htake (show i ≤ xs.length by omega))
  have HD := Lib.hid (fun (k : Nat) (u : Value) (hu : ((xs.drop (i + 2)).flatMap encInstruction)[k]? = some u) => dropI htake (show i + 2 ≤ xs.length by omega) hu)
  have hg' := Lib.hid hg
  by_cases hj : i + 2 = xs.length
  · have hdr : xs.drop (i + 2) = [] := by rw [hj, List.drop_length]
    rcases hz with ⟨rfl, rfl⟩ | ⟨b, z, rfl, rfl, hbl, z0, z1⟩
    · have hrn := run_append_nothing (P := Tryd.prog) w 57 57 57 94 i0 Tryd.underlying57 hi0 (some ⟨g, 0, none⟩) i cap (by omega) (.slice none 0 0) (Src.ofNil w Tryd.underlying57 0)
      have hrl := Lib.hid (show i = (replI xs [] i).length by rw [hlr]; simp; omega)
      have HR := Lib.hid (show (replI xs [] i) = xs.take i by rw [replI, hdr]; simp)
      clear hg
      go_enter Tryd.func124, Tryd.ntmps124
      go_wp2_with (first | (at_builtin; refine wpList_append_is rfl _ _ _ _ rfl _ _ _ rfl rfl hrn ?_) | (refine wpList_clearN rfl _ _ rfl 94 _ 2 Tryd.underlying57 Tryd.zeroValue94 rfl (by decide) (by omega) _ _ _ rfl g (i * 2) cur 94 hg'.out (fun _ => by simp) (by omega) ?_; intro w9 zz hzz hg9 hw9 hz9))
      go_ret
      refine ⟨ret_sl hrl.out, hw9.out, HO.out w9 i _ hg9.out (by rw [length_splice _ _ _ (by rw [hzz]; omega)]; exact hcs) hrl.out (by omega) ?_⟩
      rw [take_splice_le _ _ _ _ (by omega) (Nat.le_refl _), HT.out, HR.out]
    · obtain ⟨w1, hrn, hg1, hw1⟩ : ∃ w1, (Builtin.append_ #[57, 57] 57 #[.slice (some ⟨g, 0, none⟩) i cap, .slice (some ⟨b, 0, none⟩) 1 1]).run Tryd.prog w = .ok (.slice (some ⟨g, 0, none⟩) (i + 1) cap) w1 ∧ w1.heap[g]? = some (.cells (splice cur (i * 2) (encInstruction z)).toArray 94 (0, 0)) ∧ w.grownBy w1 (some g) := by
        have hr := run_append_room (P := Tryd.prog) (w := w) 57 57 94 i0 Tryd.underlying57 hi0 g i cap cur.toArray hg ⟨b, 0, none⟩ 1 1 (encInstruction z) (by rw [hz1]; rfl) (fun j u hu => by
          match j, hu with
          | 0, hu => simp [encInstruction] at hu; subst hu; simpa [Addr.add] using z0
          | 1, hu => simp [encInstruction] at hu; subst hu; simpa [Addr.add] using z1
          | (j + 2), hu => simp [encInstruction] at hu) (enc_one z) (by omega) (by rw [hz1]; simp [encInstruction]; omega)
        rw [hz1] at hr
        refine ⟨_, hr, ?_, ⟨rfl, rfl, rfl, by simp [World.setRow], fun k hk hne => setRow_other w g k _ (fun e => hne (by rw [e]))⟩⟩
        rw [setRow_heap w g _ _ _ _ hg]
        simp [splice]
      have hrl := Lib.hid (show i + 1 = (replI xs [z] i).length by rw [hlr]; simp; omega)
      have HR := Lib.hid (show (replI xs [z] i) = xs.take i ++ [z] by rw [replI, hdr]; simp)
      have hls : (splice cur (i * 2) (encInstruction z)).length = cur.length := length_splice _ _ _ (by simp [encInstruction]; omega)
      have hts := Lib.hid (take_splice cur (i * 2) (encInstruction z) (by omega))
      have hg1' := Lib.hid hg1
      generalize splice cur (i * 2) (encInstruction z) = c1 at hg1' hls hts
      clear hg hg1 z0 z1
      go_enter Tryd.func124, Tryd.ntmps124
      go_wp2_with (first | (at_builtin; refine wpList_append_is rfl _ _ _ _ rfl _ _ _ rfl rfl hrn ?_) | (refine wpList_clearN rfl _ _ rfl 94 _ 2 Tryd.underlying57 Tryd.zeroValue94 rfl (by decide) (by omega) _ _ _ rfl g ((i + 1) * 2) c1 94 hg1'.out (fun _ => by simp) (by omega) ?_; intro w9 zz hzz hg9 hw9 hz9))
      go_ret
      refine ⟨ret_sl hrl.out, grown_trans hw1 hw9.out, HO.out w9 (i + 1) _ hg9.out (by rw [length_splice _ _ _ (by rw [hzz]; omega), hls]; exact hcs) hrl.out (by omega) ?_⟩
      have e := hts.out
      rw [show i * 2 + (encInstruction z).length = (i + 1) * 2 by simp [encInstruction]; omega, HT.out] at e
      rw [take_splice_le _ _ _ _ (by omega) (Nat.le_refl _), e, HR.out, List.flatMap_append]
      simp
  · have hjl : i + 2 < xs.length := by omega
    rcases hz with ⟨rfl, rfl⟩ | ⟨b, z, rfl, rfl, hbl, z0, z1⟩
    · have hm1 : ¬ (i : Int) + 2 = xs.length := by omega
      clear hg hj
      go_enter Tryd.func124, Tryd.ntmps124
      go_wp2_with fail
      go_quiet (fail)
      go_wp2_with (first | (refine wpList_copyN rfl _ _ _ _ rfl 94 2 Tryd.underlying57 insSize (by omega) _ _ _ _ _ _ rfl rfl g (i * 2) cur 94 hg'.out [] 0 (by simp) rfl (fun h => absurd h (by omega)) (by simp; omega) (by simp) ?_; intro w3 hg3 hw3 hz3))
      have hc3 : splice cur (i * 2) ([] : List Value) = cur := by simp [splice]
      rw [hc3] at hg3
      have HS := Lib.hid (fun (j : Nat) (v : Value) (hv : ((xs.drop (i + 2)).flatMap encInstruction)[j]? = some v) => show w3.cell? ((⟨g, (i + 2) * 2, none⟩ : Addr).add j) = some v from by rw [addr_add, cell_row hg3.out]; exact HD.out j v hv)
      have hfl := lenI (xs.drop (i + 2))
      rw [List.length_drop] at hfl
      obtain ⟨F, hF⟩ : ∃ F, F = (xs.drop (i + 2)).flatMap encInstruction := ⟨_, rfl⟩
      rw [← hF] at hfl HS
      have hF1 : ∀ u ∈ F, u.oneCell' = true := by rw [hF]; exact enc_all _
      replace hF1 := Lib.hid hF1
      replace hF := Lib.hid hF
      have q1 : IntKind.i64.wrap (i : Int) = i := IntWalk.i64_in _ (by omega)
      have q2 : ¬ cap = i := by omega
      have q3 : ¬ cap = i + 2 := by omega
      have q4 : ((i : Int) + 2).toNat = i + 2 := by omega
      have q5 : (i : Int) ≤ (i : Int) + ((xs.length - (i + 2) : Nat) : Int) := by omega
      have q6 : (i : Int) + 2 ≤ xs.length := by omega
      have q7 : (0 : Int) ≤ (i : Int) + 2 := by omega
      have hg3d : w3.drew.heap[g]? = some (.cells cur.toArray 94 (0, 0)) := hg3.out
      obtain ⟨w4, hrun, hg4, hw4, hz4⟩ := copy_row (P := Tryd.prog) w3.drew 57 57 3 94 2 g (i * 2) (xs.length - (i + 2)) (cap - i) (some ⟨g, i * 2, none⟩) (some ⟨g, (i + 2) * 2, none⟩) (xs.length - (i + 2)) (cap - (i + 2)) cur 94 F (xs.length - (i + 2)) Tryd.underlying57 insSize (by omega) hg3d (Nat.min_self _) hfl (fun _ => ⟨rfl, _, rfl, fun j v hv => HS.out j v hv⟩) (by rw [hfl]; omega) hF1.out
      replace hg4 := Lib.hid hg4
      replace hw4 := Lib.hid hw4
      clear hg3d
      go_region_law (fail)
      go_wp2_with (refine wpList_clearN rfl _ _ rfl 94 _ 2 Tryd.underlying57 Tryd.zeroValue94 rfl (by decide) (by omega) _ _ _ rfl g ((i + (xs.length - (i + 2))) * 2) (splice cur (i * 2) F) 94 hg4.out (fun _ => by first | rfl | (simp; done) | (simp; omega)) (by rw [length_splice _ _ _ (by rw [hfl]; omega)]; omega) ?_; intro w9 zz hzz hg9 hw9 hz9)
      go_ret
      have hrl : i + (xs.length - (i + 2)) = (replI xs [] i).length := by rw [hlr]; simp
      refine ⟨ret_sl hrl, grown_trans (grown_trans (grown_undrawN hw3.out) (grown_undraw hw4.out)) (by first | exact hw9.out | exact grown_undrawN hw9.out | exact grown_undraw hw9.out), HO.out w9 (i + (xs.length - (i + 2))) _ hg9.out (by rw [length_splice _ _ _ (by rw [hzz, length_splice _ _ _ (by rw [hfl]; omega)]; omega), length_splice _ _ _ (by rw [hfl]; omega)]; exact hcs) hrl (by omega) ?_⟩
      rw [take_splice_le _ _ _ _ (by rw [length_splice _ _ _ (by rw [hfl]; omega)]; omega) (Nat.le_refl _)]
      have e := take_splice cur (i * 2) F (by omega)
      rw [show i * 2 + F.length = (i + (xs.length - (i + 2))) * 2 by rw [hfl]; omega, HT.out] at e
      rw [e, hF.out, replI, List.append_nil, List.flatMap_append]
    · have hm1 : ¬ (i : Int) + 2 = xs.length := by omega
      have hZ : ∀ j v, (encInstruction z)[j]? = some v → w.cell? ((⟨b, 0, none⟩ : Addr).add j) = some v := fun j u hu => by
        match j, hu with
        | 0, hu => simp [encInstruction] at hu; subst hu; simpa [Addr.add] using z0
        | 1, hu => simp [encInstruction] at hu; subst hu; simpa [Addr.add] using z1
        | (j + 2), hu => simp [encInstruction] at hu
      obtain ⟨Z, hZe⟩ : ∃ Z, Z = encInstruction z := ⟨_, rfl⟩
      have hZl : Z.length = 1 * 2 := by rw [hZe]; rfl
      have hZ1 := enc_one z
      rw [← hZe] at hZ hZ1
      replace hZ := Lib.hid hZ
      replace hZ1 := Lib.hid hZ1
      replace hZe := Lib.hid hZe
      clear hg hj z0 z1
      go_enter Tryd.func124, Tryd.ntmps124
      go_wp2_with fail
      go_quiet (fail)
      go_wp2_with (first | (refine wpList_copyN rfl _ _ _ _ rfl 94 2 Tryd.underlying57 insSize (by omega) _ _ _ _ _ _ rfl rfl g (i * 2) cur 94 hg'.out Z 1 (by simp [Nat.min_def]; try omega) hZl (fun h => ⟨by first | rfl | (simp; done) | (simp; omega), _, rfl, hZ.out⟩) (by omega) hZ1.out ?_; intro w3 hg3 hw3 hz3))
      have hl1 : (splice cur (i * 2) Z).length = cur.length := length_splice _ _ _ (by omega)
      have ht1 := take_splice cur (i * 2) Z (by omega)
      rw [show i * 2 + Z.length = (i + 1) * 2 by omega, HT.out] at ht1
      replace ht1 := Lib.hid ht1
      have HS := Lib.hid (fun (j : Nat) (v : Value) (hv : ((xs.drop (i + 2)).flatMap encInstruction)[j]? = some v) => show w3.cell? ((⟨g, (i + 2) * 2, none⟩ : Addr).add j) = some v from by rw [addr_add, cell_row hg3.out, splice_get _ _ _ (by omega) _ (by omega)]; exact HD.out j v hv)
      generalize splice cur (i * 2) Z = c1 at hg3 hl1 ht1
      have hfl := lenI (xs.drop (i + 2))
      rw [List.length_drop] at hfl
      obtain ⟨F, hF⟩ : ∃ F, F = (xs.drop (i + 2)).flatMap encInstruction := ⟨_, rfl⟩
      rw [← hF] at hfl HS
      have hF1 : ∀ u ∈ F, u.oneCell' = true := by rw [hF]; exact enc_all _
      replace hF1 := Lib.hid hF1
      replace hF := Lib.hid hF
      have q1 : IntKind.i64.wrap ((i : Int) + 1) = (i : Int) + 1 := IntWalk.i64_in _ (by omega)
      have q2 : ¬ cap = i + 1 := by omega
      have q3 : ¬ cap = i + 2 := by omega
      have q4 : ((i : Int) + 2).toNat = i + 2 := by omega
      have q4' : ((i : Int) + 1).toNat = i + 1 := by omega
      have q5 : (i : Int) + 1 ≤ (i : Int) + 1 + ((xs.length - (i + 2) : Nat) : Int) := by omega
      have q6 : (i : Int) + 2 ≤ xs.length := by omega
      have q7 : (0 : Int) ≤ (i : Int) + 2 := by omega
      have q8 : (0 : Int) ≤ (i : Int) + 1 := by omega
      have q9 : i + 1 + (xs.length - (i + 2)) - (i + 1) = xs.length - (i + 2) := by omega
      have hg3d : w3.drew.heap[g]? = some (.cells c1.toArray 94 (0, 0)) := hg3.out
      obtain ⟨w4, hrun, hg4, hw4, hz4⟩ := copy_row (P := Tryd.prog) w3.drew 57 57 3 94 2 g ((i + 1) * 2) (xs.length - (i + 2)) (cap - (i + 1)) (some ⟨g, (i + 1) * 2, none⟩) (some ⟨g, (i + 2) * 2, none⟩) (xs.length - (i + 2)) (cap - (i + 2)) c1 94 F (xs.length - (i + 2)) Tryd.underlying57 insSize (by omega) hg3d (Nat.min_self _) hfl (fun _ => ⟨rfl, _, rfl, fun j v hv => HS.out j v hv⟩) (by rw [hfl]; omega) hF1.out
      replace hg4 := Lib.hid hg4
      replace hw4 := Lib.hid hw4
      clear hg3d
      go_region_law (fail)
      go_wp2_with (refine wpList_clearN rfl _ _ rfl 94 _ 2 Tryd.underlying57 Tryd.zeroValue94 rfl (by decide) (by omega) _ _ _ rfl g ((i + 1 + (xs.length - (i + 2))) * 2) (splice c1 ((i + 1) * 2) F) 94 hg4.out (fun _ => by first | rfl | (simp; done) | (simp; omega)) (by rw [length_splice _ _ _ (by rw [hfl]; omega)]; omega) ?_; intro w9 zz hzz hg9 hw9 hz9)
      go_ret
      have hrl : i + 1 + (xs.length - (i + 2)) = (replI xs [z] i).length := by rw [hlr]; simp
      refine ⟨ret_sl hrl, grown_trans (grown_trans (grown_undrawN hw3.out) (grown_undraw hw4.out)) (by first | exact hw9.out | exact grown_undrawN hw9.out | exact grown_undraw hw9.out), HO.out w9 (i + 1 + (xs.length - (i + 2))) _ hg9.out (by rw [length_splice _ _ _ (by rw [hzz, length_splice _ _ _ (by rw [hfl]; omega)]; omega), length_splice _ _ _ (by rw [hfl]; omega)]; omega) hrl (by omega) ?_⟩
      rw [take_splice_le _ _ _ _ (by rw [length_splice _ _ _ (by rw [hfl]; omega)]; omega) (Nat.le_refl _)]
      have e := take_splice c1 ((i + 1) * 2) F (by omega)
      rw [show (i + 1) * 2 + F.length = (i + 1 + (xs.length - (i + 2))) * 2 by rw [hfl]; omega, ht1.out] at e
      rw [e, hF.out, hZe.out, replI, List.flatMap_append, List.flatMap_append]
      simp
end Go.Proofs.YteielmihlfakgaaDoor
