/- A stack of values with their tokens. -/
import Derived.ArgAppend
import Derived.Test.YteielmihlfakgaaGreatDoorProg
import Derived.Test.YteielmihlfakgaaGreatDoorExprP
import Derived.Test.YteielmihlfakgaaGreatDoorTokX
import Derived.Test.YteielmihlfakgaaGreatDoorAppF
namespace Go.Proofs.YteielmihlfakgaaGreatDoor
open Go Go.Proofs Go.RowKit
set_option linter.unusedVariables false
set_option linter.unusedSimpArgs false
set_option maxRecDepth 100000
/-- An entry's cells: its tokens and its kind. -/
def encW (p : Value × Int) : List Value := [p.1, .int .i64 p.2]
theorem encW_len (p : Value × Int) : (encW p).length = 2 := rfl
def ListsW (w : World) (ps : List (Value × Int)) (L : List VT) : Prop := ps.length = L.length ∧ ∀ k (h : k < ps.length) (h' : k < L.length), ps[k].2 = L[k].kind ∧ RdX w ps[k].1 L[k].toks
/-- The slice reads a stack. -/
def RdW (w : World) (v : Value) (L : List VT) : Prop := ∃ ps, ListsW w ps L ∧ Rd w v ps.length (ps.flatMap encW)
/-- A stack of the call's own. -/
def OwnW (T : TypeId) (base : Nat) (w : World) (v : Value) (L : List VT) : Prop := ∃ ps, ListsW w ps L ∧ w.ownsRow base T 2 v ps.length (ps.flatMap encW)
theorem ListsW.new {w w' : World} {ps : List (Value × Int)} {L : List VT} (h : ListsW w ps L) (hn : New w w') : ListsW w' ps L :=
  ⟨h.1, fun k h1 h2 => ⟨(h.2 k h1 h2).1, (h.2 k h1 h2).2.new hn⟩⟩
theorem RdW.new {w w' : World} {v : Value} {L : List VT} (h : RdW w v L) (hn : New w w') : RdW w' v L := by
  obtain ⟨ps, h1, h2⟩ := h; exact ⟨ps, h1.new hn, h2.new hn⟩
theorem OwnW.new {T : TypeId} {base : Nat} {w w' : World} {v : Value} {L : List VT} (h : OwnW T base w v L) (hn : New w w') : OwnW T base w' v L := by
  obtain ⟨ps, h1, h2⟩ := h; exact ⟨ps, h1.new hn, own_new h2 hn⟩
theorem OwnW.rd {T : TypeId} {base : Nat} {w : World} {v : Value} {L : List VT} (h : OwnW T base w v L) : RdW w v L := by
  obtain ⟨ps, h1, h2⟩ := h; exact ⟨ps, h1, own_rd h2⟩
theorem ListsW.take {w : World} {ps : List (Value × Int)} {L : List VT} (h : ListsW w ps L) (k : Nat) : ListsW w (ps.take k) (L.take k) := by
  refine ⟨by rw [List.length_take, List.length_take, h.1], fun j h1 h2 => ?_⟩
  rw [List.length_take] at h1 h2
  have := h.2 j (by omega) (by omega)
  simpa using this
theorem ListsW.drop {w : World} {ps : List (Value × Int)} {L : List VT} (h : ListsW w ps L) (k : Nat) : ListsW w (ps.drop k) (L.drop k) := by
  refine ⟨by rw [List.length_drop, List.length_drop, h.1], fun j h1 h2 => ?_⟩
  rw [List.length_drop] at h1 h2
  have := h.2 (k + j) (by omega) (by omega)
  simpa using this
theorem ListsW.snoc {w : World} {ps : List (Value × Int)} {L : List VT} (h : ListsW w ps L) {v : Value} {k : Int} {T : List ByteArray} (hv : RdX w v T) : ListsW w (ps ++ [(v, k)]) (L ++ [⟨T, k⟩]) := by
  refine ⟨by simp [h.1], fun j h1 h2 => ?_⟩
  simp at h1 h2
  have hl := h.1
  rcases Nat.lt_or_ge j ps.length with hj | hj
  · have := h.2 j hj (by omega)
    rw [List.getElem_append_left hj, List.getElem_append_left (by omega)]; exact this
  · rw [List.getElem_append_right hj, List.getElem_append_right (by omega)]
    simp [hv]
theorem rdW_nil (w : World) : RdW w (.slice none 0 0) [] := ⟨[], ⟨rfl, fun k h => by simp at h⟩, own_rd (World.ownsRow_nil w 0 0 2)⟩
theorem ownW_empty {w : World} {base : Nat} (h : base ≤ w.heap.size) (T : TypeId) : OwnW T base (w.alloc (.cells #[] T)) (.slice (some ⟨w.heap.size, 0, none⟩) 0 0) [] := ⟨[], ⟨rfl, fun k h => by simp at h⟩, own_empty h⟩
theorem RdW.open {w : World} {v : Value} {L : List VT} (h : RdW w v L) : ∃ a cap, v = .slice a L.length cap ∧ L.length ≤ 9223372036854775807 ∧ L.length ≤ cap ∧ (a = none → L.length = 0) ∧
    Hid (∀ k (hk : k < L.length), ∃ b off sa sc, a = some ⟨b, off, none⟩ ∧ b < w.heap.size ∧ w.cell? ⟨b, off + k * 2, none⟩ = some (.slice sa L[k].toks.length sc) ∧ w.cell? ⟨b, off + k * 2 + 1, none⟩ = some (.int .i64 L[k].kind) ∧ RdX w (.slice sa L[k].toks.length sc) L[k].toks) := by
  obtain ⟨ps, ⟨hl, hp⟩, a, cap, rfl, hm, ⟨h0, hcap⟩, hc⟩ := h
  refine ⟨a, cap, by rw [hl], by omega, by omega, fun h => by have := h0 h; omega, Lib.hid fun k hk => ?_⟩
  have hk' : k < ps.length := by omega
  obtain ⟨e1, e2⟩ := hp k hk' hk
  obtain ⟨sa, sc, hs⟩ := e2.slice
  have g0 := flat_at encW 2 encW_len ps k hk' 0 (by omega)
  have g1 := flat_at encW 2 encW_len ps k hk' 1 (by omega)
  obtain ⟨b, off, hab, hlt, x0⟩ := hc _ ps[k].1 (by rw [g0]; rfl)
  obtain ⟨b', off', hab', _, x1⟩ := hc _ (.int .i64 ps[k].2) (by rw [g1]; rfl)
  rw [hab] at hab'
  cases hab'
  rw [hs] at x0 e2
  rw [e1] at x1
  exact ⟨b, off, sa, sc, hab, hlt, x0, x1, e2⟩
/-- The first entries. -/
theorem RdW.take {w : World} {a : Option Addr} {n cap k c : Nat} {L : List VT} (h : RdW w (.slice a n cap) L) (hk : k ≤ n) (hc : k ≤ c) : RdW w (.slice a k c) (L.take k) := by
  obtain ⟨ps, hl, a', cap', e, hm, ⟨h0, hcap⟩, hcell⟩ := h
  cases e
  refine ⟨ps.take k, hl.take k, a, c, by rw [List.length_take, Nat.min_eq_left hk], by rw [List.length_take]; omega, ⟨fun h => by rw [List.length_take]; have := h0 h; omega, by rw [List.length_take]; omega⟩, fun j u hu => hcell j u ?_⟩
  rw [← flat_take encW 2 encW_len ps k hk] at hu
  obtain ⟨hj, hu'⟩ := List.getElem?_eq_some_iff.1 hu
  rw [List.getElem_take] at hu'
  exact List.getElem?_eq_some_iff.2 ⟨_, hu'⟩
/-- The entries from an index on. -/
theorem RdW.drop {w : World} {b off n cap k : Nat} {L : List VT} (h : RdW w (.slice (some ⟨b, off, none⟩) n cap) L) (hk : k ≤ n) : RdW w (.slice (if cap = k then some ⟨b, off, none⟩ else some ⟨b, off + k * 2, none⟩) (n - k) (cap - k)) (L.drop k) := by
  obtain ⟨ps, hl, a', cap', e, hm, ⟨h0, hcap⟩, hcell⟩ := h
  cases e
  by_cases he : cap = k
  · have hd : ps.drop k = [] := List.drop_eq_nil_of_le (by omega)
    refine ⟨ps.drop k, hl.drop k, ?_⟩
    rw [hd, if_pos he]
    exact ⟨_, _, (by rw [show ps.length - k = 0 by omega]; rfl), by simp, ⟨(fun h => by cases h), by simp⟩, fun j u hu => by simp at hu⟩
  · rw [if_neg he]
    refine ⟨ps.drop k, hl.drop k, _, cap - k, by rw [List.length_drop], by rw [List.length_drop]; omega, ⟨(fun h => by cases h), by rw [List.length_drop]; omega⟩, fun j u hu => ?_⟩
    have hl2 : ((ps.take k).flatMap encW).length = k * 2 := by rw [flat_length encW 2 encW_len, List.length_take, Nat.min_eq_left (by omega)]
    have h2 : (ps.flatMap encW)[k * 2 + j]? = some u := by
      have e : (ps.take k).flatMap encW ++ (ps.drop k).flatMap encW = ps.flatMap encW := by rw [← List.flatMap_append, List.take_append_drop]
      rw [← e, List.getElem?_append_right (by omega), hl2, Nat.add_sub_cancel_left]; exact hu
    obtain ⟨b', off', hae, hb', hc'⟩ := hcell _ _ h2
    cases hae
    exact ⟨b, off + k * 2, rfl, hb', by rw [← hc']; congr 2; omega⟩
theorem RdW.drop0 {w : World} {b n cap k : Nat} {L : List VT} (h : RdW w (.slice (some ⟨b, 0, none⟩) n cap) L) (hk : k ≤ n) : RdW w (.slice (if cap = k then some ⟨b, 0, none⟩ else some ⟨b, k * 2, none⟩) (n - k) (cap - k)) (L.drop k) := by
  have := RdW.drop h hk
  rwa [Nat.zero_add] at this
theorem encW_one (ps : List (Value × Int)) (h : ∀ p ∈ ps, p.1.oneCell' = true) : ∀ u ∈ ps.flatMap encW, u.oneCell' = true := by
  intro u hu
  obtain ⟨x, hx, hu⟩ := List.mem_flatMap.1 hu
  simp [encW] at hu
  rcases hu with rfl | rfl
  · exact h x hx
  · rfl
theorem ListsW.one {w : World} {ps : List (Value × Int)} {L : List VT} (h : ListsW w ps L) : ∀ p ∈ ps, p.1.oneCell' = true := fun p hp => by
  obtain ⟨i, hi, rfl⟩ := List.mem_iff_getElem.1 hp
  obtain ⟨sa, sc, hs⟩ := (h.2 i hi (by have := h.1; omega)).2.slice
  rw [hs]; rfl
theorem infoWr : (Tryz.prog.info? 175).map (fun i => (i.zero, i.size, i.bytes)) = some (some (Value.agg #[.slice none 0 0, .int .i64 0]), 2, 32) := by kernel_rfl
/-- The program's append of a value to a full stack. -/
theorem wpList_append_W {w : World} {ops : Array Oper} {rest : List Oper} {o : Oper} {a : Act} {Q : Exit → Act → World → Prop} (hgd : o.guard = none) (s x : Operand)
    (ho : o.op = .call { callee := .builtin .append, args := #[s, x], argTypes := #[173, 173] })
    (ao : Option Addr) (n : Nat) (L : List VT) (hs : a.eval s = .slice ao n n) (hrd : RdW w (.slice ao n n) L) (b : Nat) (sv : Value) (k : Int) (T : List ByteArray) (E : TypeId)
    (hx : a.eval x = .slice (some ⟨b, 0, none⟩) 1 1) (hb : Blk w b #[sv, .int .i64 k] E) (hT : RdX w sv T) (hl : L.length ≤ 1000000)
    (h : ∀ v' w', OwnW 175 w.heap.size w' v' (L ++ [⟨T, k⟩]) → New w w' → wpList Tryz.prog ops Q rest (a.put o.dst v') w') : wpList Tryz.prog ops Q (o :: rest) a w := by
  obtain ⟨i0, hi, hz0, hz1, hz2⟩ := info_parts infoWr
  obtain ⟨ps, hps, a', cap', e, hm, ⟨h0, hcap⟩, hcell⟩ := hrd
  cases e
  have hL := hps.1
  obtain ⟨sa, sc, hsv⟩ := hT.slice
  have hone : ∀ u ∈ encW (sv, k), u.oneCell' = true := by
    intro u hu; simp [encW] at hu; rcases hu with rfl | rfl; (rw [hsv]; rfl); rfl
  refine Go.wpList_append_grows w hgd s x 173 ho 175 i0 _ 2 32 Tryz.underlying173 hi hz0 hz1 hz2 rfl (by decide) ao ps.length ps.length (ps.flatMap encW) hs (fun h => by have := h0 h; omega) (flat_length encW 2 encW_len _) (fun ad had j u hu => ?_) ⟨b, 0, none⟩ 1 1 (encW (sv, k)) hx rfl (fun j u hu => ?_) hone (by omega) (by unfold maxLen; omega) (by omega) ?_
  · obtain ⟨b', off, hae, _, hc⟩ := hcell j u hu
    rw [had] at hae
    cases hae
    have e : (⟨b', off, none⟩ : Addr).add j = ⟨b', off + j, none⟩ := by unfold Addr.add; split <;> simp_all
    rw [e]; exact hc
  · have e : (⟨b, 0, none⟩ : Addr).add j = ⟨b, j, none⟩ := by unfold Addr.add; split <;> simp_all
    rw [e, hb.rules.1]
    simpa [encW] using hu
  · intro v' w' h1 hg
    have hn : New w w' := New.grown (New.refl w) hg (fun q hq => by cases hq)
    refine h v' w' ⟨ps ++ [(sv, k)], (hps.new hn).snoc (hT.new hn), ?_⟩ hn
    rw [List.length_append, List.flatMap_append]
    simpa using h1
end Go.Proofs.YteielmihlfakgaaGreatDoor
