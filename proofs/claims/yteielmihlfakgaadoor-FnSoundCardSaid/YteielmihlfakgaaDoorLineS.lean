/- Contracts: the laws' helpers on lists of lines (a text and a list of terms). -/
import Derived.Test.YteielmihlfakgaaDoorProg
import Derived.Test.YteielmihlfakgaaDoorStrSl
namespace Go.Proofs.YteielmihlfakgaaDoor
open Go Go.Proofs Go.RowKit
set_option linter.unusedVariables false
set_option linter.unusedSimpArgs false
set_option maxRecDepth 100000
theorem set_next_flat {α : Type} (enc : α → List Value) (sz : Nat) (hs : ∀ x, (enc x).length = sz) (zc : List Value) (hz : zc.length = sz) (qs : List α) (q : α) (n : Nat) (h : qs.length < n) :
    setFrom (qs.flatMap enc ++ (List.replicate (n - qs.length) zc).flatten) (qs.length * sz) (enc q) = (qs ++ [q]).flatMap enc ++ (List.replicate (n - (qs.length + 1)) zc).flatten := by
  obtain ⟨m, rfl⟩ : ∃ m, n = qs.length + m + 1 := ⟨n - qs.length - 1, by omega⟩
  have hl : (qs ++ q :: List.replicate m q).length = qs.length + m + 1 := by simp; omega
  have hk : qs.length < (qs ++ q :: List.replicate m q).length := by omega
  have := set_flat enc sz hs zc hz (qs ++ q :: List.replicate m q) qs.length hk
  rw [hl] at this
  have e1 : (qs ++ q :: List.replicate m q).take qs.length = qs := by simp
  have e2 : (qs ++ q :: List.replicate m q).take (qs.length + 1) = qs ++ [q] := by rw [List.take_append, List.take_of_length_le (by omega), Nat.add_sub_cancel_left]; rfl
  have e3 : (qs ++ q :: List.replicate m q)[qs.length] = q := by simp
  rw [e1, e2, e3] at this
  exact this
theorem zero_next_at {α : Type} (enc : α → List Value) (sz : Nat) (hs : ∀ x, (enc x).length = sz) (zc : List Value) (hz : zc.length = sz) (qs : List α) (n : Nat) (h : qs.length < n) (i : Nat) (hi : i < sz) :
    (qs.flatMap enc ++ (List.replicate (n - qs.length) zc).flatten)[qs.length * sz + i]? = zc[i]? := by
  have h1 : (qs.flatMap enc).length = qs.length * sz := flat_length enc sz hs qs
  rw [List.getElem?_append_right (by omega), h1]
  obtain ⟨m, hm⟩ : ∃ m, n - qs.length = m + 1 := ⟨n - qs.length - 1, by omega⟩
  rw [hm, List.replicate_succ, List.flatten_cons, List.getElem?_append_left (by omega)]
  congr 1; omega
structure LineD where
  target : ByteArray
  terms : List ETerm
abbrev LV := LineD × Value
def encLV (p : LV) : List Value := [.string p.1.target, p.2]
theorem encLV_len (p : LV) : (encLV p).length = 2 := rfl
/-- A list of lines reads. -/
def RdLn (w : World) (v : Value) (ls : List LineD) : Prop := ∃ ps : List LV, ps.map Prod.fst = ls ∧ Rd w v ps.length (ps.flatMap encLV) ∧ ∀ p ∈ ps, Rd w p.2 p.1.terms.length (p.1.terms.flatMap encTerm)
theorem RdLn.new {w w' : World} {v : Value} {ls : List LineD} (h : RdLn w v ls) (n : New w w') : RdLn w' v ls := by
  obtain ⟨ps, e, h1, h2⟩ := h
  exact ⟨ps, e, h1.new n, fun p hp => (h2 p hp).new n⟩
/-- No two of the lists' blocks are one. -/
def Apart (v : Value) (ps : List LV) : Prop :=
  (∀ i (h : i < ps.length), ∀ x y, v.ownBlock = some x → (ps[i]).2.ownBlock = some y → x ≠ y) ∧
  ∀ i j (h : i < ps.length) (h' : j < ps.length), i ≠ j → ∀ x y, (ps[i]).2.ownBlock = some x → (ps[j]).2.ownBlock = some y → x ≠ y
/-- A list of lines in memory of the call's own. -/
def OwnLnX (w : World) (base : Nat) (v : Value) (ps : List LV) : Prop := w.ownsRow base 45 2 v ps.length (ps.flatMap encLV) ∧ ∀ i (h : i < ps.length), w.ownsRow base 43 3 (ps[i]).2 (ps[i]).1.terms.length ((ps[i]).1.terms.flatMap encTerm)
def OwnLn (w : World) (base : Nat) (v : Value) (ls : List LineD) : Prop := ∃ ps : List LV, ps.map Prod.fst = ls ∧ OwnLnX w base v ps ∧ Apart v ps
theorem OwnLnX.new {w w' : World} {base : Nat} {v : Value} {ps : List LV} (h : OwnLnX w base v ps) (n : New w w') : OwnLnX w' base v ps := ⟨own_new h.1 n, fun i hi => own_new (h.2 i hi) n⟩
theorem OwnLn.rd {w : World} {base : Nat} {v : Value} {ls : List LineD} (h : OwnLn w base v ls) : RdLn w v ls := by
  obtain ⟨ps, e, ⟨h1, h2⟩, _⟩ := h
  exact ⟨ps, e, own_rd h1, fun p hp => by obtain ⟨i, hi, rfl⟩ := List.mem_iff_getElem.1 hp; exact own_rd (h2 i hi)⟩
theorem OwnLn.new {w w' : World} {base : Nat} {v : Value} {ls : List LineD} (h : OwnLn w base v ls) (n : New w w') : OwnLn w' base v ls := by
  obtain ⟨ps, e, h1, h2⟩ := h
  exact ⟨ps, e, h1.new n, h2⟩
theorem OwnLn.setBelow {w : World} {base : Nat} {v : Value} {ls : List LineD} (h : OwnLn w base v ls) {p : Addr} {u : Value} (hp : p.block < base) : OwnLn (w.setCell p u) base v ls := by
  obtain ⟨ps, e, ⟨h1, h2⟩, h3⟩ := h
  exact ⟨ps, e, ⟨ownsRow_setCell_below h1 hp u, fun i hi => ownsRow_setCell_below (h2 i hi) hp u⟩, h3⟩
theorem OwnLn.base {w : World} {base base' : Nat} {v : Value} {ls : List LineD} (h : OwnLn w base v ls) (hb : base' ≤ base) : OwnLn w base' v ls := by
  obtain ⟨ps, e, ⟨h1, h2⟩, h3⟩ := h
  exact ⟨ps, e, ⟨own_base h1 hb, fun i hi => own_base (h2 i hi) hb⟩, h3⟩
def szLn (l : LineD) (left : Int) : Int := if szT l.target left < 0 then -1 else szTermS l.terms (szT l.target left)
theorem szLn_bd (l : LineD) (left : Int) (h : 0 ≤ left) : -1 ≤ szLn l left ∧ szLn l left ≤ left := by
  have h1 := szT_bd l.target left h
  rw [szLn]; split
  · omega
  · have := szTermS_bd l.terms (szT l.target left) (by omega); omega
def okLn (l : LineD) : Prop := okS l.target ∧ ∀ x ∈ l.terms, okTerm x
def fitLn (l : LineD) : Prop := fitS l.target ∧ (∀ x ∈ l.terms, fitTerm x) ∧ l.terms.length ≤ 1048576
theorem szLn_fit (l : LineD) (left : Int) (h : 0 ≤ left) (h' : left ≤ 1048576) (h2 : 0 ≤ szLn l left) : fitLn l := by
  have h1 := szT_bd l.target left h
  rw [szLn] at h2; split at h2
  · omega
  · have h3 := szTermS_bd l.terms (szT l.target left) (by omega)
    exact ⟨szT_fit l.target left h h' (by omega), szTermS_fit l.terms _ (by omega) (by omega) h2, by have := h3.2.2 (by omega); omega⟩
end Go.Proofs.YteielmihlfakgaaDoor
