/- Programs drawn: plain facts. -/
import Derived.Test.YteielmihlfakgaaGreatDoorProg
import Derived.Test.YteielmihlfakgaaGreatDoorVA
import Derived.Test.YteielmihlfakgaaGreatDoorVC
import Derived.Test.YteielmihlfakgaaGreatDoorSound2
import Derived.Test.YteielmihlfakgaaGreatDoorCompP
import Derived.Test.YteielmihlfakgaaGreatDoorUD
namespace Go.Proofs.YteielmihlfakgaaGreatDoor
open Go Go.Proofs Go.RowKit
set_option linter.unusedVariables false
set_option linter.unusedSimpArgs false
/-- Lines of the call's own (some of their lists may be one). -/
structure OwnLs (w : World) (base : Nat) (v : Value) (ps : List LV) : Prop where
  row : w.ownsRow base 91 2 v ps.length (ps.flatMap encLV)
  terms : ∀ p ∈ ps, w.ownsRow base 66 3 p.2 p.1.terms.length (p.1.terms.flatMap encTerm)
theorem OwnLs.dr {S : Nat} {w w' : World} {base : Nat} {v : Value} {ps : List LV} (h : OwnLs w base v ps) (hb : Dr S w w') (hS : S < base) : OwnLs w' base v ps :=
  ⟨own_dr h.row hb hS, fun p hp => own_dr (h.terms p hp) hb hS⟩
theorem OwnLs.new {w w' : World} {base : Nat} {v : Value} {ps : List LV} (h : OwnLs w base v ps) (hb : New w w') : OwnLs w' base v ps :=
  ⟨own_new h.row hb, fun p hp => own_new (h.terms p hp) hb⟩
theorem OwnLs.base {w : World} {base base' : Nat} {v : Value} {ps : List LV} (h : OwnLs w base v ps) (hb : base' ≤ base) : OwnLs w base' v ps :=
  ⟨own_base h.row hb, fun p hp => own_base (h.terms p hp) hb⟩
theorem OwnLs.setBelow {w : World} {base : Nat} {v : Value} {ps : List LV} (h : OwnLs w base v ps) {p : Addr} (hp : p.block < base) (u : Value) : OwnLs (w.setCell p u) base v ps :=
  ⟨ownsRow_setCell_below h.row hp u, fun q hq => ownsRow_setCell_below (h.terms q hq) hp u⟩
theorem OwnLs.rd {w : World} {base : Nat} {v : Value} {ps : List LV} (h : OwnLs w base v ps) : RdLn w v (ps.map Prod.fst) :=
  ⟨ps, rfl, own_rd h.row, fun p hp => own_rd (h.terms p hp)⟩
theorem OwnLs.app {w w' : World} {base : Nat} {v v' : Value} {ps : List LV} {q : LV} (h : OwnLs w base v ps) (hq : w.ownsRow base 66 3 q.2 q.1.terms.length (q.1.terms.flatMap encTerm)) (hg : w.grownBy w' v.ownBlock)
    (ho : w'.ownsRow base 91 2 v' (ps.length + 1) (ps.flatMap encLV ++ encLV q)) : OwnLs w' base v' (ps ++ [q]) := by
  have hk : ∀ {u : Value} {n : Nat} {cs : List Value}, w.ownsRow base 66 3 u n cs → w'.ownsRow base 66 3 u n cs := fun hu =>
    own_grK hu hg (fun i j h1 h2 => own_ne_ownK h.row hu (by decide) i j h1 h2)
  refine ⟨by simpa using ho, fun p hp => ?_⟩
  rcases List.mem_append.1 hp with hp | hp
  · exact hk (h.terms p hp)
  · obtain rfl := List.mem_singleton.1 hp
    exact hk hq
/-- A program of the call's own. -/
structure OwnPg (w : World) (base : Nat) (p : ProgD) (iv vv ov lv : Value) : Prop where
  ins : w.ownsRow base 9 1 iv p.inputs.length (p.inputs.map Value.string)
  vars : w.ownsRow base 9 1 vv p.vars.length (p.vars.map Value.string)
  outs : w.ownsRow base 9 1 ov p.outputs.length (p.outputs.map Value.string)
  lines : ∃ ps : List LV, ps.map Prod.fst = p.lines ∧ OwnLs w base lv ps
theorem OwnPg.rd {w : World} {base : Nat} {p : ProgD} {iv vv ov lv : Value} (h : OwnPg w base p iv vv ov lv) : RdP w p iv vv ov lv := by
  obtain ⟨ps, e, hl⟩ := h.lines
  exact ⟨own_rd h.ins, own_rd h.vars, own_rd h.outs, e ▸ hl.rd⟩
theorem OwnPg.dr {S : Nat} {w w' : World} {base : Nat} {p : ProgD} {iv vv ov lv : Value} (h : OwnPg w base p iv vv ov lv) (hb : Dr S w w') (hS : S < base) : OwnPg w' base p iv vv ov lv := by
  obtain ⟨ps, e, hl⟩ := h.lines
  exact ⟨own_dr h.ins hb hS, own_dr h.vars hb hS, own_dr h.outs hb hS, ps, e, hl.dr hb hS⟩
theorem OwnPg.new {w w' : World} {base : Nat} {p : ProgD} {iv vv ov lv : Value} (h : OwnPg w base p iv vv ov lv) (hb : New w w') : OwnPg w' base p iv vv ov lv := by
  obtain ⟨ps, e, hl⟩ := h.lines
  exact ⟨own_new h.ins hb, own_new h.vars hb, own_new h.outs hb, ps, e, hl.new hb⟩
theorem OwnPg.base {w : World} {base base' : Nat} {p : ProgD} {iv vv ov lv : Value} (h : OwnPg w base p iv vv ov lv) (hb : base' ≤ base) : OwnPg w base' p iv vv ov lv := by
  obtain ⟨ps, e, hl⟩ := h.lines
  exact ⟨own_base h.ins hb, own_base h.vars hb, own_base h.outs hb, ps, e, hl.base hb⟩
theorem OwnPg.setBelow {w : World} {base : Nat} {p : ProgD} {iv vv ov lv : Value} (h : OwnPg w base p iv vv ov lv) {a : Addr} (ha : a.block < base) (u : Value) : OwnPg (w.setCell a u) base p iv vv ov lv := by
  obtain ⟨ps, e, hl⟩ := h.lines
  exact ⟨ownsRow_setCell_below h.ins ha u, ownsRow_setCell_below h.vars ha u, ownsRow_setCell_below h.outs ha u, ps, e, hl.setBelow ha u⟩
abbrev setC6 (w : World) (b : Nat) (u0 u1 u2 u3 u4 u5 : Value) : World := (((((w.setCell ⟨b, 0, none⟩ u0).setCell ⟨b, 1, none⟩ u1).setCell ⟨b, 2, none⟩ u2).setCell ⟨b, 3, none⟩ u3).setCell ⟨b, 4, none⟩ u4).setCell ⟨b, 5, none⟩ u5
theorem OwnPg.set6 {w : World} {base b : Nat} {p : ProgD} {iv vv ov lv : Value} (h : OwnPg w base p iv vv ov lv) (hb : b < base) (u0 u1 u2 u3 u4 u5 : Value) : OwnPg (setC6 w b u0 u1 u2 u3 u4 u5) base p iv vv ov lv :=
  (((((h.setBelow (a := ⟨b, 0, none⟩) hb u0).setBelow (a := ⟨b, 1, none⟩) hb u1).setBelow (a := ⟨b, 2, none⟩) hb u2).setBelow (a := ⟨b, 3, none⟩) hb u3).setBelow (a := ⟨b, 4, none⟩) hb u4).setBelow (a := ⟨b, 5, none⟩) hb u5
theorem Dr.set6 {S : Nat} {a w : World} (h : Dr S a w) {b : Nat} (hb : a.heap.size ≤ b) (u0 u1 u2 u3 u4 u5 : Value) : Dr S a (setC6 w b u0 u1 u2 u3 u4 u5) := (((((h.setCell (p := ⟨b, 0, none⟩) hb u0).setCell (p := ⟨b, 1, none⟩) hb u1).setCell (p := ⟨b, 2, none⟩) hb u2).setCell (p := ⟨b, 3, none⟩) hb u3).setCell (p := ⟨b, 4, none⟩) hb u4).setCell (p := ⟨b, 5, none⟩) hb u5
/-- The texts and lists of a drawn program are small. -/
structure SmP (p : ProgD) : Prop where
  name : p.name.size ≤ 100
  ins : ∀ x ∈ p.inputs, x.size ≤ 100
  vars : ∀ x ∈ p.vars, x.size ≤ 100
  outs : ∀ x ∈ p.outputs, x.size ≤ 100
  guard : p.guard.size ≤ 100
  insl : p.inputs.length ≤ 100
  varsl : p.vars.length ≤ 100
  outsl : p.outputs.length ≤ 100
  lines1 : 1 ≤ p.lines.length
  linesl : p.lines.length ≤ 100
  tgts : ∀ l ∈ p.lines, l.target.size ≤ 100
  terms : ∀ l ∈ p.lines, l.terms.length ≤ 100 ∧ ∀ x ∈ l.terms, fitTerm x
theorem SmP.fit {p : ProgD} (h : SmP p) : FitP p :=
  ⟨by have := h.name; unfold fitS; omega, fun x hx => by have := h.ins x hx; unfold fitS; omega, by have := h.insl; omega, fun x hx => by have := h.vars x hx; unfold fitS; omega, by have := h.varsl; omega,
   fun x hx => by have := h.outs x hx; unfold fitS; omega, by have := h.outsl; omega, by have := h.guard; unfold fitS; omega,
   fun l hl => ⟨by have := h.tgts l hl; unfold fitS; omega, (h.terms l hl).2, by have := (h.terms l hl).1; omega⟩, by have := h.linesl; omega⟩
/-- A program drawn: its lists lie in new blocks. -/
def DrawPg (S : Nat) (Q : ProgD → Value → Value → Value → Prop) (w : World) (e : Ending) (w' : World) : Prop := ∃ (p : ProgD) (iv vv ov lv : Value), e = .returned (valP p iv vv ov lv) ∧ Dr S w w' ∧ OwnPg w' w.heap.size p iv vv ov lv ∧ SmP p ∧ Q p iv vv ov
/-- The first elements of a row. -/
theorem own_takeS {w : World} {base : Nat} {e : TypeId} {a : Option Addr} {n cap k : Nat} {xs : List ByteArray} (h : w.ownsRow base e 1 (.slice a n cap) n (xs.map Value.string)) (ha : a ≠ none) (hk : k ≤ n) : w.ownsRow base e 1 (.slice a k cap) (xs.take k).length ((xs.take k).map Value.string) := by
  have hl : xs.length = n := by have := h.1; simpa using this
  have ht : (xs.take k).length = k := by simp; omega
  rw [ht]
  rcases h.2 with ⟨h', _⟩ | ⟨g, cap', cur, h', hb, hg, hn, hm, hs, htk⟩
  · cases h'; exact absurd rfl ha
  · cases h'
    refine ⟨by simp; omega, .inr ⟨g, cap, cur, rfl, hb, hg, by omega, hm, hs, ?_⟩⟩
    rw [Nat.mul_one] at htk ⊢
    rw [List.map_take, ← htk, List.take_take, Nat.min_eq_left hk]
/-- A literal list of texts. -/
theorem own_litS {w : World} {base b n : Nat} {T : TypeId} (xs : List ByteArray) (hb : base ≤ w.heap.size) (he : b = w.heap.size) (hn : n = xs.length) (hx : xs.length ≤ 1000) : (w.alloc (.cells (xs.map Value.string).toArray T)).ownsRow base T 1 (.slice (some ⟨b, 0, none⟩) n n) n (xs.map Value.string) := by
  have := World.ownsRow_lit (base := base) (e := T) (size := 1) w (xs.map Value.string).toArray xs.length hb (by unfold maxLen; omega) (by simp)
  subst he
  subst hn
  simpa using this
theorem own_freshS {w : World} {base b : Nat} {T : TypeId} {sz : Nat} (hb : base ≤ w.heap.size) (he : b = w.heap.size) : (w.alloc (.cells #[] T)).ownsRow base T sz (.slice (some ⟨b, 0, none⟩) 0 0) 0 [] := by
  subst he; exact own_empty hb
theorem own_appS {w' : World} {base : Nat} {T : TypeId} {v : Value} {xs ys : List ByteArray} (h : w'.ownsRow base T 1 v (xs.length + ys.length) (xs.map Value.string ++ ys.map Value.string)) : w'.ownsRow base T 1 v (xs ++ ys).length ((xs ++ ys).map Value.string) := by
  simpa using h
/-- An element of a list of texts. -/
theorem rd_atS {w : World} {a : Option Addr} {n cap k : Nat} {xs : List ByteArray} (h : Rd w (.slice a n cap) n (xs.map Value.string)) (hk : k < xs.length) : ∃ b o, a = some ⟨b, o, none⟩ ∧ b < w.heap.size ∧ w.cell? ⟨b, o + k, none⟩ = some (.string xs[k]) := by
  obtain ⟨_, _, e, _, _, hc⟩ := h
  cases e
  exact hc k (.string xs[k]) (by simp [hk])
def slen : Value → Nat | .slice _ n _ => n | _ => 0
theorem rdS_take {w : World} {a : Option Addr} {n cap k : Nat} {xs : List ByteArray} (h : Rd w (.slice a n cap) n (xs.map Value.string)) (hk : k ≤ n) : Rd w (.slice a k cap) k ((xs.take k).map Value.string) := by
  have := Rd.take 1 hk h
  rw [Nat.mul_one, ← List.map_take] at this
  exact this
/-- The elements from the k-th on. -/
theorem rdS_drop {w : World} {b off n cap k c : Nat} {xs : List ByteArray} (h : Rd w (.slice (some ⟨b, off, none⟩) n cap) n (xs.map Value.string)) (hl : xs.length = n) (hk : k ≤ n) (hc : n - k ≤ c) : RdS w (.slice (some ⟨b, off + k, none⟩) (n - k) c) (xs.drop k) := by
  obtain ⟨_, _, e, hm, h0, hcell⟩ := h
  cases e
  refine ⟨_, c, by rw [List.length_drop, hl], by rw [List.length_drop]; omega, ⟨fun h => by (cases h), by rw [List.length_drop]; omega⟩, fun j u hu => ?_⟩
  rw [List.map_drop, List.getElem?_drop] at hu
  obtain ⟨b', off', hae, hb', hc'⟩ := hcell _ _ hu
  cases hae
  exact ⟨_, _, rfl, hb', by rw [Nat.add_assoc]; exact hc'⟩
theorem rdS_dropI {w : World} {b off n cap k : Nat} {xs : List ByteArray} (h : Rd w (.slice (some ⟨b, off, none⟩) n cap) n (xs.map Value.string)) (hl : xs.length = n) (hk : k ≤ n) : RdS w (.slice (if cap = k then some ⟨b, off, none⟩ else some ⟨b, off + k, none⟩) (n - k) (cap - k)) (xs.drop k) := by
  have hc := Rd.cap h
  split
  · rename_i he
    have hd : xs.drop k = [] := List.drop_eq_nil_of_le (by omega)
    rw [hd]
    refine ⟨_, _, (by rw [show n - k = 0 by omega]; rfl), by simp, ⟨(fun h => by cases h), by simp⟩, fun j u hu => by simp at hu⟩
  · exact rdS_drop h hl hk (by omega)
end Go.Proofs.YteielmihlfakgaaGreatDoor
/- Codes drawn: plain facts. -/
namespace Go.Proofs.YteielmihlfakgaaGreatDoor
open Go Go.Proofs Go.RowKit
set_option linter.unusedVariables false
set_option linter.unusedSimpArgs false
/-- A code of the call's own. -/
structure OwnCd (w : World) (base : Nat) (c : CodeD) (bv sv : Value) : Prop where
  blocks : w.ownsRow base 66 3 bv c.blocks.length (c.blocks.flatMap encTerm)
  steps : w.ownsRow base 70 2 sv c.steps.length (c.steps.flatMap encInstruction)
theorem OwnCd.dr {S : Nat} {w w' : World} {base : Nat} {c : CodeD} {bv sv : Value} (h : OwnCd w base c bv sv) (hb : Dr S w w') (hS : S < base) : OwnCd w' base c bv sv := ⟨own_dr h.blocks hb hS, own_dr h.steps hb hS⟩
theorem OwnCd.new {w w' : World} {base : Nat} {c : CodeD} {bv sv : Value} (h : OwnCd w base c bv sv) (hb : New w w') : OwnCd w' base c bv sv := ⟨own_new h.blocks hb, own_new h.steps hb⟩
theorem OwnCd.base {w : World} {base base' : Nat} {c : CodeD} {bv sv : Value} (h : OwnCd w base c bv sv) (hb : base' ≤ base) : OwnCd w base' c bv sv := ⟨own_base h.blocks hb, own_base h.steps hb⟩
theorem OwnCd.setBelow {w : World} {base : Nat} {c : CodeD} {bv sv : Value} (h : OwnCd w base c bv sv) {a : Addr} (ha : a.block < base) (u : Value) : OwnCd (w.setCell a u) base c bv sv := ⟨ownsRow_setCell_below h.blocks ha u, ownsRow_setCell_below h.steps ha u⟩
abbrev setC5 (w : World) (b : Nat) (u0 u1 u2 u3 u4 : Value) : World := ((((w.setCell ⟨b, 0, none⟩ u0).setCell ⟨b, 1, none⟩ u1).setCell ⟨b, 2, none⟩ u2).setCell ⟨b, 3, none⟩ u3).setCell ⟨b, 4, none⟩ u4
theorem OwnCd.set5 {w : World} {base b : Nat} {c : CodeD} {bv sv : Value} (h : OwnCd w base c bv sv) (hb : b < base) (u0 u1 u2 u3 u4 : Value) : OwnCd (setC5 w b u0 u1 u2 u3 u4) base c bv sv :=
  ((((h.setBelow (a := ⟨b, 0, none⟩) hb u0).setBelow (a := ⟨b, 1, none⟩) hb u1).setBelow (a := ⟨b, 2, none⟩) hb u2).setBelow (a := ⟨b, 3, none⟩) hb u3).setBelow (a := ⟨b, 4, none⟩) hb u4
theorem Dr.set5 {S : Nat} {a w : World} (h : Dr S a w) {b : Nat} (hb : a.heap.size ≤ b) (u0 u1 u2 u3 u4 : Value) : Dr S a (setC5 w b u0 u1 u2 u3 u4) := ((((h.setCell (p := ⟨b, 0, none⟩) hb u0).setCell (p := ⟨b, 1, none⟩) hb u1).setCell (p := ⟨b, 2, none⟩) hb u2).setCell (p := ⟨b, 3, none⟩) hb u3).setCell (p := ⟨b, 4, none⟩) hb u4
/-- A drawn code is small. -/
structure SmC (c : CodeD) : Prop where
  terms : ∀ x ∈ c.blocks, fitTerm x
  blocksl : c.blocks.length ≤ 2000
  stepsl : c.steps.length ≤ 3000
/-- A code drawn: its lists lie in new blocks. -/
def DrawCd (S : Nat) (w : World) (e : Ending) (w' : World) : Prop := ∃ (c : CodeD) (bv sv : Value), e = .returned (valC c bv sv) ∧ Dr S w w' ∧ OwnCd w' w.heap.size c bv sv ∧ SmC c
theorem ret_cd {fn : Func} {S base : Nat} {w0 w : World} {a : Act} {c : CodeD} {bv sv : Value} (hd : a.defers = []) (hD : Dr S w0 w) (hb : w0.heap.size ≤ base) (h : OwnCd w base c bv sv) (hs : SmC c) (hr : (results fn a.tmps).run Tryz.prog w = .ok (valC c bv sv) w) :
    bodyPost Tryz.prog fn (DrawCd S w0) .ret a w := ⟨hd, _, hr, c, bv, sv, rfl, hD, h.base hb, hs⟩
theorem cd_fin {fn : Func} {S : Nat} {w wc wE : World} {a : Act} {c : CodeD} {ii : Int} {L : List EInstruction} {bv lv : Value} (hd : a.defers = []) (hS : S < w.heap.size) (hw : w.heap.size < wc.heap.size) (DC : Dr S w wc) (DE : Dr S wc wE)
    (OB : wc.ownsRow (w.heap.size + 1) 66 3 bv c.blocks.length (c.blocks.flatMap encTerm)) (oL : wE.ownsRow wc.heap.size 70 2 lv L.length (L.flatMap encInstruction)) (hL : L.length ≤ 3000) (hsm : SmC c)
    (hr : (results fn a.tmps).run Tryz.prog (setC5 wE w.heap.size (.int .i64 ii) (.int .i64 c.vars) (.int .i64 c.outs) bv lv) = .ok (valC ⟨ii, c.vars, c.outs, c.blocks, L⟩ bv lv) (setC5 wE w.heap.size (.int .i64 ii) (.int .i64 c.vars) (.int .i64 c.outs) bv lv)) :
    bodyPost Tryz.prog fn (DrawCd S w) .ret a (setC5 wE w.heap.size (.int .i64 ii) (.int .i64 c.vars) (.int .i64 c.outs) bv lv) := by
  refine ret_cd (c := ⟨ii, c.vars, c.outs, c.blocks, L⟩) (base := w.heap.size + 1) hd ((DC.trans DE).set5 (Nat.le_refl _) _ _ _ _ _) (by omega) ?_ ⟨hsm.terms, hsm.blocksl, hL⟩ hr
  exact OwnCd.set5 (base := w.heap.size + 1) (b := w.heap.size) (c := ⟨ii, c.vars, c.outs, c.blocks, L⟩) ⟨own_dr OB DE (by omega), own_base (base' := w.heap.size + 1) oL (by omega)⟩ (by omega) _ _ _ _ _
theorem blk_fit {p : ProgD} (h : ∀ l ∈ p.lines, ∀ x ∈ l.terms, fitTerm x) : ∀ x ∈ blkP p, fitTerm x := fun x hx => by
  obtain ⟨l, hl, h1⟩ := List.mem_flatMap.1 hx
  exact h l hl x (List.mem_filter.1 h1).1
theorem comp_sm {p : ProgD} (hf : fewL p) (h : ∀ l ∈ p.lines, ∀ x ∈ l.terms, fitTerm x) (h1 : 1 ≤ p.lines.length) : SmC (compC p) ∧ 1 ≤ (compC p).steps.length ∧ (compC p).steps.length ≤ 1700 := by
  have h2 := blkTo_bd hf p.lines.length (Nat.le_refl _)
  rw [blkTo_all] at h2
  have h3 := linesA_bd hf p.lines.length (Nat.le_refl _)
  have h4 := hf.1
  have h5 : (compS p).length ≤ (linesA p p.lines.length).1.length + 1 ∧ (linesA p p.lines.length).1.length ≤ (compS p).length := by
    rw [compS, List.length_append]
    split <;> simp
  have h6 : 1 ≤ (linesA p p.lines.length).1.length := by
    obtain ⟨n, hn⟩ : ∃ n, p.lines.length = n + 1 := ⟨p.lines.length - 1, by omega⟩
    rw [hn, linesA_next (by omega), lineA]
    simp
  refine ⟨⟨blk_fit h, ?_, ?_⟩, ?_, ?_⟩
  · show (blkP p).length ≤ 2000; omega
  · show (compS p).length ≤ 3000; omega
  · show 1 ≤ (compS p).length; omega
  · show (compS p).length ≤ 1700; omega
theorem own_form {w : World} {base n sz : Nat} {e : TypeId} {v : Value} {xs : List Value} (h : w.ownsRow base e sz v n xs) (hn : 0 < n) : ∃ g cap, v = .slice (some ⟨g, 0, none⟩) n cap := by
  rcases h.2 with ⟨_, h0⟩ | ⟨g, cap, cur, h1, _⟩
  · omega
  · exact ⟨g, cap, h1⟩
theorem set_two_same {α : Type} {cs : List α} {o : Nat} {u v : α} (h : cs[o + 1]? = some v) : (cs.set o u).set (o + 1) v = cs.set o u := by
  apply List.ext_getElem?
  intro j
  rcases Nat.decEq j (o + 1) with hj | hj
  · rw [List.getElem?_set_ne (by omega)]
  · subst hj
    have hl := (List.getElem?_eq_some_iff.1 h).1
    rw [List.getElem?_set_self (by simpa using hl), List.getElem?_set_ne (by omega), h]
theorem set_same {α : Type} {cs : List α} {o : Nat} {u : α} (h : cs[o]? = some u) : cs.set o u = cs := by
  apply List.ext_getElem?
  intro j
  by_cases hj : j = o
  · rw [hj, List.getElem?_set_self (List.getElem?_eq_some_iff.1 h).1, h]
  · rw [List.getElem?_set_ne (by omega)]
theorem set_two_same' {α : Type} {cs : List α} {o : Nat} {u v : α} (h : cs[o]? = some u) : (cs.set o u).set (o + 1) v = cs.set (o + 1) v := by rw [set_same h]
theorem setI0 (xs : List EInstruction) (k : Nat) (hk : k < xs.length) (r : Int) : (xs.flatMap encInstruction).set (k * 2) (.int .i64 r) = (xs.set k ⟨r, xs[k].arg⟩).flatMap encInstruction := by
  rw [← set_flat2 encInstruction 2 encInstruction_len xs k hk ⟨r, xs[k].arg⟩]
  show _ = ((xs.flatMap encInstruction).set (k * 2) (.int .i64 r)).set (k * 2 + 1) (.int .i64 xs[k].arg)
  rw [set_two_same]
  rw [flat_at encInstruction 2 encInstruction_len xs k hk 1 (by omega)]; rfl
theorem setI1 (xs : List EInstruction) (k : Nat) (hk : k < xs.length) (r : Int) : (xs.flatMap encInstruction).set (k * 2 + 1) (.int .i64 r) = (xs.set k ⟨xs[k].op, r⟩).flatMap encInstruction := by
  rw [← set_flat2 encInstruction 2 encInstruction_len xs k hk ⟨xs[k].op, r⟩]
  show _ = ((xs.flatMap encInstruction).set (k * 2) (.int .i64 xs[k].op)).set (k * 2 + 1) (.int .i64 r)
  rw [set_two_same']
  rw [show k * 2 = k * 2 + 0 by omega, flat_at encInstruction 2 encInstruction_len xs k hk 0 (by omega)]; rfl
/-- A store into a row of steps. -/
theorem ownI_set {w : World} {base g cap j : Nat} {xs ys : List EInstruction} {T : TypeId} {r : Int} (h : w.ownsRow base T 2 (.slice (some ⟨g, 0, none⟩) xs.length cap) xs.length (xs.flatMap encInstruction)) (he : (xs.flatMap encInstruction).set j (.int .i64 r) = ys.flatMap encInstruction) (hl : ys.length = xs.length) :
    (w.setCell ⟨g, j, none⟩ (.int .i64 r)).ownsRow base T 2 (.slice (some ⟨g, 0, none⟩) xs.length cap) ys.length (ys.flatMap encInstruction) := by
  have := (h.stored j (.int .i64 r)).1
  rw [he] at this
  rw [hl]; exact this
theorem rdN_dropI {w : World} {b off n cap k : Nat} {xs : List EInstruction} (h : Rd w (.slice (some ⟨b, off, none⟩) n cap) n (xs.flatMap encInstruction)) (hl : xs.length = n) (hk : k ≤ n) : RdN w (.slice (if cap = k then some ⟨b, off, none⟩ else some ⟨b, off + k * 2, none⟩) (n - k) (cap - k)) (xs.drop k) := by
  have hc := Rd.cap h
  split
  · rename_i he
    have hd : xs.drop k = [] := List.drop_eq_nil_of_le (by omega)
    rw [hd]
    refine ⟨_, _, (by rw [show n - k = 0 by omega]; rfl), by simp, ⟨(fun h => by cases h), by simp⟩, fun j u hu => by simp at hu⟩
  · obtain ⟨_, _, e, hm, h0, hcell⟩ := h
    cases e
    refine ⟨_, cap - k, by rw [List.length_drop, hl], by rw [List.length_drop]; omega, ⟨(fun h => by cases h), by rw [List.length_drop]; omega⟩, fun j u hu => ?_⟩
    have hl2 : ((xs.take k).flatMap encInstruction).length = k * 2 := by rw [flat_length encInstruction 2 encInstruction_len, List.length_take, Nat.min_eq_left (by omega)]
    have h2 : (xs.flatMap encInstruction)[k * 2 + j]? = some u := by
      have e : (xs.take k).flatMap encInstruction ++ (xs.drop k).flatMap encInstruction = xs.flatMap encInstruction := by rw [← List.flatMap_append, List.take_append_drop]
      rw [← e, List.getElem?_append_right (by omega), hl2, Nat.add_sub_cancel_left]; exact hu
    obtain ⟨b', off', hae, hb', hc'⟩ := hcell _ _ h2
    cases hae
    exact ⟨_, _, rfl, hb', by rw [Nat.add_assoc]; exact hc'⟩
theorem rdN_dropI0 {w : World} {b n cap k : Nat} {xs : List EInstruction} (h : Rd w (.slice (some ⟨b, 0, none⟩) n cap) n (xs.flatMap encInstruction)) (hl : xs.length = n) (hk : k ≤ n) : RdN w (.slice (if cap = k then some ⟨b, 0, none⟩ else some ⟨b, k * 2, none⟩) (n - k) (cap - k)) (xs.drop k) := by
  have := rdN_dropI h hl hk
  rwa [Nat.zero_add] at this
theorem rdN_dropJ {w : World} {b n cap k : Nat} {xs : List EInstruction} (h : Rd w (.slice (some ⟨b, 0, none⟩) n cap) n (xs.flatMap encInstruction)) (hl : xs.length = n) (hk : k ≤ n) (hc : ¬ cap = k) : RdN w (.slice (some ⟨b, k * 2, none⟩) (n - k) (cap - k)) (xs.drop k) := by
  have := rdN_dropI0 h hl hk
  rwa [if_neg hc] at this
theorem own_val {w : World} {base n sz : Nat} {e : TypeId} {v v' : Value} {xs : List Value} (h : w.ownsRow base e sz v n xs) (hv : v = v') : w.ownsRow base e sz v' n xs := hv ▸ h
theorem rdN_takeI {w : World} {a : Option Addr} {n cap k : Nat} {xs : List EInstruction} (h : Rd w (.slice a n cap) n (xs.flatMap encInstruction)) (hk : k ≤ n) : Rd w (.slice a k cap) k ((xs.take k).flatMap encInstruction) := by
  have := Rd.take 2 hk h
  rw [show (xs.flatMap encInstruction).take (k * 2) = (xs.take k).flatMap encInstruction from by
    rcases Nat.le_total k xs.length with h1 | h1
    · exact flat_take encInstruction 2 encInstruction_len xs k h1
    · rw [List.take_of_length_le h1, List.take_of_length_le (by rw [flat_length encInstruction 2 encInstruction_len]; omega)]] at this
  exact this
theorem own_snocI {w : World} {base : Nat} {v : Value} {T : TypeId} {L : List EInstruction} {k r : Int} (h : w.ownsRow base T 2 v (L.length + 1) (L.flatMap encInstruction ++ [.int .i64 k, .int .i64 r])) : w.ownsRow base T 2 v (L ++ [(⟨k, r⟩ : EInstruction)]).length ((L ++ [(⟨k, r⟩ : EInstruction)]).flatMap encInstruction) := by
  simpa [List.flatMap_append, encInstruction] using h
theorem own_appI {w : World} {base : Nat} {T : TypeId} {v : Value} {xs ys : List EInstruction} (h : w.ownsRow base T 2 v (xs.length + ys.length) (xs.flatMap encInstruction ++ ys.flatMap encInstruction)) : w.ownsRow base T 2 v (xs ++ ys).length ((xs ++ ys).flatMap encInstruction) := by
  simpa using h
theorem rdN_lit {w : World} {b n : Nat} {T : TypeId} (xs : List EInstruction) (he : b = w.heap.size) (hn : n = xs.length) (hm : xs.length ≤ 1000) : RdN (w.alloc (.cells (xs.flatMap encInstruction).toArray T)) (.slice (some ⟨b, 0, none⟩) n n) xs := by
  subst he; subst hn
  refine ⟨_, _, rfl, by omega, ⟨(fun h => nomatch h), Nat.le_refl _⟩, fun j u hu => ⟨_, 0, rfl, by simp, ?_⟩⟩
  rw [cell_alloc_new _ _ _ _ _ rfl]
  simpa using hu
end Go.Proofs.YteielmihlfakgaaGreatDoor
