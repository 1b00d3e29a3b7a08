/- The compiling of a program: plain facts, no program of the machine in sight. -/
import Derived.Test.YteielmihlfakgaaGreatDoorBlocksP
import Derived.Test.YteielmihlfakgaaGreatDoorUC
namespace Go.Proofs.YteielmihlfakgaaGreatDoor
open Go Go.Proofs Go.RowKit
set_option linter.unusedVariables false
set_option linter.unusedSimpArgs false
theorem encI_one (xs : List EInstruction) : ∀ u ∈ xs.flatMap encInstruction, u.oneCell' = true := by
  intro u hu
  obtain ⟨x, _, hx⟩ := List.mem_flatMap.1 hu
  simp [encInstruction] at hx
  rcases hx with rfl | rfl <;> rfl
def idS (xs : List ByteArray) (s : ByteArray) : Int := idx (fun y => s.toList == y.toList) xs
theorem foldl_next {α β : Type} (f : β → α → β) (a : β) (xs : List α) (k : Nat) (h : k < xs.length) : (xs.take (k + 1)).foldl f a = f ((xs.take k).foldl f a) xs[k] := by
  rw [List.take_succ_eq_append_getElem h, List.foldl_append]; rfl
/-- The instruction of a name. -/
def nameI (p : ProgD) (s : ByteArray) (i v : Int) : EInstruction := if 0 ≤ idS p.inputs s then ⟨i, idS p.inputs s⟩ else ⟨v, idS p.vars s⟩
def tgtI (p : ProgD) (s : ByteArray) : EInstruction := if 0 ≤ idS p.vars s then ⟨8, idS p.vars s⟩ else ⟨9, idS p.outputs s⟩
def callT (t : ETerm) : Bool := !(decide (1 ≤ t.kind) && decide (t.kind ≤ 6))
/-- The instruction of a term; b: the blocks ahead of it. -/
def termI (p : ProgD) (t : ETerm) (b : Int) : EInstruction :=
  if t.kind = 1 then nameI p t.name 2 3 else if t.kind = 2 then ⟨1, 1⟩ else if t.kind = 3 then ⟨1, 0⟩ else if t.kind = 4 then ⟨4, 0⟩ else if t.kind = 5 then ⟨5, 0⟩ else if t.kind = 6 then ⟨6, 0⟩ else ⟨7, b⟩
abbrev CSt := List EInstruction × Int
def termA (p : ProgD) (st : CSt) (t : ETerm) : CSt := (st.1 ++ [termI p t st.2], if callT t = true then st.2 + 1 else st.2)
def termsA (p : ProgD) (st : CSt) (ts : List ETerm) : CSt := ts.foldl (termA p) st
def lineA (p : ProgD) (st : CSt) (l : LineD) : CSt := ((termsA p st l.terms).1 ++ [tgtI p l.target], (termsA p st l.terms).2)
def linesA (p : ProgD) (k : Nat) : CSt := (p.lines.take k).foldl (lineA p) ([], 0)
theorem linesA_next {p : ProgD} {k : Nat} (h : k < p.lines.length) : linesA p (k + 1) = lineA p (linesA p k) p.lines[k] := foldl_next _ _ _ _ h
theorem termsA_next (p : ProgD) (st : CSt) {ts : List ETerm} {k : Nat} (h : k < ts.length) : termsA p st (ts.take (k + 1)) = termA p (termsA p st (ts.take k)) ts[k] := foldl_next _ _ _ _ h
theorem termsA_len (p : ProgD) : ∀ (ts : List ETerm) (st : CSt), (termsA p st ts).1.length = st.1.length + ts.length
  | [], st => by simp [termsA]
  | t :: ts, st => by
    rw [termsA, List.foldl_cons]
    have := termsA_len p ts (termA p st t)
    rw [termsA] at this
    rw [this]; simp [termA]; omega
theorem termsA_bd (p : ProgD) : ∀ (ts : List ETerm) (st : CSt), 0 ≤ st.2 → st.2 ≤ (termsA p st ts).2 ∧ (termsA p st ts).2 ≤ st.2 + ts.length
  | [], st, h => by simp [termsA]
  | t :: ts, st, h => by
    have h1 : (termA p st t).2 = st.2 ∨ (termA p st t).2 = st.2 + 1 := by rw [termA]; dsimp only; split <;> simp
    have := termsA_bd p ts (termA p st t) (by omega)
    rw [termsA, List.foldl_cons]
    rw [termsA] at this
    rw [List.length_cons]; omega
theorem few_of {p : ProgD} (h : wB p = true) : fewL p := wB_terms h
theorem few_get {p : ProgD} (h : fewL p) {k : Nat} (hk : k < p.lines.length) : p.lines[k].terms.length ≤ 40 := h.2 _ (List.getElem_mem hk)
theorem linesA_bd {p : ProgD} (h : fewL p) : ∀ k, k ≤ p.lines.length → (linesA p k).1.length ≤ k * 41 ∧ 0 ≤ (linesA p k).2 ∧ (linesA p k).2 ≤ k * 40
  | 0, _ => by simp [linesA]
  | k + 1, hk => by
    have h1 := linesA_bd h k (by omega)
    have h2 := few_get h (show k < p.lines.length by omega)
    rw [linesA_next (by omega), lineA]
    have h3 := termsA_len p p.lines[k].terms (linesA p k)
    have h4 := termsA_bd p p.lines[k].terms (linesA p k) h1.2.1
    dsimp only
    rw [List.length_append, List.length_singleton, h3]
    omega
def compS (p : ProgD) : List EInstruction := (linesA p p.lines.length).1 ++ (if p.guard.toList.isEmpty = true then [] else [nameI p p.guard 10 11])
def compC (p : ProgD) : CodeD := ⟨p.inputs.length, p.vars.length, p.outputs.length, blkP p, compS p⟩
theorem blkTo_bd {p : ProgD} (h : fewL p) : ∀ k, k ≤ p.lines.length → (blkTo p k).length ≤ k * 40 := blkTo_len h.2
def compR (p : ProgD) : CodeD × Int := if soundB p = true then (compC p, 0) else (⟨0, 0, 0, [], []⟩, 1)
end Go.Proofs.YteielmihlfakgaaGreatDoor
