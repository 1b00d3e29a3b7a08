/- Plain law: the rules of programs. -/
import Derived.Test.YteielmihlfakgaaDoorProg
import Derived.Test.YteielmihlfakgaaDoorLangS
namespace Go.Proofs.YteielmihlfakgaaDoor
open Go Go.Proofs Go.RowKit
set_option linter.unusedVariables false
set_option linter.unusedSimpArgs false
theorem bytes_eq (s t : ByteArray) : (s.toList = t.toList) ↔ (s = t) := strEqTerm s t
/-- A word is in a list. -/
def memS (xs : List ByteArray) (x : ByteArray) : Bool := xs.any fun y => x.toList == y.toList
theorem memS_iff (xs : List ByteArray) (x : ByteArray) : memS xs x = true ↔ x ∈ xs := by
  rw [memS, List.any_eq_true]
  constructor
  · rintro ⟨y, hy, h⟩
    rw [beq_iff_eq, bytes_eq] at h; subst h; exact hy
  · intro h; exact ⟨x, h, by simp⟩
theorem memS_append (xs ys : List ByteArray) (x : ByteArray) : memS (xs ++ ys) x = (memS xs x || memS ys x) := by rw [memS, List.any_append]; rfl
/-- Something is twice in a list. -/
def twB (xs : List ByteArray) : Bool := (List.range xs.length).any fun i => memS (xs.take i) (xs.getD i ⟨#[]⟩)
theorem twB_iff (xs : List ByteArray) : twB xs = true ↔ ∃ (i j : Nat) (hi : i < xs.length) (hj : j < i), xs[j] = xs[i] := by
  rw [twB, List.any_eq_true]
  constructor
  · rintro ⟨i, hi, h⟩
    have hi' := List.mem_range.1 hi
    rw [memS_iff, List.mem_take_iff_getElem] at h
    obtain ⟨j, hj, e⟩ := h
    refine ⟨i, j, hi', by omega, ?_⟩
    rw [e]; simp [List.getD, hi']
  · rintro ⟨i, j, hi, hj, e⟩
    refine ⟨i, List.mem_range.2 hi, ?_⟩
    rw [memS_iff, List.mem_take_iff_getElem]
    exact ⟨j, by omega, by simp [List.getD, hi, e]⟩
theorem twB_nodup (xs : List ByteArray) : twB xs = false ↔ xs.Nodup := by
  rw [← Bool.not_eq_true, twB_iff, List.nodup_iff_pairwise_ne, List.pairwise_iff_getElem]
  constructor
  · intro h i j hi hj hij e; exact h ⟨j, i, hj, hij, e⟩
  · rintro h ⟨i, j, hi, hj, e⟩; exact h j i (by omega) hi hj e
theorem nodup_len {α : Type} [BEq α] [LawfulBEq α] : ∀ (xs ys : List α), xs.Nodup → (∀ x ∈ xs, x ∈ ys) → xs.length ≤ ys.length
  | [], _, _, _ => by simp
  | x :: xs, ys, h, hs => by
    have h1 := List.nodup_cons.1 h
    have hx := hs x (by simp)
    have := nodup_len xs (ys.erase x) h1.2 (fun y hy => (List.mem_erase_of_ne (fun e => h1.1 (by rw [← e]; exact hy))).2 (hs y (by simp [hy])))
    rw [List.length_erase_of_mem hx] at this
    have : 0 < ys.length := List.length_pos_of_mem hx
    simp; omega
/-- .. up to an index. -/
def twUp (xs : List ByteArray) (k : Nat) : Bool := (List.range k).any fun i => memS (xs.take i) (xs.getD i ⟨#[]⟩)
theorem twUp_next {xs : List ByteArray} {k : Nat} (hk : k < xs.length) (h : twUp xs k = false) : (memS (xs.take k) xs[k] = true → twB xs = true) ∧ (memS (xs.take k) xs[k] = false → twUp xs (k + 1) = false) := by
  have e : xs.getD k ⟨#[]⟩ = xs[k] := by simp [List.getD, hk]
  constructor
  · intro hm
    rw [twB, List.any_eq_true]
    exact ⟨k, List.mem_range.2 hk, by rw [e]; exact hm⟩
  · intro hm
    rw [twUp, List.range_succ, List.any_append]
    rw [twUp] at h
    rw [h]; simp [hm, hk]
def allP (p : ProgD) : List ByteArray := p.inputs ++ p.vars ++ p.outputs
def madeP (p : ProgD) : List ByteArray := p.vars ++ p.outputs
def targetsP (p : ProgD) : List ByteArray := p.lines.map (·.target)
def readB (p : ProgD) (s : ByteArray) : Bool := memS p.inputs s || memS p.vars s
def unkT (p : ProgD) (t : ETerm) : Bool := decide (t.kind = 1) && !readB p t.name
def unkL (p : ProgD) (l : LineD) : Bool := l.terms.any (unkT p)
def out3 (p : ProgD) (s : ByteArray) : Bool := !memS (madeP p) s
def bad2 (p : ProgD) : Bool := !p.guard.toList.isEmpty && !readB p p.guard
def faultS (p : ProgD) : Int :=
  if twB (allP p) then 1 else if bad2 p then 2 else if (targetsP p).any (out3 p) then 3 else if twB (targetsP p) then 4
  else if (targetsP p).length < p.vars.length + p.outputs.length then 5 else if p.lines.any (unkL p) then 6 else 0
def faultI (p : ProgD) : Int :=
  if twB (allP p) then 1 else if bad2 p then 2 else if (targetsP p).any (out3 p) then 3 else if twB (targetsP p) then 4
  else if (madeP p).any (fun s => !memS (targetsP p) s) then 5 else if p.lines.any (unkL p) then 6 else 0
instance : BEq ByteArray := ⟨fun a b => decide (a = b)⟩
instance : LawfulBEq ByteArray := { eq_of_beq := fun {a b} h => of_decide_eq_true h, rfl := fun {a} => decide_eq_true rfl }
theorem five (p : ProgD) (h1 : twB (allP p) = false) (h3 : (targetsP p).any (out3 p) = false) (h4 : twB (targetsP p) = false) :
    ((targetsP p).length < p.vars.length + p.outputs.length) ↔ (madeP p).any (fun s => !memS (targetsP p) s) = true := by
  rw [twB_nodup] at h1 h4
  have hm : (madeP p).Nodup := by
    rw [allP, List.append_assoc, List.nodup_append] at h1; exact h1.2.1
  have hsub : ∀ x ∈ targetsP p, x ∈ madeP p := fun x hx => by
    have := List.any_eq_false.1 h3 x hx
    rw [out3] at this
    simpa [memS_iff] using this
  have hl : (madeP p).length = p.vars.length + p.outputs.length := by rw [madeP, List.length_append]
  rw [← hl, List.any_eq_true]
  constructor
  · intro h
    refine Classical.byContradiction fun hn => ?_
    have := nodup_len (madeP p) (targetsP p) hm (fun x hx => by
      refine Classical.byContradiction fun hx' => hn ⟨x, hx, ?_⟩
      cases hh : memS (targetsP p) x with
      | true => exact absurd ((memS_iff _ _).1 hh) hx'
      | false => rfl)
    omega
  · rintro ⟨x, hx, h⟩
    have hx' : x ∉ targetsP p := fun h' => by rw [(memS_iff _ _).2 h'] at h; cases h
    have := nodup_len (x :: targetsP p) (madeP p) (List.nodup_cons.2 ⟨hx', h4⟩) (fun y hy => by
      rcases List.mem_cons.1 hy with rfl | hy
      · exact hx
      · exact hsub y hy)
    simp at this; omega
theorem fault_eq (p : ProgD) : faultI p = faultS p := by
  unfold faultI faultS
  by_cases h1 : twB (allP p) = true
  · simp [h1]
  rw [if_neg h1, if_neg h1]
  by_cases h2 : bad2 p = true
  · simp [h2]
  rw [if_neg h2, if_neg h2]
  by_cases h3 : (targetsP p).any (out3 p) = true
  · rw [if_pos h3, if_pos h3]
  rw [if_neg h3, if_neg h3]
  by_cases h4 : twB (targetsP p) = true
  · rw [if_pos h4, if_pos h4]
  rw [if_neg h4, if_neg h4]
  have h5 := five p (by simpa using h1) ((Bool.not_eq_true _).mp h3) (by simpa using h4)
  by_cases h : (targetsP p).length < p.vars.length + p.outputs.length
  · rw [if_pos h, if_pos (h5.1 h)]
  · rw [if_neg h, if_neg (fun h' => h (h5.2 h'))]
end Go.Proofs.YteielmihlfakgaaDoor
