/- Texts of codes: plain facts. -/
import Derived.Test.YtekpbmoagabmeaaGreatDoorProg
import Derived.Test.YtekpbmoagabmeaaGreatDoorMrgC
import Derived.Test.YtekpbmoagabmeaaGreatDoorTxtW
import Derived.Test.YtekpbmoagabmeaaGreatDoorBtxtW
namespace Go.Proofs.YtekpbmoagabmeaaGreatDoor
open Go Go.Proofs Go.RowKit
set_option linter.unusedVariables false
set_option linter.unusedSimpArgs false
def NumOk (x : Int) : Prop := 0 ≤ x ∧ x ≤ 1000000
theorem crun_fits {c : CodeD} : ∀ (xs : List EInstruction) (n : Int) (acc : List Int), (crun c xs n acc).isSome = true → ∀ x ∈ xs, fitsC c x = true
  | [], _, _, _, x, hx => by cases hx
  | y :: ys, n, acc, h, x, hx => by
    rw [crun] at h
    split at h
    · next hh =>
      rcases List.mem_cons.1 hx with rfl | hx
      · exact hh.1
      · exact crun_fits ys _ _ h x hx
    · cases h
theorem code_head {c : CodeD} (h : isCodeB c = true) : NumsOk [c.ins, c.vars, c.outs] ∧ c.blocks.length ≤ 2000 ∧ c.steps.length ≤ 2000 := by
  rw [isCodeB] at h
  simp only [Bool.and_eq_true] at h
  have hs := h.1.1
  rw [smallB] at hs
  simp [inB] at hs
  refine ⟨?_, by omega, by omega⟩
  intro x hx
  simp at hx
  rcases hx with rfl | rfl | rfl <;> omega
theorem code_blocks {c : CodeD} (h : isCodeB c = true) : ∀ t ∈ c.blocks, 7 ≤ t.kind ∧ t.kind ≤ 12 ∧ 0 ≤ t.num ∧ t.num ≤ 9999 := by
  rw [isCodeB] at h
  simp only [Bool.and_eq_true] at h
  have hb : c.blocks.any (fun t => !isBlkE t) = false := by simpa using h.1.2
  intro t ht
  have := List.any_eq_false.1 hb t ht
  have hk : isBlk t.kind t.name t.num = true := by simpa [isBlkE] using this
  exact isBlk_bd hk
theorem code_steps {c : CodeD} (h : isCodeB c = true) : ∀ x ∈ c.steps, NumOk x.op ∧ NumOk x.arg := by
  have hh := code_head h
  rw [isCodeB] at h
  simp only [Bool.and_eq_true] at h
  have hs := h.1.1
  rw [smallB] at hs
  simp [inB] at hs
  have ho := h.2
  have hr : (crun c c.steps 0 []).isSome = true := by
    rw [okC] at ho
    cases hc : crun c c.steps 0 [] with
    | some _ => rfl
    | none => rw [hc] at ho; cases ho
  intro x hx
  have hf := crun_fits _ _ _ hr x hx
  obtain ⟨h1, h2, h3, _⟩ := fits_op hf
  rw [fitsC] at hf
  simp at hf
  have hm : manyOf c x.op ≤ 2000 := by
    unfold manyOf
    repeat' split
    all_goals omega
  unfold NumOk
  omega
def bline (t : ETerm) : List UInt8 := (kwOf t.kind).data.toList ++ (32 :: (Lib.decDigits t.num.toNat ++ [10]))
def sline (x : EInstruction) : List UInt8 := Lib.decDigits x.op.toNat ++ (32 :: (Lib.decDigits x.arg.toNat ++ [10]))
def head3 (c : CodeD) : List UInt8 := jn [c.ins, c.vars, c.outs] ++ [10]
def ctB (c : CodeD) (k : Nat) : List UInt8 := head3 c ++ (c.blocks.take k).flatMap bline
def ctS (c : CodeD) (k : Nat) : List UInt8 := (ctB c c.blocks.length ++ [45, 10]) ++ (c.steps.take k).flatMap sline
theorem ctB_next {c : CodeD} {k : Nat} (h : k < c.blocks.length) : ctB c (k + 1) = ctB c k ++ bline c.blocks[k] := by
  rw [ctB, List.take_succ_eq_append_getElem h, List.flatMap_append, ctB]; simp
theorem ctS_next {c : CodeD} {k : Nat} (h : k < c.steps.length) : ctS c (k + 1) = ctS c k ++ sline c.steps[k] := by
  rw [ctS, List.take_succ_eq_append_getElem h, List.flatMap_append, ctS]; simp
theorem head3_len {c : CodeD} (h : isCodeB c = true) : (head3 c).length ≤ 61 := by
  have h1 := jn_len (code_head h).1 3 (by simp)
  rw [List.take_of_length_le (by simp)] at h1
  rw [head3, List.length_append, List.length_singleton]; omega
theorem ctB_len {c : CodeD} (h : isCodeB c = true) : ∀ k, k ≤ c.blocks.length → (ctB c k).length ≤ 61 + 13 * k := by
  intro k
  induction k with
  | zero => intro _; have := head3_len h; simpa [ctB] using this
  | succ k ih =>
    intro hk
    have h0 := ih (by omega)
    obtain ⟨e1, e2, e3, e4⟩ := code_blocks h c.blocks[k] (List.getElem_mem _)
    have hz := (kwOf_size e1 e2).2
    have hz2 := dec_len 3 c.blocks[k].num.toNat (by omega)
    have hl : (kwOf c.blocks[k].kind).data.toList.length = (kwOf c.blocks[k].kind).size := by rw [Array.length_toList]; rfl
    rw [ctB_next (by omega), bline, List.length_append, List.length_append, List.length_cons, List.length_append, List.length_singleton]
    omega
theorem ctS_len {c : CodeD} (h : isCodeB c = true) : ∀ k, k ≤ c.steps.length → (ctS c k).length ≤ 30000 + 20 * k := by
  intro k
  induction k with
  | zero =>
    intro _
    have h1 := ctB_len h c.blocks.length (Nat.le_refl _)
    have h2 := (code_head h).2.1
    rw [ctS]; simp; omega
  | succ k ih =>
    intro hk
    have h0 := ih (by omega)
    obtain ⟨e1, e2⟩ := code_steps h c.steps[k] (List.getElem_mem _)
    unfold NumOk at e1 e2
    have hz1 := dec_len 6 c.steps[k].op.toNat (by omega)
    have hz2 := dec_len 6 c.steps[k].arg.toNat (by omega)
    rw [ctS_next (by omega), sline, List.length_append, List.length_append, List.length_cons, List.length_append, List.length_singleton]
    omega
end Go.Proofs.YtekpbmoagabmeaaGreatDoor
