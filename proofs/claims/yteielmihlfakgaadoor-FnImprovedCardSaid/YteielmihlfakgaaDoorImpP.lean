/- The improving of a code: plain facts, no program in sight. -/
import Derived.Test.YteielmihlfakgaaDoorUD
namespace Go.Proofs.YteielmihlfakgaaDoor
open Go Go.Proofs Go.RowKit
set_option linter.unusedVariables false
set_option linter.unusedSimpArgs false
def betterI (x y : EInstruction) : Option (List EInstruction) :=
  if x.op = 1 ∧ y.op = 4 then some [⟨1, 1 - x.arg⟩] else
  if x.op = 4 ∧ y.op = 4 then some [] else
  if x.op = 1 ∧ x.arg = 1 ∧ y.op = 5 then some [] else
  if x.op = 1 ∧ x.arg = 0 ∧ y.op = 6 then some [] else none
theorem better_cases {x y : EInstruction} {z : List EInstruction} (h : betterI x y = some z) :
    (x.op = 1 ∧ y.op = 4 ∧ z = [⟨1, 1 - x.arg⟩]) ∨ (x.op = 4 ∧ y.op = 4 ∧ z = []) ∨ (x.op = 1 ∧ x.arg = 1 ∧ y.op = 5 ∧ z = []) ∨ (x.op = 1 ∧ x.arg = 0 ∧ y.op = 6 ∧ z = []) := by
  unfold betterI at h
  repeat' split at h
  · rename_i h1; injection h with h; exact .inl ⟨h1.1, h1.2, h.symm⟩
  · rename_i h1; injection h with h; exact .inr (.inl ⟨h1.1, h1.2, h.symm⟩)
  · rename_i h1; injection h with h; exact .inr (.inr (.inl ⟨h1.1, h1.2.1, h1.2.2, h.symm⟩))
  · rename_i h1; injection h with h; exact .inr (.inr (.inr ⟨h1.1, h1.2.1, h1.2.2, h.symm⟩))
  · cases h
theorem better_len {x y : EInstruction} {z : List EInstruction} (h : betterI x y = some z) : z.length ≤ 1 := by
  rcases better_cases h with ⟨_, _, rfl⟩ | ⟨_, _, rfl⟩ | ⟨_, _, _, rfl⟩ | ⟨_, _, _, rfl⟩ <;> simp
def onceI : List EInstruction → Option (List EInstruction)
  | [] => none
  | [_] => none
  | x :: y :: r => match betterI x y with
    | some z => some (z ++ r)
    | none => (onceI (y :: r)).map (x :: ·)
theorem once_some {x y : EInstruction} {r z : List EInstruction} (h : betterI x y = some z) : onceI (x :: y :: r) = some (z ++ r) := by rw [onceI, h]
theorem once_none {x y : EInstruction} {r : List EInstruction} (h : betterI x y = none) : onceI (x :: y :: r) = (onceI (y :: r)).map (x :: ·) := by rw [onceI, h]
/-- What a step of the improving does: two instructions, somewhere, are replaced. -/
theorem once_is : ∀ {xs ys : List EInstruction}, onceI xs = some ys → ∃ a x y z r, xs = a ++ x :: y :: r ∧ betterI x y = some z ∧ ys = a ++ z ++ r
  | [], _, h => by cases h
  | [_], _, h => by cases h
  | x :: y :: r, ys, h => by
    cases hb : betterI x y with
    | some z =>
      rw [once_some hb] at h; injection h with h
      exact ⟨[], x, y, z, r, rfl, hb, h.symm⟩
    | none =>
      rw [once_none hb] at h
      cases ho : onceI (y :: r) with
      | none => rw [ho] at h; cases h
      | some zs =>
        rw [ho] at h; injection h with h
        obtain ⟨a, x', y', z, r', e1, e2, e3⟩ := once_is ho
        exact ⟨x :: a, x', y', z, r', by rw [e1]; rfl, e2, by rw [← h, e3]; rfl⟩
theorem once_len {xs ys : List EInstruction} (h : onceI xs = some ys) : ys.length < xs.length := by
  obtain ⟨a, x, y, z, r, rfl, h2, rfl⟩ := once_is h
  have := better_len h2
  simp; omega
/-- Nothing is to be replaced ahead of the k-th one. -/
def PreI (xs : List EInstruction) (k : Nat) : Prop := onceI xs = (onceI (xs.drop k)).map (xs.take k ++ ·)
theorem pre_zero (xs : List EInstruction) : PreI xs 0 := by rw [PreI]; simp
theorem drop_two {xs : List EInstruction} {k : Nat} (h : k + 1 < xs.length) : xs.drop k = xs[k] :: xs[k + 1] :: xs.drop (k + 2) := by
  rw [List.drop_eq_getElem_cons (by omega), List.drop_eq_getElem_cons h]
theorem pre_at {xs z : List EInstruction} {k : Nat} (h : k + 1 < xs.length) (hb : betterI xs[k] xs[k + 1] = some z) (hp : PreI xs k) : onceI xs = some (xs.take k ++ z ++ xs.drop (k + 2)) := by
  rw [PreI, drop_two h, once_some hb] at hp
  rw [hp, List.append_assoc]; rfl
theorem pre_next {xs : List EInstruction} {k : Nat} (h : k + 1 < xs.length) (hb : betterI xs[k] xs[k + 1] = none) (hp : PreI xs k) : PreI xs (k + 1) := by
  rw [PreI, drop_two h, once_none hb] at hp
  have e := List.take_succ_eq_append_getElem (show k < xs.length by omega)
  rw [PreI, hp, List.drop_eq_getElem_cons h, Option.map_map]
  congr 1
  funext l
  rw [e, List.append_assoc]; rfl
theorem pre_end {xs : List EInstruction} {k : Nat} (h : xs.length ≤ k + 1) (hp : PreI xs k) : onceI xs = none := by
  rw [PreI] at hp
  rcases Nat.lt_or_ge k xs.length with h1 | h1
  · rw [List.drop_eq_getElem_cons h1, List.drop_eq_nil_of_le h] at hp
    rw [hp]; rfl
  · rw [List.drop_eq_nil_of_le h1] at hp
    rw [hp]; rfl
def impN : Nat → List EInstruction → List EInstruction
  | 0, xs => xs
  | n + 1, xs => match onceI xs with
    | some ys => impN n ys
    | none => xs
theorem impN_stop {xs : List EInstruction} (h : onceI xs = none) : ∀ n, impN n xs = xs
  | 0 => rfl
  | n + 1 => by rw [impN, h]
theorem impN_enough : ∀ (n m : Nat) (xs : List EInstruction), xs.length ≤ n → xs.length ≤ m → impN n xs = impN m xs
  | 0, m, xs, h, _ => by
    have : xs = [] := List.eq_nil_of_length_eq_zero (by omega)
    subst this
    rw [impN_stop (xs := []) rfl, impN_stop (xs := []) rfl]
  | n + 1, 0, xs, _, h => by
    have : xs = [] := List.eq_nil_of_length_eq_zero (by omega)
    subst this
    rw [impN_stop (xs := []) rfl, impN_stop (xs := []) rfl]
  | n + 1, m + 1, xs, h1, h2 => by
    cases ho : onceI xs with
    | none => rw [impN_stop ho, impN_stop ho]
    | some ys =>
      have := once_len ho
      rw [impN, impN, ho]
      exact impN_enough n m ys (by omega) (by omega)
def impI (xs : List EInstruction) : List EInstruction := impN xs.length xs
theorem impI_stop {xs : List EInstruction} (h : onceI xs = none) : impI xs = xs := impN_stop h _
theorem impI_step {xs ys : List EInstruction} (h : onceI xs = some ys) : impI xs = impI ys := by
  have := once_len h
  rw [impI, impN_enough xs.length (xs.length + 1) xs (Nat.le_refl _) (by omega), impN, h]
  exact impN_enough _ _ ys (by omega) (Nat.le_refl _)
/-- A property that each step keeps. -/
theorem impI_ind (Q : List EInstruction → Prop) (hs : ∀ xs ys, onceI xs = some ys → Q xs → Q ys) : ∀ (n : Nat) (xs : List EInstruction), xs.length ≤ n → Q xs → Q (impI xs) ∧ onceI (impI xs) = none
  | n, xs, hn, hq => by
    cases ho : onceI xs with
    | none => rw [impI_stop ho]; exact ⟨hq, ho⟩
    | some ys =>
      have hl := once_len ho
      rw [impI_step ho]
      cases n with
      | zero => omega
      | succ n => exact impI_ind Q hs n ys (by omega) (hs xs ys ho hq)
theorem impI_len (xs : List EInstruction) : (impI xs).length ≤ xs.length :=
  (impI_ind (fun ys => ys.length ≤ xs.length) (fun a b h1 h2 => by have := once_len h1; omega) _ xs (Nat.le_refl _) (Nat.le_refl _)).1
theorem impI_again (xs : List EInstruction) : impI (impI xs) = impI xs :=
  impI_stop (impI_ind (fun _ => True) (fun _ _ _ _ => trivial) _ xs (Nat.le_refl _) trivial).2
/-- Where 0 or 1 is pushed, nothing else comes. -/
def okArgs (xs : List EInstruction) : Prop := ∀ x ∈ xs, x.op = 1 → x.arg = 0 ∨ x.arg = 1
theorem once_args {xs ys : List EInstruction} (h : onceI xs = some ys) (ha : okArgs xs) : okArgs ys := by
  obtain ⟨a, x, y, z, r, rfl, h2, rfl⟩ := once_is h
  intro u hu h1
  rw [List.mem_append, List.mem_append] at hu
  rcases hu with (hu | hu) | hu
  · exact ha u (by simp [hu]) h1
  · have hx := ha x (by simp)
    rcases better_cases h2 with ⟨e1, _, rfl⟩ | ⟨_, _, rfl⟩ | ⟨_, _, _, rfl⟩ | ⟨_, _, _, rfl⟩
    · rw [List.mem_singleton] at hu
      subst hu
      have := hx e1
      dsimp only; omega
    all_goals cases hu
  · exact ha u (by simp [hu]) h1
theorem crun_of (c : CodeD) (ss : List EInstruction) : ∀ (xs : List EInstruction) (n : Int) (acc : List Int), crun { c with steps := ss } xs n acc = crun c xs n acc
  | [], _, _ => rfl
  | x :: xs, n, acc => by
    rw [crun, crun, crun_of c ss xs]
    rfl
theorem crun_acc (c : CodeD) : ∀ (xs : List EInstruction) (n : Int) (acc : List Int), crun c xs n acc = (crun c xs n []).map (fun r => (acc ++ r.1, r.2))
  | [], n, acc => by simp [crun]
  | x :: xs, n, acc => by
    rw [crun, crun]
    split
    · rw [crun_acc c xs _ (acc ++ _), crun_acc c xs _ ([] ++ _), Option.map_map]
      congr 1
      funext r
      simp
    · rfl
theorem crun_cons {c : CodeD} {x : EInstruction} {xs : List EInstruction} {n : Int} {R : List Int × Int} (h : crun c (x :: xs) n [] = some R) :
    fitsC c x = true ∧ takesI c x ≤ n ∧ n - takesI c x + givesI x ≤ 40 ∧ ∃ hs, crun c xs (n - takesI c x + givesI x) [] = some (hs, R.2) ∧ R.1 = (n - takesI c x + givesI x) :: hs := by
  rw [crun] at h
  split at h
  · rename_i hc
    refine ⟨hc.1, hc.2.1, hc.2.2, ?_⟩
    rw [crun_acc] at h
    cases ho : crun c xs (n - takesI c x + givesI x) [] with
    | none => rw [ho] at h; cases h
    | some r =>
      rw [ho] at h
      injection h with h
      subst h
      exact ⟨r.1, rfl, rfl⟩
  · cases h
theorem crun_put {c : CodeD} {x : EInstruction} {xs : List EInstruction} {n m : Int} {hs : List Int} (h1 : fitsC c x = true) (h2 : takesI c x ≤ n) (h3 : n - takesI c x + givesI x ≤ 40) (h : crun c xs (n - takesI c x + givesI x) [] = some (hs, m)) :
    crun c (x :: xs) n [] = some ((n - takesI c x + givesI x) :: hs, m) := by
  rw [crun, if_pos ⟨h1, h2, h3⟩, crun_acc, h]; rfl
theorem fits_push {c : CodeD} {v : Int} (h : v = 0 ∨ v = 1) : fitsC c ⟨1, v⟩ = true := by
  rw [fitsC, manyOf]
  rcases h with rfl | rfl <;> simp
theorem fits_push' {c : CodeD} {x : EInstruction} (h : fitsC c x = true) (h1 : x.op = 1) : x.arg = 0 ∨ x.arg = 1 := by
  rw [fitsC, manyOf, if_pos h1] at h
  simp at h; omega
theorem crun_better {c : CodeD} {x y : EInstruction} {z r : List EInstruction} {n m : Int} {hs : List Int} (hb : betterI x y = some z) (h : crun c (x :: y :: r) n [] = some (hs, m)) :
    ∃ hs', crun c (z ++ r) n [] = some (hs', m) ∧ ∀ u ∈ hs', u ∈ hs := by
  obtain ⟨f1, t1, g1, hs1, h1, e1⟩ := crun_cons h
  obtain ⟨f2, t2, g2, hs2, h2, e2⟩ := crun_cons h1
  dsimp only at e1 e2 h1 h2
  rcases better_cases hb with ⟨a, b, rfl⟩ | ⟨a, b, rfl⟩ | ⟨a, _, b, rfl⟩ | ⟨a, _, b, rfl⟩
  · have hx : takesI c x = 0 ∧ givesI x = 1 := by rw [takesI, givesI, a]; simp
    have hy : takesI c y = 1 ∧ givesI y = 1 := by rw [takesI, givesI, b]; simp
    have hz : takesI c ⟨1, 1 - x.arg⟩ = 0 ∧ givesI ⟨1, 1 - x.arg⟩ = 1 := by rw [takesI, givesI]; simp
    have hv := fits_push' f1 a
    rw [hx.1, hx.2] at h2 g1 e1 e2
    rw [hy.1, hy.2] at h2 e2
    have e3 : n - 0 + 1 - 1 + 1 = n - takesI c ⟨1, 1 - x.arg⟩ + givesI ⟨1, 1 - x.arg⟩ := by rw [hz.1, hz.2]; omega
    rw [e3] at h2
    refine ⟨_, crun_put (fits_push (by omega)) (by rw [hz.1]; rw [hx.1] at t1; exact t1) (by rw [hz.1, hz.2]; exact g1) h2, ?_⟩
    intro u hu
    rw [e1, e2]
    rw [hz.1, hz.2] at hu
    rcases List.mem_cons.1 hu with hu | hu
    · exact List.mem_cons.2 (.inl hu)
    · exact List.mem_cons.2 (.inr (List.mem_cons.2 (.inr hu)))
  all_goals
    have hn : n - takesI c x + givesI x - takesI c y + givesI y = n := by
      unfold takesI givesI
      rw [a, b]
      simp <;> omega
    rw [hn] at h2
    refine ⟨hs2, h2, fun u hu => ?_⟩
    rw [e1, e2]
    exact List.mem_cons.2 (.inr (List.mem_cons.2 (.inr hu)))
theorem crun_ahead {c : CodeD} {P Q : List EInstruction} (hPQ : ∀ n m hs, crun c P n [] = some (hs, m) → ∃ hs', crun c Q n [] = some (hs', m) ∧ ∀ u ∈ hs', u ∈ hs) :
    ∀ (a : List EInstruction) (n m : Int) (hs : List Int), crun c (a ++ P) n [] = some (hs, m) → ∃ hs', crun c (a ++ Q) n [] = some (hs', m) ∧ ∀ u ∈ hs', u ∈ hs
  | [], n, m, hs, h => hPQ n m hs h
  | x :: a, n, m, hs, h => by
    obtain ⟨f1, t1, g1, hs1, h1, e1⟩ := crun_cons h
    dsimp only at e1 h1
    obtain ⟨hs', h2, h3⟩ := crun_ahead hPQ a _ _ _ h1
    refine ⟨_, crun_put f1 t1 g1 h2, fun u hu => ?_⟩
    rw [e1]
    rcases List.mem_cons.1 hu with hu | hu
    · exact List.mem_cons.2 (.inl hu)
    · exact List.mem_cons.2 (.inr (h3 u hu))
theorem crun_once {c : CodeD} {xs ys : List EInstruction} (h : onceI xs = some ys) {n m : Int} {hs : List Int} (hr : crun c xs n [] = some (hs, m)) : ∃ hs', crun c ys n [] = some (hs', m) ∧ ∀ u ∈ hs', u ∈ hs := by
  obtain ⟨a, x, y, z, r, rfl, h2, rfl⟩ := once_is h
  rw [List.append_assoc]
  exact crun_ahead (fun n m hs hh => crun_better h2 hh) a n m hs hr
/-- The improved code. -/
def impC (c : CodeD) : CodeD := { c with steps := impI c.steps }
theorem crun_imp {c : CodeD} {m : Int} {hs : List Int} (hr : crun c c.steps 0 [] = some (hs, m)) : ∃ hs', crun (impC c) (impC c).steps 0 [] = some (hs', m) ∧ ∀ u ∈ hs', u ∈ hs := by
  have h := (impI_ind (fun ys => ∃ hs', crun c ys 0 [] = some (hs', m) ∧ ∀ u ∈ hs', u ∈ hs) (fun a b h1 ⟨hs1, h2, h3⟩ => by
    obtain ⟨hs2, h4, h5⟩ := crun_once h1 h2
    exact ⟨hs2, h4, fun u hu => h3 u (h5 u hu)⟩) _ c.steps (Nat.le_refl _) ⟨hs, hr, fun _ h => h⟩).1
  obtain ⟨hs', h1, h2⟩ := h
  exact ⟨hs', by rw [impC, crun_of]; exact h1, h2⟩
theorem code_run {c : CodeD} (h : isCodeB c = true) : crun c c.steps 0 [] = some (stackOf c, 0) := by
  rw [isCodeB, Bool.and_eq_true] at h
  have h2 := h.2
  cases hr : crun c c.steps 0 [] with
  | none => rw [(C_none hr).2] at h2; cases h2
  | some R =>
    obtain ⟨acc, n⟩ := R
    obtain ⟨e1, e2⟩ := C_some hr
    rw [e2, beq_iff_eq] at h2
    rw [e1, h2]
theorem imp_code {c : CodeD} (h : isCodeB c = true) : isCodeB (impC c) = true ∧ ∀ u ∈ stackOf (impC c), u ∈ stackOf c := by
  obtain ⟨hs', h1, h2⟩ := crun_imp (code_run h)
  obtain ⟨e1, e2⟩ := C_some h1
  refine ⟨?_, by rw [e1]; exact h2⟩
  have hl := impI_len c.steps
  rw [isCodeB, Bool.and_eq_true, Bool.and_eq_true] at h ⊢
  obtain ⟨⟨h3, h4⟩, _⟩ := h
  refine ⟨⟨?_, h4⟩, by rw [e2]; rfl⟩
  rw [smallB] at h3 ⊢
  simp only [Bool.and_eq_true, decide_eq_true_eq] at h3 ⊢
  exact ⟨h3.1, Nat.le_trans hl h3.2⟩
theorem crun_args {c : CodeD} : ∀ (xs : List EInstruction) (n : Int) (R : List Int × Int), crun c xs n [] = some R → okArgs xs
  | [], _, _, _ => fun u hu => by cases hu
  | x :: xs, n, R, h => by
    obtain ⟨f1, _, _, hs1, h1, _⟩ := crun_cons h
    intro u hu hop
    rcases List.mem_cons.1 hu with rfl | hu
    · exact fits_push' f1 hop
    · exact crun_args xs _ _ h1 u hu hop
theorem code_args {c : CodeD} (h : isCodeB c = true) : okArgs c.steps := crun_args _ _ _ (code_run h)
end Go.Proofs.YteielmihlfakgaaDoor
