/- Plain law: the blocks that trains use. -/
import Derived.Test.YtinlichcbjpeaaaProg
import Derived.Test.YtinlichcbjpeaaaTrafS
import Derived.Test.YtinlichcbjpeaaaSort2
namespace Go.Proofs.Ytinlichcbjpeaaa
open Go Go.Proofs Go.RowKit
set_option linter.unusedVariables false
set_option linter.unusedSimpArgs false
theorem usedQ_nat : ∀ m : Fin 9, ∀ q : Fin 24, 2 ≤ m.val → q.val + 1 ≤ 3 * m.val → usedQ (m.val : Int) (q.val : Int) = if (q.val : Int) % 3 = 2 then sort2 ((q.val : Int) / 3) (((q.val : Int) / 3 + 1) % (m.val : Int)) else [(q.val : Int) / 3] := by decide +kernel
theorem usedQ_eq {n p : Int} (hn : 2 ≤ n ∧ n ≤ 8) (hp : 0 ≤ p ∧ p ≤ 3 * n - 1) : usedQ n p = if p % 3 = 2 then sort2 (p / 3) ((p / 3 + 1) % n) else [p / 3] := by
  have := usedQ_nat ⟨n.toNat, by omega⟩ ⟨p.toNat, by omega⟩ (by dsimp; omega) (by dsimp; omega)
  dsimp only at this
  rw [show ((n.toNat : Nat) : Int) = n by omega, show ((p.toNat : Nat) : Int) = p by omega] at this
  exact this
theorem usedQ_mem {n p u : Int} (h : u ∈ usedQ n p) : 0 ≤ u ∧ u.toNat < n.toNat := by
  rw [usedQ, usedTo, List.mem_map] at h
  obtain ⟨b, hb, rfl⟩ := h
  have := List.mem_range.1 (List.mem_filter.1 hb).1
  simp; omega
def incs (L : List Int) (us : List Int) : List Int := us.foldl (fun l u => l.set u.toNat (l.getD u.toNat 0 + 1)) L
theorem incs_next (L us : List Int) (j : Nat) (h : j < us.length) : incs L (us.take (j + 1)) = (incs L (us.take j)).set (us[j]).toNat ((incs L (us.take j)).getD (us[j]).toNat 0 + 1) := by
  rw [incs, List.take_succ_eq_append_getElem h, List.foldl_append]; rfl
theorem incs_len (us : List Int) : ∀ (L : List Int), (incs L us).length = L.length := by
  induction us with
  | nil => intro L; rfl
  | cons u us ih => intro L; show (incs (L.set u.toNat (L.getD u.toNat 0 + 1)) us).length = _; rw [ih, List.length_set]
theorem incs_bd (us : List Int) : ∀ (L : List Int) (B : Int), 0 ≤ B → (∀ x ∈ L, 0 ≤ x ∧ x ≤ B) → ∀ x ∈ incs L us, 0 ≤ x ∧ x ≤ B + us.length := by
  induction us with
  | nil => intro L B _ h x hx; have := h x hx; simp; omega
  | cons u us ih =>
    intro L B hB h x hx
    have hx' : x ∈ incs (L.set u.toNat (L.getD u.toNat 0 + 1)) us := hx
    have := ih _ (B + 1) (by omega) (fun y hy => by
      rcases List.mem_or_eq_of_mem_set hy with hy | rfl
      · have := h y hy; omega
      · by_cases hu : u.toNat < L.length
        · have := h _ (List.getElem_mem hu); simp [List.getD, hu]; omega
        · simp [List.getD, hu]; omega) x hx'
    simp only [List.length_cons]; omega
theorem incs_map (m : Nat) (us : List Nat) : ∀ (c : Nat → Int), (∀ u ∈ us, u < m) → incs ((List.range m).map c) (us.map Int.ofNat) = (List.range m).map fun b => c b + (us.count b : Int) := by
  induction us with
  | nil => intro c _; simp [incs]
  | cons u us ih =>
    intro c h
    have hu := h u (by simp)
    have e : incs ((List.range m).map c) ((u :: us).map Int.ofNat) = incs ((List.range m).map fun b => c b + if b = u then 1 else 0) (us.map Int.ofNat) := by
      show incs (((List.range m).map c).set u (((List.range m).map c).getD u 0 + 1)) (us.map Int.ofNat) = _
      congr 1
      apply List.ext_getElem
      · simp
      · intro i h1 h2
        have hm : i < m := by simpa using h1
        simp only [List.length_set, List.length_map, List.length_range] at h1
        by_cases hi : i = u
        · subst hi; simp [List.getD, List.getElem?_range hm]
        · rw [List.getElem_set_ne (fun e => hi e.symm)]; simp [hi]
    rw [e, ih _ (fun v hv => h v (by simp [hv]))]
    apply List.map_congr_left
    intro b _
    rw [List.count_cons]
    by_cases hb : b = u
    · subst hb; simp; omega
    · have : (u == b) = false := by simp; exact fun e => hb e.symm
      simp [hb, this]
theorem count_range1 : ∀ {m b : Nat}, b < m → (List.range m).count b = 1
  | m + 1, b, h => by
    rw [List.range_succ, List.count_append]
    by_cases hb : b = m
    · subst hb
      have : (List.range b).count b = 0 := by rw [List.count_eq_zero]; intro hm; have := List.mem_range.1 hm; omega
      rw [this]; simp
    · have hn : (m == b) = false := by simp; exact fun e => hb e.symm
      rw [count_range1 (show b < m by omega), List.count_cons, hn]; simp
theorem loads_step {n : Int} {ps : List Int} {k : Nat} (h : k < ps.length) : incs (loadsQ n (ps.take k)) (usedQ n ps[k]) = loadsQ n (ps.take (k + 1)) := by
  rw [loadsQ, loadsTo, usedQ, usedTo, incs_map _ _ _ (fun u hu => List.mem_range.1 (List.mem_filter.1 hu).1), loadsQ, loadsTo]
  apply List.map_congr_left
  intro b hb
  rw [countQ_next h]
  have hc : (List.range n.toNat).count b = 1 := count_range1 (List.mem_range.1 hb)
  by_cases hu : usesQ n ps[k] b = true
  · rw [List.count_filter (by exact hu), hc, if_pos hu]; simp
  · have : ((List.range n.toNat).filter fun (b : Nat) => usesQ n ps[k] b).count b = 0 := by
      rw [List.count_eq_zero]; intro hm; exact hu (List.mem_filter.1 hm).2
    rw [this, if_neg hu]; simp
theorem loads_zero (n : Int) : loadsQ n [] = List.replicate n.toNat 0 := by
  rw [loadsQ, loadsTo, List.eq_replicate_iff]
  refine ⟨by simp, fun x hx => ?_⟩
  obtain ⟨b, _, rfl⟩ := List.mem_map.1 hx
  simp [countQ]
theorem loads_bd (n : Int) (ps : List Int) : ∀ x ∈ loadsQ n ps, 0 ≤ x ∧ x ≤ ps.length := by
  intro x hx
  rw [loadsQ, loadsTo] at hx
  obtain ⟨b, _, rfl⟩ := List.mem_map.1 hx
  have := countQ_le n b ps
  omega
def maxOf : List Int → Int
  | [] => 0
  | x :: xs => xs.foldl max x
theorem maxOf_next (xs : List Int) (k : Nat) (h : k < xs.length) (h1 : 0 < k) : maxOf (xs.take (k + 1)) = max (maxOf (xs.take k)) xs[k] := by
  cases xs with
  | nil => simp at h
  | cons x xs =>
    obtain ⟨j, rfl⟩ : ∃ j, k = j + 1 := ⟨k - 1, by omega⟩
    have hj : j < xs.length := by simpa using h
    rw [List.take_succ_cons, List.take_succ_cons, maxOf, maxOf, List.take_succ_eq_append_getElem hj, List.foldl_append]
    rfl
theorem foldl_max_le (xs : List Int) : ∀ (x B : Int), xs.foldl max x ≤ B ↔ x ≤ B ∧ ∀ y ∈ xs, y ≤ B := by
  induction xs with
  | nil => intro x B; simp
  | cons y ys ih =>
    intro x B
    rw [List.foldl_cons, ih]
    simp only [List.mem_cons, forall_eq_or_imp]
    constructor
    · rintro ⟨h1, h2⟩; exact ⟨by omega, by omega, h2⟩
    · rintro ⟨h1, h2, h3⟩; exact ⟨by omega, h3⟩
theorem safe_max {n : Int} {ps : List Int} (h : 2 ≤ n) : decide (maxOf (loadsQ n ps) ≤ 1) = safeQ n ps := by
  rw [Bool.eq_iff_iff, decide_eq_true_eq, safeQ, safeTo, List.all_eq_true]
  have hne : loadsQ n ps ≠ [] := by rw [loadsQ]; intro e; have := congrArg List.length e; rw [loadsTo_len] at this; simp at this; omega
  have key : maxOf (loadsQ n ps) ≤ 1 ↔ ∀ x ∈ loadsQ n ps, x ≤ 1 := by
    cases hL : loadsQ n ps with
    | nil => exact absurd hL hne
    | cons x xs => rw [maxOf, foldl_max_le]; simp
  rw [key, loadsQ, loadsTo]
  constructor
  · intro h b hb
    have := h _ (List.mem_map_of_mem hb)
    simp; omega
  · intro h x hx
    obtain ⟨b, hb, rfl⟩ := List.mem_map.1 hx
    have := h b hb
    simp at this; omega
end Go.Proofs.Ytinlichcbjpeaaa
