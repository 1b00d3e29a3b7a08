/- The reading of a traffic's text: plain facts, no program in sight. -/
import Derived.Test.YtommolbkcjpjhaaDoorSplW
import Derived.Test.YtommolbkcjpjhaaDoorTrafW
import Derived.Test.YtommolbkcjpjhaaDoorDec
namespace Go.Proofs.YtommolbkcjpjhaaDoor
open Go Go.Proofs Go.RowKit
set_option linter.unusedVariables false
set_option linter.unusedSimpArgs false
/-- The text without its last byte, read by the reference. -/
def plcS (w : List UInt8) : Int × Bool :=
  if w.length < 2 then (0, false) else
  if w.getLastD 0 = 114 then (3 * (sval w.dropLast).1, (sval w.dropLast).2) else
  if w.getLastD 0 = 104 then (3 * (sval w.dropLast).1 + 1, (sval w.dropLast).2) else
  if w.getLastD 0 = 99 then (3 * (sval w.dropLast).1 + 2, (sval w.dropLast).2) else (0, false)
def stS : List (List UInt8) → Bool → List Int → Bool × List Int
  | [], ok, ps => (ok, ps)
  | _ :: _, false, ps => (false, ps)
  | w :: ws, true, ps => stS ws (plcS w).2 (ps ++ [(plcS w).1])
theorem stS_false (ws : List (List UInt8)) (ps : List Int) : stS ws false ps = (false, ps) := by cases ws <;> rfl
def rdSP (n : Int) (r : Bool × List Int) : Option (Int × List Int) := if (r.1 && isTraf n r.2) = true then some (n, r.2) else none
def rdSW (x : List UInt8) (ws : List (List UInt8)) : Option (Int × List Int) := rdSP (sval x).1 (stS ws (sval x).2 [])
def rdS (l : List UInt8) : Option (Int × List Int) := rdSW ((spl 32 l).headD []) (spl 32 l).tail
/-- The letter's place. -/
def phI (c : UInt8) : Int := if c = 114 then 0 else if c = 104 then 1 else if c = 99 then 2 else -1
def plcI (w : List UInt8) : Option Int :=
  if w = [] then none else if (rdN w.dropLast).2 && inB (rdN w.dropLast).1 0 8 then some (3 * (rdN w.dropLast).1 + phI (w.getLastD 0)) else none
def stI : List (List UInt8) → List Int → Option (List Int)
  | [], ps => some ps
  | w :: ws, ps => match plcI w with
    | none => none
    | some p => stI ws (ps ++ [p])
def rdIP (l : List UInt8) (n : Int) : Option (List Int) → Option (Int × List Int)
  | none => none
  | some ps => if (isTraf n ps && (ttext n ps == l)) = true then some (n, ps) else none
def rdIW (l x : List UInt8) (ws : List (List UInt8)) : Option (Int × List Int) := rdIP l (rdN x).1 (stI ws [])
def rdI (l : List UInt8) : Option (Int × List Int) := rdIW l ((spl 32 l).headD []) (spl 32 l).tail
theorem spl_join (c : UInt8) : ∀ l, (spl c l).headD [] ++ (spl c l).tail.flatMap (fun x => c :: x) = l
  | [] => by simp [spl]
  | b :: l => by
    have ih := spl_join c l
    rw [spl]
    split
    · rename_i h; subst h
      rw [List.headD_cons, List.tail_cons, List.nil_append]
      conv => lhs; rw [spl_cons b l]
      rw [List.flatMap_cons, List.cons_append, ih]
    · rw [List.headD_cons, List.tail_cons, List.cons_append, ih]
theorem spl_flat (c : UInt8) : ∀ (xs : List (List UInt8)) (x : List UInt8), c ∉ x → (∀ y ∈ xs, c ∉ y) → spl c (x ++ xs.flatMap (fun y => c :: y)) = x :: xs
  | [], x, h, _ => by rw [List.flatMap_nil, List.append_nil, spl_none h]
  | y :: xs, x, h, hy => by
    rw [List.flatMap_cons, List.cons_append, spl_some h, spl_flat c xs y (hy y (by simp)) (fun z hz => hy z (by simp [hz]))]
/-- A place's word. -/
def wplc (p : Int) : List UInt8 := Lib.decDigits (p.toNat / 3) ++ [phL (p.toNat % 3)]
theorem tpiece_w (p : Int) : tpiece p = 32 :: wplc p := rfl
theorem ttext_w (n : Int) (ps : List Int) : ttext n ps = Lib.decDigits n.toNat ++ (ps.map wplc).flatMap (fun y => 32 :: y) := by
  rw [ttext, List.flatMap_map]; rfl
theorem dig_no {c : UInt8} (hc : isDig c = false) (u : Nat) : c ∉ Lib.decDigits u := fun h => by
  have := List.all_eq_true.1 (dec_digits u) c h
  rw [hc] at this; cases this
theorem phL_no (q : Nat) : phL q ≠ 32 := by unfold phL; split; decide; split <;> decide
theorem wplc_no (p : Int) : (32 : UInt8) ∉ wplc p := by
  rw [wplc, List.mem_append]
  rintro (h | h)
  · exact dig_no (by decide) _ h
  · exact phL_no _ (List.mem_singleton.1 h).symm
theorem wplc_last (p : Int) : (wplc p).getLastD 0 = phL (p.toNat % 3) := by rw [wplc, List.getLastD_concat]
theorem wplc_init (p : Int) : (wplc p).dropLast = Lib.decDigits (p.toNat / 3) := by rw [wplc, List.dropLast_concat]
theorem wplc_len (p : Int) : 2 ≤ (wplc p).length := by
  rw [wplc, List.length_append, List.length_singleton]; have := dec_ne (p.toNat / 3); omega
theorem plcS_w {p : Int} (h0 : 0 ≤ p) (h1 : p ≤ 23) : plcS (wplc p) = (p, true) := by
  obtain ⟨m, rfl⟩ := Int.eq_ofNat_of_zero_le h0
  have h2 : m < 24 := by omega
  rw [plcS, if_neg (by have := wplc_len (m : Int); omega), wplc_last, wplc_init, sval_dec (by simp; omega), Int.toNat_natCast]
  rcases (by omega : m % 3 = 0 ∨ m % 3 = 1 ∨ m % 3 = 2) with e | e | e
  · rw [e, if_pos (by decide)]; simp; omega
  · rw [e, if_neg (by decide), if_pos (by decide)]; simp; omega
  · rw [e, if_neg (by decide), if_neg (by decide), if_pos (by decide)]; simp; omega
theorem plcI_w {p : Int} (h0 : 0 ≤ p) (h1 : p ≤ 23) : plcI (wplc p) = some p := by
  obtain ⟨m, rfl⟩ := Int.eq_ofNat_of_zero_le h0
  have h2 : m < 24 := by omega
  have hn : wplc (m : Int) ≠ [] := by intro e; have := wplc_len (m : Int); rw [e] at this; simp at this
  have hb : inB ((m / 3 : Nat) : Int) 0 8 = true := inB_iff.2 (by omega)
  rw [plcI, if_neg hn, wplc_last, wplc_init, Int.toNat_natCast, rdN_dec (by omega)]
  simp only [Bool.true_and]
  rw [if_pos hb]
  rcases (by omega : m % 3 = 0 ∨ m % 3 = 1 ∨ m % 3 = 2) with e | e | e
  · rw [e, show phI (phL 0) = 0 by decide]; congr 1; omega
  · rw [e, show phI (phL 1) = 1 by decide]; congr 1; omega
  · rw [e, show phI (phL 2) = 2 by decide]; congr 1; omega
theorem stS_w : ∀ (ps qs : List Int), (∀ p ∈ ps, 0 ≤ p ∧ p ≤ 23) → stS (ps.map wplc) true qs = (true, qs ++ ps)
  | [], qs, _ => by simp [stS]
  | p :: ps, qs, h => by
    have hp := h p (by simp)
    rw [List.map_cons, stS, plcS_w hp.1 hp.2, stS_w ps _ (fun q hq => h q (by simp [hq]))]; simp
theorem stI_w : ∀ (ps qs : List Int), (∀ p ∈ ps, 0 ≤ p ∧ p ≤ 23) → stI (ps.map wplc) qs = some (qs ++ ps)
  | [], qs, _ => by simp [stI]
  | p :: ps, qs, h => by
    have hp := h p (by simp)
    rw [List.map_cons, stI, plcI_w hp.1 hp.2]
    simp only
    rw [stI_w ps _ (fun q hq => h q (by simp [hq]))]; simp
theorem list_last {w : List UInt8} (h : w ≠ []) : w = w.dropLast ++ [w.getLastD 0] := by
  conv => lhs; rw [← List.dropLast_concat_getLast h]
  congr 2
  rw [List.getLastD_eq_getLast?, List.getLast?_eq_some_getLast h]; rfl
theorem plcS_ok {w : List UInt8} (h : (plcS w).2 = true) : 0 ≤ (plcS w).1 ∧ w = wplc (plcS w).1 := by
  unfold plcS at h ⊢
  by_cases h2 : w.length < 2
  · rw [if_pos h2] at h; cases h
  · rw [if_neg h2] at h ⊢
    have hw : w ≠ [] := by intro e; subst e; simp at h2
    have hl := list_last hw
    have key : ∀ (q : Nat), q < 3 → w.getLastD 0 = phL q → (sval w.dropLast).2 = true → 0 ≤ 3 * (sval w.dropLast).1 + (q : Int) ∧ w = wplc (3 * (sval w.dropLast).1 + (q : Int)) := by
      intro q hq hc hs
      obtain ⟨e1, e2, _, _⟩ := sval_ok hs
      obtain ⟨u, hu⟩ := Int.eq_ofNat_of_zero_le e2
      rw [hu] at e1 ⊢
      have e3 : (3 * (u : Int) + (q : Int)).toNat = 3 * u + q := by omega
      refine ⟨by omega, ?_⟩
      rw [wplc, e3, show (3 * u + q) / 3 = u by omega, show (3 * u + q) % 3 = q by omega, ← hc]
      rw [Int.toNat_natCast] at e1
      rw [← e1]; exact hl
    by_cases c1 : w.getLastD 0 = 114
    · rw [if_pos c1] at h ⊢; simpa using key 0 (by omega) c1 h
    · rw [if_neg c1] at h ⊢
      by_cases c2 : w.getLastD 0 = 104
      · rw [if_pos c2] at h ⊢; exact key 1 (by omega) c2 h
      · rw [if_neg c2] at h ⊢
        by_cases c3 : w.getLastD 0 = 99
        · rw [if_pos c3] at h ⊢; exact key 2 (by omega) c3 h
        · rw [if_neg c3] at h; cases h
theorem stS_ok : ∀ (ws : List (List UInt8)) (ok : Bool) (qs : List Int), (stS ws ok qs).1 = true → ok = true ∧ ∃ rs, (stS ws ok qs).2 = qs ++ rs ∧ ws = rs.map wplc
  | [], ok, qs, h => ⟨h, [], by simp [stS]⟩
  | w :: ws, false, qs, h => by simp [stS] at h
  | w :: ws, true, qs, h => by
    rw [stS] at h ⊢
    obtain ⟨h1, rs, h2, h3⟩ := stS_ok ws _ _ h
    refine ⟨rfl, (plcS w).1 :: rs, by rw [h2]; simp, ?_⟩
    rw [List.map_cons, ← h3, ← (plcS_ok h1).2]
theorem rdS_ok {l : List UInt8} {n : Int} {ps : List Int} (h : rdS l = some (n, ps)) : isTraf n ps = true ∧ l = ttext n ps := by
  unfold rdS rdSW rdSP at h
  split at h
  · rename_i hc
    rw [Bool.and_eq_true] at hc
    obtain ⟨hc1, hc2⟩ := hc
    injection h with h
    obtain ⟨h1, h2⟩ := Prod.mk.inj h
    obtain ⟨h3, rs, h4, h5⟩ := stS_ok _ _ _ hc1
    rw [h1, h2] at hc2
    refine ⟨hc2, ?_⟩
    rw [List.nil_append, h2] at h4
    subst h4
    obtain ⟨e, e2, _⟩ := sval_ok h3
    rw [h1] at e
    rw [ttext_w, ← e, ← h5]
    exact (spl_join 32 l).symm
  · cases h
theorem rdI_ok {l : List UInt8} {n : Int} {ps : List Int} (h : rdI l = some (n, ps)) : isTraf n ps = true ∧ l = ttext n ps := by
  unfold rdI rdIW at h
  generalize stI (spl 32 l).tail [] = R at h
  cases R with
  | none => cases h
  | some qs =>
    rw [rdIP] at h
    split at h
    · rename_i hc
      rw [Bool.and_eq_true] at hc
      injection h with h
      obtain ⟨h1, h2⟩ := Prod.mk.inj h
      rw [h1, h2] at hc
      exact ⟨hc.1, (beq_iff_eq.1 hc.2).symm⟩
    · cases h
theorem spl_text (n : Int) (ps : List Int) : spl 32 (ttext n ps) = Lib.decDigits n.toNat :: ps.map wplc := by
  rw [ttext_w]
  exact spl_flat 32 _ _ (dig_no (by decide) _) (fun y hy => by obtain ⟨p, _, rfl⟩ := List.mem_map.1 hy; exact wplc_no p)
theorem rd_text {n : Int} {ps : List Int} (h : isTraf n ps = true) : rdS (ttext n ps) = some (n, ps) ∧ rdI (ttext n ps) = some (n, ps) := by
  obtain ⟨⟨h1, h2⟩, _, h3⟩ := traf_places h
  have h4 : ∀ p ∈ ps, 0 ≤ p ∧ p ≤ 23 := fun p hp => by have := h3 p hp; omega
  obtain ⟨u, rfl⟩ := Int.eq_ofNat_of_zero_le (show 0 ≤ n by omega)
  constructor
  · rw [rdS, spl_text, List.headD_cons, List.tail_cons, rdSW, Int.toNat_natCast, sval_dec (by omega), stS_w ps [] h4, List.nil_append, rdSP, if_pos (by simp [h])]
  · rw [rdI, spl_text, List.headD_cons, List.tail_cons, rdIW, Int.toNat_natCast, rdN_dec (by omega), stI_w ps [] h4, List.nil_append, rdIP, if_pos (by simp [h])]
theorem rd_same (l : List UInt8) : rdS l = rdI l := by
  rcases hS : rdS l with _ | ⟨n, ps⟩
  · rcases hI : rdI l with _ | ⟨n, ps⟩
    · rfl
    · obtain ⟨h1, h2⟩ := rdI_ok hI
      rw [h2, (rd_text h1).1] at hS; cases hS
  · obtain ⟨h1, h2⟩ := rdS_ok hS
    rw [h2, (rd_text h1).2]
end Go.Proofs.YtommolbkcjpjhaaDoor
