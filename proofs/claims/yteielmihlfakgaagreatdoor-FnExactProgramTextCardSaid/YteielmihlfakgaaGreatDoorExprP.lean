/- The tokens of an expression list: plain facts. -/
import Derived.Test.YteielmihlfakgaaGreatDoorVB
import Derived.Test.YteielmihlfakgaaGreatDoorTokS
import Derived.Test.YteielmihlfakgaaGreatDoorStdW
import Derived.Test.YteielmihlfakgaaGreatDoorVD
namespace Go.Proofs.YteielmihlfakgaaGreatDoor
open Go Go.Proofs Go.RowKit
set_option linter.unusedVariables false
set_option linter.unusedSimpArgs false
/-- A value on the way to an expression's text. -/
structure VT where
  toks : List ByteArray
  kind : Int
def cOp : ByteArray := ⟨#[40]⟩
def cCl : ByteArray := ⟨#[41]⟩
def cCo : ByteArray := ⟨#[44]⟩
def kwN (i : Nat) : ByteArray := keys.getD i ⟨#[]⟩
def clV (b : Bool) (ts : List ByteArray) : List ByteArray := if b = true then cOp :: (ts ++ [cCl]) else ts
def zV : VT := ⟨[], 0⟩
def looseN (a : VT) : Bool := decide (a.kind = 5) || decide (a.kind = 6)
def looseA (a : VT) : Bool := decide (a.kind = 6)
def numT (t : ETerm) : List ByteArray := if counts t.kind = true then [cCo, strL (Lib.decDigits t.num.toNat)] else []
def sndT (t : ETerm) (b : VT) : List ByteArray := if takes t.kind = 2 then cCo :: b.toks else []
def blkV (t : ETerm) (a b : VT) : List ByteArray := [kwOf t.kind, cOp] ++ a.toks ++ sndT t b ++ numT t ++ [cCl]
def applyV (t : ETerm) (a b : VT) : List ByteArray :=
  if t.kind = 1 then [t.name] else if t.kind = 2 then [kwN 9] else if t.kind = 3 then [kwN 10] else
  if t.kind = 4 then kwN 8 :: clV (looseN a) a.toks else
  if t.kind = 5 then clV (looseA a) a.toks ++ (kwN 6 :: clV (looseN b) b.toks) else
  if t.kind = 6 then a.toks ++ (kwN 7 :: clV (looseA b) b.toks) else blkV t a b
def frV (st : List VT) (t : ETerm) : Nat := st.length - (takes t.kind).toNat
def valV (st : List VT) (t : ETerm) : VT := ⟨applyV t (st.getD (frV st t) zV) (st.getD (frV st t + 1) zV), t.kind⟩
def stV (st : List VT) (t : ETerm) : List VT := st.take (frV st t) ++ [valV st t]
def expV (ts : List ETerm) (k : Nat) : List VT := (ts.take k).foldl stV []
theorem expV_next {ts : List ETerm} {k : Nat} (h : k < ts.length) : expV ts (k + 1) = stV (expV ts k) ts[k] := by
  rw [expV, List.take_succ_eq_append_getElem h, List.foldl_append]; rfl
theorem stV_len (st : List VT) (t : ETerm) (h : takes t.kind ≤ st.length) : ((stV st t).length : Int) = st.length - takes t.kind + 1 := by
  have := takes_bd t.kind
  rw [stV, List.length_append, List.length_take, List.length_singleton, frV]; omega
/-- The heights are those of the stack. -/
theorem exp_run {ts : List ETerm} {R : List Int × Int} (h : hrun ts 0 [] = some R) : ∀ k, k ≤ ts.length → ∃ acc, hrun (ts.drop k) (((expV ts k).length : Nat) : Int) acc = some R
  | 0, _ => ⟨[], by rw [List.drop_zero]; simpa [expV] using h⟩
  | k + 1, hk => by
    obtain ⟨acc, ih⟩ := exp_run h k (by omega)
    have hlt : k < ts.length := by omega
    by_cases h1 : termE ts[k] = true
    · by_cases h2 : takes ts[k].kind ≤ ((expV ts k).length : Int)
      · rw [hrun_step hlt h1 h2] at ih
        have e2 := stV_len (expV ts k) ts[k] h2
        rw [← expV_next hlt] at e2
        rw [← e2] at ih
        exact ⟨_, ih⟩
      · rw [hrun_stop hlt (.inr (by omega))] at ih; cases ih
    · rw [hrun_stop hlt (.inl (by simpa using h1))] at ih; cases ih
theorem exp_at {ts : List ETerm} {R : List Int × Int} (h : hrun ts 0 [] = some R) {k : Nat} (hk : k < ts.length) : termE ts[k] = true ∧ takes ts[k].kind ≤ ((expV ts k).length : Int) := by
  obtain ⟨acc, ih⟩ := exp_run h k (by omega)
  by_cases h1 : termE ts[k] = true
  · by_cases h2 : takes ts[k].kind ≤ ((expV ts k).length : Int)
    · exact ⟨h1, h2⟩
    · rw [hrun_stop hk (.inr (by omega))] at ih; cases ih
  · rw [hrun_stop hk (.inl (by simpa using h1))] at ih; cases ih
theorem exp_end {ts : List ETerm} {R : List Int × Int} (h : hrun ts 0 [] = some R) : ((expV ts ts.length).length : Int) = R.2 := by
  obtain ⟨acc, ih⟩ := exp_run h ts.length (Nat.le_refl _)
  rw [hrun_end] at ih
  injection ih with ih
  rw [← ih]
def totV (st : List VT) : Nat := (st.map (·.toks.length)).sum
theorem totV_cons (v : VT) (st : List VT) : totV (v :: st) = v.toks.length + totV st := by simp [totV]
theorem totV_app (a b : List VT) : totV (a ++ b) = totV a + totV b := by simp [totV]
theorem clV_len (b : Bool) (ts : List ByteArray) : (clV b ts).length ≤ ts.length + 2 := by rw [clV]; split <;> simp
theorem applyV_len (t : ETerm) (a b : VT) : (applyV t a b).length ≤ (if takes t.kind = 0 then 0 else a.toks.length) + (if takes t.kind = 2 then b.toks.length else 0) + 6 := by
  have l1 := clV_len (looseN a) a.toks
  have l2 := clV_len (looseA a) a.toks
  have l3 := clV_len (looseN b) b.toks
  have l4 := clV_len (looseA b) b.toks
  unfold applyV
  by_cases h1 : t.kind = 1
  · rw [if_pos h1]; simp
  by_cases h2 : t.kind = 2
  · rw [if_neg h1, if_pos h2]; simp
  by_cases h3 : t.kind = 3
  · rw [if_neg h1, if_neg h2, if_pos h3]; simp
  rw [if_neg h1, if_neg h2, if_neg h3]
  have h0 : ¬ takes t.kind = 0 := by unfold takes; rw [if_neg (by omega)]; split <;> omega
  rw [if_neg h0]
  by_cases h4 : t.kind = 4
  · rw [if_pos h4, List.length_cons]; omega
  rw [if_neg h4]
  by_cases h5 : t.kind = 5
  · have e : takes t.kind = 2 := by rw [h5]; decide
    rw [if_pos h5, if_pos e, List.length_append, List.length_cons]; omega
  rw [if_neg h5]
  by_cases h6 : t.kind = 6
  · have e : takes t.kind = 2 := by rw [h6]; decide
    rw [if_pos h6, if_pos e, List.length_append, List.length_cons]; omega
  rw [if_neg h6, blkV, sndT, numT]
  by_cases e : takes t.kind = 2
  · rw [if_pos e, if_pos e]; split <;> simp <;> omega
  · rw [if_neg e, if_neg e]; split <;> simp <;> omega
theorem tot_two (st : List VT) (m : Nat) (h : m + 1 < st.length) : totV (st.take m) + (st.getD m zV).toks.length + (st.getD (m + 1) zV).toks.length ≤ totV st := by
  have e : st = st.take m ++ (st[m] :: st[m + 1] :: st.drop (m + 2)) := by
    conv => lhs; rw [← List.take_append_drop m st, List.drop_eq_getElem_cons (by omega : m < st.length), List.drop_eq_getElem_cons h]
  have e1 : st.getD m zV = st[m] := by simp [List.getD, show m < st.length by omega]
  have e2 : st.getD (m + 1) zV = st[m + 1] := by simp [List.getD, h]
  have := congrArg totV e
  rw [totV_app, totV_cons, totV_cons] at this
  rw [e1, e2]; omega
theorem tot_one (st : List VT) (m : Nat) (h : m < st.length) : totV (st.take m) + (st.getD m zV).toks.length ≤ totV st := by
  have e : st = st.take m ++ (st[m] :: st.drop (m + 1)) := by
    conv => lhs; rw [← List.take_append_drop m st, List.drop_eq_getElem_cons h]
  have e1 : st.getD m zV = st[m] := by simp [List.getD, h]
  have := congrArg totV e
  rw [totV_app, totV_cons] at this
  rw [e1]; omega
theorem tot_none (st : List VT) (m : Nat) : totV (st.take m) ≤ totV st := by
  have := congrArg totV (List.take_append_drop m st)
  rw [totV_app] at this; omega
theorem stV_tot (st : List VT) (t : ETerm) (h : takes t.kind ≤ st.length) : totV (stV st t) ≤ totV st + 6 := by
  have hb := takes_bd t.kind
  have hl := applyV_len t (st.getD (frV st t) zV) (st.getD (frV st t + 1) zV)
  rw [stV, totV_app]
  have e : totV [valV st t] = (applyV t (st.getD (frV st t) zV) (st.getD (frV st t + 1) zV)).length := by simp [totV, valV]
  rw [e]
  rcases (by omega : takes t.kind = 0 ∨ takes t.kind = 1 ∨ takes t.kind = 2) with e | e | e
  · rw [if_pos e, if_neg (by omega)] at hl
    have := tot_none st (frV st t); omega
  · rw [if_neg (by omega), if_neg (by omega)] at hl
    have := tot_one st (frV st t) (by rw [frV, e]; omega); omega
  · rw [if_neg (by omega), if_pos e] at hl
    have := tot_two st (frV st t) (by rw [frV, e]; omega); omega
theorem exp_tot {ts : List ETerm} {R : List Int × Int} (h : hrun ts 0 [] = some R) : ∀ k, k ≤ ts.length → totV (expV ts k) ≤ 6 * k
  | 0, _ => by simp [expV, totV]
  | k + 1, hk => by
    have h1 := exp_tot h k (by omega)
    have h2 := stV_tot (expV ts k) ts[k] (exp_at h (by omega)).2
    rw [expV_next (by omega)]; omega
theorem tot_mem {st : List VT} {v : VT} (h : v ∈ st) : v.toks.length ≤ totV st := by
  obtain ⟨i, hi, rfl⟩ := List.mem_iff_getElem.1 h
  have := tot_one st i hi
  have e1 : st.getD i zV = st[i] := by simp [List.getD, hi]
  rw [e1] at this; omega
/-- The texts fit. -/
def okT (ts : List ByteArray) : Prop := ∀ x ∈ ts, x.size ≤ 1000
theorem okT_app {a b : List ByteArray} (h1 : okT a) (h2 : okT b) : okT (a ++ b) := fun x hx => by rcases List.mem_append.1 hx with h | h; exact h1 x h; exact h2 x h
theorem okT_cons {a : ByteArray} {b : List ByteArray} (h1 : a.size ≤ 1000) (h2 : okT b) : okT (a :: b) := fun x hx => by rcases List.mem_cons.1 hx with h | h; (rw [h]; exact h1); exact h2 x h
theorem okT_nil : okT [] := fun x hx => by cases hx
theorem okT_cl {b : Bool} {ts : List ByteArray} (h : okT ts) : okT (clV b ts) := by
  rw [clV]; split
  · exact okT_cons (by decide) (okT_app h (okT_cons (by decide) okT_nil))
  · exact h
theorem kwN_size (i : Nat) : (kwN i).size ≤ 1000 := by
  rw [kwN, List.getD_eq_getElem?_getD]
  cases h : keys[i]? with
  | none => decide
  | some s =>
    have hm := List.mem_of_getElem? h
    have : keys.all (fun s => decide (s.size ≤ 1000)) = true := by decide +kernel
    simpa using List.all_eq_true.1 this s hm
theorem term_bd {t : ETerm} (h : termE t = true) : 1 ≤ t.kind ∧ t.kind ≤ 12 ∧ (t.kind = 1 → isNameB t.name = true) ∧ 0 ≤ t.num ∧ t.num ≤ 9999 := by
  rw [termE, termB] at h
  simp only [Bool.and_eq_true] at h
  obtain ⟨⟨h1, h2⟩, h3⟩ := h
  have h1' := inB_iff.1 h1
  refine ⟨h1'.1, h1'.2, fun e => by rw [if_pos e] at h3; exact h3, ?_⟩
  split at h2
  · exact inB_iff.1 h2
  · simp at h2; omega
theorem applyV_ok {t : ETerm} {a b : VT} (h : termE t = true) (hn : t.name.size ≤ 1000 ∨ t.kind ≠ 1) (ha : okT a.toks) (hb : okT b.toks) : okT (applyV t a b) := by
  obtain ⟨k1, k2, k3, n0, n1⟩ := term_bd h
  unfold applyV
  split
  · rename_i h1
    exact okT_cons (by rcases hn with hn | hn; exact hn; exact absurd h1 hn) okT_nil
  split
  · exact okT_cons (kwN_size _) okT_nil
  split
  · exact okT_cons (kwN_size _) okT_nil
  split
  · exact okT_cons (kwN_size _) (okT_cl ha)
  split
  · exact okT_app (okT_cl ha) (okT_cons (kwN_size _) (okT_cl hb))
  split
  · exact okT_app ha (okT_cons (kwN_size _) (okT_cl hb))
  · rename_i h1 h2 h3 h4 h5 h6
    have hk := (kwOf_size (k := t.kind) (by omega) (by omega)).2
    have hd := dec_len 3 t.num.toNat (by omega)
    refine okT_app (okT_app (okT_app (okT_app (okT_cons (by omega) (okT_cons (by decide) okT_nil)) ha) ?_) ?_) (okT_cons (by decide) okT_nil)
    · rw [sndT]; split
      · exact okT_cons (by decide) hb
      · exact okT_nil
    · rw [numT]; split
      · exact okT_cons (by decide) (okT_cons (by rw [strL_size]; omega) okT_nil)
      · exact okT_nil
end Go.Proofs.YteielmihlfakgaaGreatDoor
