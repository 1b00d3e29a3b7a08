/- The tokens of a program, and standard texts of tokens told by their texts: plain facts. -/
import Derived.Test.YteielmihlfakgaaGreatDoorExprP
import Derived.Test.YteielmihlfakgaaGreatDoorTokX
import Derived.Test.YteielmihlfakgaaGreatDoorStdI
import Derived.Test.YteielmihlfakgaaGreatDoorUF
namespace Go.Proofs.YteielmihlfakgaaGreatDoor
open Go Go.Proofs Go.RowKit
set_option linter.unusedVariables false
set_option linter.unusedSimpArgs false
set_option maxRecDepth 100000
theorem okT_get {st : List VT} (h : ∀ v ∈ st, okT v.toks) (i : Nat) : okT (st.getD i zV).toks := by
  rw [List.getD_eq_getElem?_getD]
  cases hi : st[i]? with
  | none => exact okT_nil
  | some v => exact h v (List.mem_of_getElem? hi)
theorem name_size {s : ByteArray} (h : isNameB s = true) : s.size ≤ 1000 := by
  rw [isNameB, isWordB] at h
  simp at h
  omega
theorem expV_ok {ts : List ETerm} {R : List Int × Int} (h : hrun ts 0 [] = some R) : ∀ k, k ≤ ts.length → ∀ v ∈ expV ts k, okT v.toks
  | 0, _, v, hv => by simp [expV] at hv
  | k + 1, hk, v, hv => by
    have ih := expV_ok h k (by omega)
    rw [expV_next (by omega), stV] at hv
    rcases List.mem_append.1 hv with hv | hv
    · exact ih v (List.mem_of_mem_take hv)
    · rw [List.mem_singleton] at hv
      subst hv
      have ha := (exp_at h (by omega : k < ts.length)).1
      refine applyV_ok ha ?_ (okT_get ih _) (okT_get ih _)
      by_cases h1 : ts[k].kind = 1
      · exact .inl (name_size ((term_bd ha).2.2.1 h1))
      · exact .inr h1
/-- The tokens of an expression. -/
def exprT (ts : List ETerm) : List ByteArray := ((expV ts ts.length).getD 0 zV).toks
theorem okH_run {ts : List ETerm} (h : okH ts = true) : ∃ R, hrun ts 0 [] = some R ∧ R.2 = 1 ∧ ts.length ≤ 40 := by
  rw [okH] at h
  split at h
  · next acc n he => simp at h; exact ⟨_, he, h.1, h.2⟩
  · cases h
theorem exprT_facts {ts : List ETerm} (h : okH ts = true) : (exprT ts).length ≤ 240 ∧ okT (exprT ts) ∧ (expV ts ts.length).length = 1 := by
  obtain ⟨R, h1, h2, h3⟩ := okH_run h
  have h4 := exp_end h1
  have h5 := exp_tot h1 ts.length (Nat.le_refl _)
  have h6 : (expV ts ts.length).length = 1 := by omega
  refine ⟨?_, okT_get (expV_ok h1 _ (Nat.le_refl _)) 0, h6⟩
  have h7 := tot_one (expV ts ts.length) 0 (by omega)
  rw [exprT]; omega
/-! Standard texts. -/
def toks0 (T : List ByteArray) : List EToken := T.map fun s => ⟨0, s⟩
def stdT (T : List ByteArray) : List UInt8 := stdK (toks0 T) T.length
theorem tx_txts {xs : List EToken} {T : List ByteArray} (h : txts xs = T) (j : Nat) : tx xs j = (T[j]?).getD ⟨#[]⟩ := by
  subst h; simp [tx, txts]
theorem txts_toks0 (T : List ByteArray) : txts (toks0 T) = T := by rw [txts, toks0, List.map_map]; exact List.map_id _
theorem stdK_txts {xs : List EToken} {T : List ByteArray} (h : txts xs = T) (k : Nat) : stdK xs k = stdK (toks0 T) k := by
  have e : ∀ j, tx xs j = tx (toks0 T) j := fun j => by rw [tx_txts h, tx_txts (txts_toks0 T)]
  unfold stdK sepL
  simp only [e]
theorem stdK_len1 {ts : List EToken} (hf : ∀ x ∈ ts, x.text.size ≤ 1000) : ∀ k, k ≤ ts.length → (stdK ts k).length ≤ 1002 * k := by
  intro k
  induction k with
  | zero => intro _; simp [stdK]
  | succ k ih =>
    intro hk
    have h1 := ih (by omega)
    have h2 : ts[k].text.size ≤ 1000 := hf ts[k] (List.getElem_mem _)
    have h3 : (sepL ts k).length ≤ 1 := by unfold sepL; split <;> simp
    have h4 : (endL (tx ts k)).length ≤ 1 := by unfold endL; split <;> simp
    rw [stdK_next, List.length_append, List.length_append, List.length_append, dl_len, tx_at (by omega)]
    rw [tx_at (by omega)] at h4
    omega
theorem okT_txts {xs : List EToken} {T : List ByteArray} (h : txts xs = T) (hT : okT T) : ∀ x ∈ xs, x.text.size ≤ 1000 := by
  subst h
  exact fun x hx => hT _ (List.mem_map_of_mem hx)
theorem sTextX_any (v : Value) (T : List ByteArray) (w : World) (hv : RdX w v T) (hT : okT T) (hl : T.length ≤ 100000) :
    Calls Tryz.prog 54 #[v] w fun e w' => e = .returned (.string (strL (stdT T))) ∧ New w w' := by
  obtain ⟨xs, h1, h2⟩ := hv
  have hz := okT_txts h1 hT
  have hn := txts_len h1
  have h := sTextL_any v xs w h2 (fun x hx => by have := hz x hx; rw [fitToken]; omega) (by omega) (fun k hk => by have := stdK_len1 hz k hk; omega)
  rwa [stdK_txts h1, hn, ← stdT] at h
theorem iTextX_any (v : Value) (T : List ByteArray) (w : World) (hv : RdX w v T) (hT : okT T) (hl : T.length ≤ 100000) (hk : KW w) :
    Calls Tryz.prog 58 #[v] w fun e w' => e = .returned (.string (strL (stdT T))) ∧ New w w' := by
  obtain ⟨xs, h1, h2⟩ := hv
  have hz := okT_txts h1 hT
  have hn := txts_len h1
  have h := iTextL_any v xs w h2 (fun x hx => by have := hz x hx; rw [fitToken]; omega) (by omega) (fun k hk => by have := stdK_len1 hz k hk; omega) hk
  rwa [stdK_txts h1, hn, ← stdT] at h
/-! Programs. -/
def cSe : ByteArray := ⟨#[59]⟩
def cEq : ByteArray := ⟨#[61]⟩
def lineT (l : LineD) : List ByteArray := [l.target, cEq] ++ exprT l.terms ++ [cSe]
def varT (p : ProgD) : List ByteArray := if p.vars = [] then [] else [kwN 2] ++ p.vars ++ [cSe]
def guardT (p : ProgD) : List ByteArray := if p.guard.toList.isEmpty = true then [] else [kwN 4, p.guard, cSe]
def headT (p : ProgD) : List ByteArray := [kwN 0, p.name, cSe, kwN 1] ++ p.inputs ++ [cSe] ++ varT p ++ ([kwN 3] ++ p.outputs ++ [cSe]) ++ guardT p
def bodyT (p : ProgD) (k : Nat) : List ByteArray := headT p ++ (p.lines.take k).flatMap lineT
def progT (p : ProgD) : List ByteArray := bodyT p p.lines.length ++ [kwN 5, cSe]
theorem bodyT_next {p : ProgD} {k : Nat} (h : k < p.lines.length) : bodyT p (k + 1) = bodyT p k ++ lineT p.lines[k] := by
  rw [bodyT, List.take_succ_eq_append_getElem h, List.flatMap_append, bodyT]; simp
theorem wB_parts {p : ProgD} (h : wB p = true) : isNameB p.name = true ∧ p.inputs.all isNameB = true ∧ p.vars.all isNameB = true ∧ p.outputs.all isNameB = true ∧ (p.guard.toList.isEmpty = true ∨ isNameB p.guard = true) ∧ p.inputs.length ≤ 20 ∧ p.vars.length ≤ 20 ∧ p.outputs.length ≤ 20 ∧ p.lines.length ≤ 40 ∧ ∀ l ∈ p.lines, isNameB l.target = true ∧ okH l.terms = true := by
  rw [wB, headB] at h
  simp only [Bool.and_eq_true, namesB, guardB, inB, decide_eq_true_eq, Bool.or_eq_true, List.all_eq_true] at h
  obtain ⟨⟨⟨⟨⟨h1, h2, h2'⟩, h3, h3'⟩, h4, h4'⟩, h5⟩, h6, h7⟩ := h
  refine ⟨h1, by rw [List.all_eq_true]; exact h2, by rw [List.all_eq_true]; exact h3, by rw [List.all_eq_true]; exact h4, h5, by omega, by omega, by omega, by omega, fun l hl => ?_⟩
  have := h6 l hl
  rw [lineB] at this
  simpa using this
theorem okT_names {l : List ByteArray} (h : l.all isNameB = true) : okT l := fun x hx => name_size (List.all_eq_true.1 h x hx)
theorem okT_flat {α : Type} {f : α → List ByteArray} {l : List α} (h : ∀ x ∈ l, okT (f x)) : okT (l.flatMap f) := fun y hy => by
  obtain ⟨x, hx, hy⟩ := List.mem_flatMap.1 hy; exact h x hx y hy
theorem flat_len_bd {α : Type} {f : α → List ByteArray} {B : Nat} : ∀ {l : List α}, (∀ x ∈ l, (f x).length ≤ B) → (l.flatMap f).length ≤ l.length * B
  | [], _ => by simp
  | x :: xs, h => by
    have h1 := flat_len_bd (l := xs) (fun y hy => h y (List.mem_cons_of_mem _ hy))
    have h2 := h x List.mem_cons_self
    rw [List.flatMap_cons, List.length_append, List.length_cons, Nat.add_mul]; omega
theorem lineT_facts {l : LineD} (h1 : isNameB l.target = true) (h2 : okH l.terms = true) : okT (lineT l) ∧ (lineT l).length ≤ 243 := by
  obtain ⟨e1, e2, _⟩ := exprT_facts h2
  refine ⟨okT_app (okT_app (okT_cons (name_size h1) (okT_cons (by decide) okT_nil)) e2) (okT_cons (by decide) okT_nil), ?_⟩
  simp only [lineT, List.length_append, List.length_cons, List.length_nil]; omega
theorem headT_facts {p : ProgD} (h : wB p = true) : okT (headT p) ∧ (headT p).length ≤ 100 := by
  obtain ⟨h1, h2, h3, h4, h5, n1, n2, n3, n4, h6⟩ := wB_parts h
  have hv : okT (varT p) ∧ (varT p).length ≤ 22 := by
    rw [varT]
    split
    · exact ⟨okT_nil, by simp⟩
    · exact ⟨okT_app (okT_app (okT_cons (kwN_size _) okT_nil) (okT_names h3)) (okT_cons (by decide) okT_nil), by simp only [List.length_append, List.length_cons, List.length_nil]; omega⟩
  have hg : okT (guardT p) ∧ (guardT p).length ≤ 3 := by
    rw [guardT]
    split
    · exact ⟨okT_nil, by simp⟩
    · rename_i hne
      rcases h5 with h5 | h5
      · exact absurd h5 hne
      · exact ⟨okT_cons (kwN_size _) (okT_cons (name_size h5) (okT_cons (by decide) okT_nil)), by simp⟩
  refine ⟨okT_app (okT_app (okT_app (okT_app (okT_app (okT_cons (kwN_size _) (okT_cons (name_size h1) (okT_cons (by decide) (okT_cons (kwN_size _) okT_nil)))) (okT_names h2)) (okT_cons (by decide) okT_nil)) hv.1) (okT_app (okT_app (okT_cons (kwN_size _) okT_nil) (okT_names h4)) (okT_cons (by decide) okT_nil))) hg.1, ?_⟩
  simp only [headT, List.length_append, List.length_cons, List.length_nil]; omega
theorem bodyT_facts {p : ProgD} (h : wB p = true) (k : Nat) : okT (bodyT p k) ∧ (bodyT p k).length ≤ 10000 := by
  obtain ⟨a1, a2⟩ := headT_facts h
  obtain ⟨_, _, _, _, _, _, _, _, n4, h6⟩ := wB_parts h
  have hm : ∀ l ∈ p.lines.take k, okT (lineT l) ∧ (lineT l).length ≤ 243 := fun l hl => by
    obtain ⟨e1, e2⟩ := h6 l (List.mem_of_mem_take hl); exact lineT_facts e1 e2
  refine ⟨okT_app a1 (okT_flat fun l hl => (hm l hl).1), ?_⟩
  have h7 := flat_len_bd (B := 243) (f := lineT) fun l hl => (hm l hl).2
  have h8 : (p.lines.take k).length ≤ 40 := by rw [List.length_take]; omega
  rw [bodyT, List.length_append]; omega
theorem progT_facts {p : ProgD} (h : wB p = true) : okT (progT p) ∧ (progT p).length ≤ 10002 := by
  obtain ⟨a1, a2⟩ := bodyT_facts h p.lines.length
  refine ⟨okT_app a1 (okT_cons (kwN_size _) (okT_cons (by decide) okT_nil)), ?_⟩
  simp only [progT, List.length_append, List.length_cons, List.length_nil]; omega
end Go.Proofs.YteielmihlfakgaaGreatDoor
