/- The reading of a code's text: plain facts, no program in sight. -/
import Derived.Lib.IndexMore
import Derived.Lib.Join
import Derived.Test.YteielmihlfakgaaGreatDoorVD
import Derived.Test.YteielmihlfakgaaGreatDoorSpl
import Derived.Test.YteielmihlfakgaaGreatDoorDec
namespace Go.Proofs.YteielmihlfakgaaGreatDoor
open Go Go.Proofs Go.RowKit
set_option linter.unusedVariables false
set_option linter.unusedSimpArgs false
theorem spl_lines {c : UInt8} : ∀ (L : List (List UInt8)), (∀ y ∈ L, c ∉ y) → spl c (L.flatMap (fun y => y ++ [c])) = L ++ [[]]
  | [], _ => rfl
  | y :: L, h => by
    rw [List.flatMap_cons, List.append_assoc, List.singleton_append, spl_some (h y (by simp)), spl_lines L (fun z hz => h z (by simp [hz]))]; rfl
theorem lines_drop {c : UInt8} : ∀ (L : List (List UInt8)) (y : List UInt8), (∀ z ∈ y :: L, c ∉ z) → spl c (((y :: L).flatMap (fun z => z ++ [c])).dropLast) = y :: L
  | [], y, h => by
    rw [List.flatMap_cons, List.flatMap_nil, List.append_nil, List.dropLast_concat, spl_none (h y (by simp))]
  | z :: L, y, h => by
    have hne : (z :: L).flatMap (fun z => z ++ [c]) ≠ [] := by simp
    rw [List.flatMap_cons, List.append_assoc, List.dropLast_append_of_ne_nil (by simp), List.singleton_append, List.dropLast_cons_of_ne_nil hne, spl_some (h y (by simp)), lines_drop L z (fun u hu => h u (by simp [hu]))]
theorem lines_last {c : UInt8} : ∀ (L : List (List UInt8)) (y : List UInt8), ∃ m, (y :: L).flatMap (fun z => z ++ [c]) = m ++ [c]
  | [], y => ⟨y, by simp⟩
  | z :: L, y => by
    obtain ⟨m, hm⟩ := lines_last L z
    exact ⟨y ++ [c] ++ m, by rw [List.flatMap_cons, hm]; simp⟩
/-- Without the newline at its end. -/
def trim10 (l : List UInt8) : List UInt8 := Lib.trimSuffix l [10]
theorem splT_flat (c : UInt8) : ∀ (xs : List (List UInt8)) (x : List UInt8), c ∉ x → (∀ y ∈ xs, c ∉ y) → spl c (x ++ xs.flatMap (fun y => c :: y)) = x :: xs
  | [], x, h, _ => by rw [List.flatMap_nil, List.append_nil, spl_none h]
  | y :: xs, x, h, hy => by
    rw [List.flatMap_cons, List.cons_append, spl_some h, splT_flat c xs y (hy y (by simp)) (fun z hz => hy z (by simp [hz]))]
theorem digT_no {c : UInt8} (hc : isDig c = false) (u : Nat) : c ∉ Lib.decDigits u := fun h => by
  have := List.all_eq_true.1 (dec_digits u) c h
  rw [hc] at this; cases this
/-- A number that may be negative, read by the reference. -/
def sgn (l : List UInt8) : Int × Bool := if l.head? = some 45 then (-(sval l.tail).1, (sval l.tail).2 && decide (0 < (sval l.tail).1)) else sval l
theorem sgn_dec {u : Nat} (h : u < 1000000000000) : sgn (Lib.decDigits u) = ((u : Int), true) := by
  rw [sgn, if_neg, sval_dec h]
  intro he
  have hm : (45 : UInt8) ∈ Lib.decDigits u := by
    cases hd : Lib.decDigits u with
    | nil => rw [hd] at he; cases he
    | cons a r => rw [hd] at he; simp at he; simp [he]
  exact digT_no (by decide) u hm
def numsF (f : List UInt8 → Int × Bool) : List (List UInt8) → List Int → Option (List Int)
  | [], a => some a
  | w :: ws, a => if (f w).2 = true then numsF f ws (a ++ [(f w).1]) else none
theorem numsF_dec {f : List UInt8 → Int × Bool} : ∀ (xs : List Int) (a : List Int), (∀ x ∈ xs, f (Lib.decDigits x.toNat) = (x, true)) → numsF f (xs.map fun x => Lib.decDigits x.toNat) a = some (a ++ xs)
  | [], a, _ => by simp [numsF]
  | x :: xs, a, h => by
    rw [List.map_cons, numsF, h x (by simp), if_pos rfl, numsF_dec xs _ (fun y hy => h y (by simp [hy]))]; simp
theorem jn_spl (x : Int) (xs : List Int) : spl 44 (jn (x :: xs)) = (x :: xs).map fun x => Lib.decDigits x.toNat := by
  rw [jn, List.map_cons, Lib.join_cons, Lib.joinTail, ← List.flatMap_def]
  exact splT_flat 44 _ _ (digT_no (by decide) _) (fun y hy => by obtain ⟨z, _, rfl⟩ := List.mem_map.1 hy; exact digT_no (by decide) _)
/-- A line's words, read by the reference: the first one, and the second one's number. -/
def lnS (l : List UInt8) : Option (List UInt8 × Int) := if (spl 32 l).length = 2 ∧ (sval ((spl 32 l).getD 1 [])).2 = true then some ((spl 32 l).getD 0 [], (sval ((spl 32 l).getD 1 [])).1) else none
theorem lnS_two {a : List UInt8} {u : Nat} (ha : (32 : UInt8) ∉ a) (hu : u < 1000000000000) : lnS (a ++ 32 :: Lib.decDigits u) = some (a, (u : Int)) := by
  have e : spl 32 (a ++ 32 :: Lib.decDigits u) = [a, Lib.decDigits u] := by rw [spl_some ha, spl_none (digT_no (by decide) u)]
  rw [lnS, e]
  simp only [List.length_cons, List.length_nil, List.getD_cons_succ, List.getD_cons_zero, sval_dec hu]
  rw [if_pos (by simp)]
abbrev StR := Bool × List ETerm × List EInstruction
/-- The reference's step over a line behind the first one. -/
def stR (l : List UInt8) (s : StR) : Option StR :=
  if l = [45] ∧ s.1 = false then some (true, s.2.1, s.2.2) else
  match lnS l with
  | none => none
  | some (x, a) => if s.1 = true then (if (sval x).2 = true then some (s.1, s.2.1, s.2.2 ++ [⟨(sval x).1, a⟩]) else none) else some (s.1, s.2.1 ++ [⟨keyOf (strL x) - 4, ⟨#[]⟩, a⟩], s.2.2)
def rdLS : List (List UInt8) → StR → Option StR
  | [], s => some s
  | l :: ls, s => (stR l s).bind (rdLS ls)
/-- What a code's line holds. -/
def bl (t : ETerm) : List UInt8 := (kwOf t.kind).data.toList ++ 32 :: Lib.decDigits t.num.toNat
def sl (x : EInstruction) : List UInt8 := Lib.decDigits x.op.toNat ++ 32 :: Lib.decDigits x.arg.toNat
def linesC (c : CodeD) : List (List UInt8) := c.blocks.map bl ++ [45] :: c.steps.map sl
def ctext (c : CodeD) : List UInt8 := ctS c c.steps.length
theorem ctext_lines (c : CodeD) : ctext c = (jn [c.ins, c.vars, c.outs] :: linesC c).flatMap (fun y => y ++ [10]) := by
  rw [ctext, ctS, ctB, head3, List.take_of_length_le (Nat.le_refl _), List.take_of_length_le (Nat.le_refl _), List.flatMap_cons, linesC, List.flatMap_append, List.flatMap_cons, List.flatMap_map, List.flatMap_map]
  have e1 : (fun t : ETerm => bl t ++ [10]) = bline := by funext t; simp [bl, bline]
  have e2 : (fun t : EInstruction => sl t ++ [10]) = sline := by funext t; simp [sl, sline]
  rw [e1, e2]
  simp
/-- A word that names a block (StdW's own is laid only in seats of standard texts). -/
def isBlkW (s : ByteArray) : Bool := (keys.drop 11).any fun y => s.toList == y.toList
theorem kw_bytes {k : Int} (h : 7 ≤ k) (h' : k ≤ 12) : (10 : UInt8) ∉ (kwOf k).data.toList ∧ (32 : UInt8) ∉ (kwOf k).data.toList ∧ keyOf (kwOf k) = k + 4 ∧ isBlkW (kwOf k) = true := by
  obtain rfl | rfl | rfl | rfl | rfl | rfl : k = 7 ∨ k = 8 ∨ k = 9 ∨ k = 10 ∨ k = 11 ∨ k = 12 := by omega
  all_goals decide +kernel
theorem code_names {c : CodeD} (h : isCodeB c = true) : ∀ t ∈ c.blocks, t.name = ⟨#[]⟩ := by
  rw [isCodeB] at h
  simp only [Bool.and_eq_true] at h
  have hb : c.blocks.any (fun t => !isBlkE t) = false := by simpa using h.1.2
  intro t ht
  have := List.any_eq_false.1 hb t ht
  have hk : isBlk t.kind t.name t.num = true := by simpa [isBlkE] using this
  have h7 := (isBlk_bd hk).1
  rw [isBlk, termB, if_neg (by omega : ¬ t.kind = 1)] at hk
  simp only [Bool.and_eq_true] at hk
  have he := hk.1.2
  apply ByteArray.ext
  apply Array.toList_inj.1
  rw [ByteArray.toList_eq, List.isEmpty_iff] at he
  rw [he]
theorem lines_no10 {c : CodeD} (h : isCodeB c = true) : ∀ y ∈ jn [c.ins, c.vars, c.outs] :: linesC c, (10 : UInt8) ∉ y := by
  intro y hy
  rcases List.mem_cons.1 hy with rfl | hy
  · intro hm
    rw [jn, List.map_cons, Lib.join_cons, Lib.joinTail, ← List.flatMap_def, List.mem_append] at hm
    rcases hm with hm | hm
    · exact digT_no (by decide) _ hm
    · obtain ⟨z, hz, hm⟩ := List.mem_flatMap.1 hm
      obtain ⟨u, _, rfl⟩ := List.mem_map.1 hz
      rcases List.mem_cons.1 hm with hm | hm
      · exact absurd hm (by decide)
      · exact digT_no (by decide) _ hm
  · rw [linesC, List.mem_append, List.mem_cons] at hy
    rcases hy with hy | rfl | hy
    · obtain ⟨t, ht, rfl⟩ := List.mem_map.1 hy
      obtain ⟨e1, e2, _, _⟩ := code_blocks h t ht
      intro hm
      rw [bl, List.mem_append, List.mem_cons] at hm
      rcases hm with hm | hm | hm
      · exact (kw_bytes e1 e2).1 hm
      · exact absurd hm (by decide)
      · exact digT_no (by decide) _ hm
    · decide
    · obtain ⟨x, _, rfl⟩ := List.mem_map.1 hy
      intro hm
      rw [sl, List.mem_append, List.mem_cons] at hm
      rcases hm with hm | hm | hm
      · exact digT_no (by decide) _ hm
      · exact absurd hm (by decide)
      · exact digT_no (by decide) _ hm
theorem has32 (a b : List UInt8) : a ++ 32 :: b ≠ [45] := fun h => by
  have : (32 : UInt8) ∈ [45] := by rw [← h]; simp
  exact absurd this (by decide)
theorem rdLS_blocks : ∀ (ts B : List ETerm) (S : List EInstruction) (ls : List (List UInt8)), (∀ t ∈ ts, 7 ≤ t.kind ∧ t.kind ≤ 12 ∧ 0 ≤ t.num ∧ t.num ≤ 9999 ∧ t.name = ⟨#[]⟩) →
    rdLS (ts.map bl ++ ls) (false, B, S) = rdLS ls (false, B ++ ts, S)
  | [], B, S, ls, _ => by simp
  | t :: ts, B, S, ls, h => by
    obtain ⟨e1, e2, e3, e4, e5⟩ := h t (by simp)
    obtain ⟨k1, k2, k3, k4⟩ := kw_bytes e1 e2
    obtain ⟨kind, name, num⟩ := t
    dsimp only at e1 e2 e3 e4 e5 k1 k2 k3 k4
    obtain ⟨u, rfl⟩ := Int.eq_ofNat_of_zero_le e3
    have hs : stR (bl ⟨kind, name, (u : Int)⟩) (false, B, S) = some (false, B ++ [⟨kind, name, (u : Int)⟩], S) := by
      rw [stR, if_neg (fun hh => has32 _ _ hh.1), bl]
      dsimp only
      rw [Int.toNat_natCast, lnS_two k2 (by omega)]
      dsimp only
      rw [if_neg (by decide), strL_back, k3, e5]
      have : kind + 4 - 4 = kind := by omega
      rw [this]
    rw [List.map_cons, List.cons_append, rdLS, hs]
    show rdLS (ts.map bl ++ ls) _ = _
    rw [rdLS_blocks ts _ S ls (fun x hx => h x (by simp [hx]))]
    simp
theorem rdLS_steps : ∀ (xs : List EInstruction) (B : List ETerm) (S : List EInstruction), (∀ x ∈ xs, NumOk x.op ∧ NumOk x.arg) → rdLS (xs.map sl) (true, B, S) = some (true, B, S ++ xs)
  | [], B, S, _ => by simp [rdLS]
  | x :: xs, B, S, h => by
    obtain ⟨⟨e1, e2⟩, e3, e4⟩ := h x (by simp)
    obtain ⟨op, arg⟩ := x
    dsimp only at e1 e2 e3 e4
    obtain ⟨u, rfl⟩ := Int.eq_ofNat_of_zero_le e1
    obtain ⟨v, rfl⟩ := Int.eq_ofNat_of_zero_le e3
    have hs : stR (sl ⟨(u : Int), (v : Int)⟩) (true, B, S) = some (true, B, S ++ [⟨(u : Int), (v : Int)⟩]) := by
      rw [stR, if_neg (fun hh => has32 _ _ hh.1), sl]
      dsimp only
      rw [Int.toNat_natCast, Int.toNat_natCast, lnS_two (digT_no (by decide) u) (by omega)]
      dsimp only
      rw [if_pos rfl, sval_dec (by omega)]
      rfl
    rw [List.map_cons, rdLS, hs]
    show rdLS (xs.map sl) _ = _
    rw [rdLS_steps xs B _ (fun y hy => h y (by simp [hy]))]
    simp
theorem rdLS_text {c : CodeD} (h : isCodeB c = true) : rdLS (linesC c) (false, [], []) = some (true, c.blocks, c.steps) := by
  have hb := code_blocks h
  have hn := code_names h
  rw [linesC, rdLS_blocks c.blocks [] [] _ (fun t ht => by obtain ⟨a, b, d, e⟩ := hb t ht; exact ⟨a, b, d, e, hn t ht⟩), rdLS]
  have : stR [45] (false, [] ++ c.blocks, []) = some (true, c.blocks, []) := by rw [stR, if_pos ⟨rfl, rfl⟩]; simp
  rw [this]
  show rdLS (c.steps.map sl) _ = _
  rw [rdLS_steps c.steps c.blocks [] (code_steps h)]; simp
/-- What the text of a code is, by the reference: empty for no code. -/
def ctextR (c : CodeD) : List UInt8 := if isCodeB c = true then ctext c else []
def finS (l : List UInt8) (c : CodeD) (two : Bool) : Option CodeD := if two = true ∧ ctextR c = l then some c else none
def tailS (l : List UInt8) (hd : List Int) : Option StR → Option CodeD
  | none => none
  | some (two, B, S) => finS l ⟨hd.getD 0 0, hd.getD 1 0, hd.getD 2 0, B, S⟩ two
def headS (l : List UInt8) (L : List (List UInt8)) : Option (List Int) → Option CodeD
  | none => none
  | some hd => if hd.length = 3 ∧ 3 ≤ L.length then tailS l hd (rdLS (L.tail.dropLast) (false, [], [])) else none
def rdcS (l : List UInt8) : Option CodeD := headS l (spl 10 l) (numsF sgn (spl 44 ((spl 10 l).headD [])) [])
/-- The program's lines. -/
def blkI (l : List UInt8) : Option ETerm := if (rdN (Lib.cut l [32]).2.1).2 = true ∧ isBlkW (strL (Lib.cut l [32]).1) = true then some ⟨keyOf (strL (Lib.cut l [32]).1) - 4, ⟨#[]⟩, (rdN (Lib.cut l [32]).2.1).1⟩ else none
def insI (l : List UInt8) : Option EInstruction := if (rdN (Lib.cut l [32]).2.1).2 = true ∧ (rdN (Lib.cut l [32]).1).2 = true then some ⟨(rdN (Lib.cut l [32]).1).1, (rdN (Lib.cut l [32]).2.1).1⟩ else none
def allF {α : Type} (f : List UInt8 → Option α) : List (List UInt8) → List α → Option (List α)
  | [], a => some a
  | l :: ls, a => (f l).bind fun x => allF f ls (a ++ [x])
def midI (L : List (List UInt8)) : Int := idx (fun y => ([45] : List UInt8) == y) L
def finI (l : List UInt8) (c : CodeD) : Option CodeD := if isCodeB c = true ∧ ctext c = l then some c else none
def stepsI (l : List UInt8) (hd : List Int) (B : List ETerm) : Option (List EInstruction) → Option CodeD
  | none => none
  | some S => finI l ⟨hd.getD 0 0, hd.getD 1 0, hd.getD 2 0, B, S⟩
def blksI (l : List UInt8) (L : List (List UInt8)) (hd : List Int) : Option (List ETerm) → Option CodeD
  | none => none
  | some B => stepsI l hd B (allF insI (L.drop ((midI L).toNat + 1)) [])
def headI (l : List UInt8) (L : List (List UInt8)) : Option (List Int) → Option CodeD
  | none => none
  | some hd => if hd.length = 3 ∧ 0 ≤ midI L then blksI l L hd (allF blkI ((L.take (midI L).toNat).drop 1) []) else none
def rdcI (l : List UInt8) : Option CodeD := headI l (spl 10 (trim10 l)) (numsF rdN (spl 44 ((spl 10 (trim10 l)).headD [])) [])
theorem cut_two {a r : List UInt8} (h : (32 : UInt8) ∉ a) : (Lib.cut (a ++ 32 :: r) [32]).1 = a ∧ (Lib.cut (a ++ 32 :: r) [32]).2.1 = r := by
  have hi : Lib.index (a ++ 32 :: r) [32] = (a.length : Int) := by
    rcases idx_one 32 (a ++ 32 :: r) with ⟨_, hn⟩ | ⟨a', r', e, hn, hi⟩
    · exact absurd (by simp) hn
    · have : a = a' := by
        have h1 := spl_some (r := r) h
        have h2 := spl_some (r := r') hn
        rw [e] at h1
        rw [h1] at h2
        exact (List.cons.inj h2).1
      rw [hi, this]
  rw [Lib.cut, hi, if_pos (by omega), Int.toNat_natCast]
  refine ⟨by simp, ?_⟩
  show (a ++ 32 :: r).drop (a.length + [(32 : UInt8)].length) = r
  rw [List.drop_append]; simp
theorem blkI_bl {t : ETerm} (h : 7 ≤ t.kind ∧ t.kind ≤ 12 ∧ 0 ≤ t.num ∧ t.num ≤ 9999 ∧ t.name = ⟨#[]⟩) : blkI (bl t) = some t := by
  obtain ⟨e1, e2, e3, e4, e5⟩ := h
  obtain ⟨k1, k2, k3, k4⟩ := kw_bytes e1 e2
  obtain ⟨kind, name, num⟩ := t
  dsimp only at e1 e2 e3 e4 e5 k1 k2 k3 k4
  obtain ⟨u, rfl⟩ := Int.eq_ofNat_of_zero_le e3
  obtain ⟨c1, c2⟩ := cut_two (r := Lib.decDigits u) k2
  rw [blkI, bl]
  dsimp only
  rw [Int.toNat_natCast, c1, c2, rdN_dec (by omega), strL_back, k3, k4, if_pos ⟨rfl, rfl⟩, e5]
  have : kind + 4 - 4 = kind := by omega
  rw [this]
theorem insI_sl {x : EInstruction} (h : NumOk x.op ∧ NumOk x.arg) : insI (sl x) = some x := by
  obtain ⟨⟨e1, e2⟩, e3, e4⟩ := h
  obtain ⟨op, arg⟩ := x
  dsimp only at e1 e2 e3 e4
  obtain ⟨u, rfl⟩ := Int.eq_ofNat_of_zero_le e1
  obtain ⟨v, rfl⟩ := Int.eq_ofNat_of_zero_le e3
  obtain ⟨c1, c2⟩ := cut_two (r := Lib.decDigits v) (digT_no (by decide : isDig 32 = false) u)
  rw [insI, sl]
  dsimp only
  rw [Int.toNat_natCast, Int.toNat_natCast, c1, c2, rdN_dec (by omega), rdN_dec (by omega), if_pos ⟨rfl, rfl⟩]
theorem allF_map {α : Type} {f : List UInt8 → Option α} {g : α → List UInt8} : ∀ (xs a : List α), (∀ x ∈ xs, f (g x) = some x) → allF f (xs.map g) a = some (a ++ xs)
  | [], a, _ => by simp [allF]
  | x :: xs, a, h => by
    rw [List.map_cons, allF, h x (by simp)]
    show allF f (xs.map g) (a ++ [x]) = _
    rw [allF_map xs _ (fun y hy => h y (by simp [hy]))]; simp
theorem idx_first {α : Type} {p : α → Bool} : ∀ (xs ys : List α) (y : α), (∀ x ∈ xs, p x = false) → p y = true → idx p (xs ++ y :: ys) = (xs.length : Int) := by
  intro xs ys y h1 h2
  have : (xs ++ y :: ys).findIdx? p = some xs.length := by
    induction xs with
    | nil => simp [List.findIdx?_cons, h2]
    | cons x xs ih =>
      rw [List.cons_append, List.findIdx?_cons, h1 x (by simp), ih (fun z hz => h1 z (by simp [hz]))]; rfl
  exact idx_some this
theorem mid_text {c : CodeD} (h : isCodeB c = true) : midI (jn [c.ins, c.vars, c.outs] :: linesC c) = ((c.blocks.length + 1 : Nat) : Int) := by
  rw [midI, linesC, ← List.cons_append, idx_first]
  · simp
  · intro x hx
    rcases List.mem_cons.1 hx with rfl | hx
    · rw [beq_eq_false_iff_ne]
      intro e
      have hj := jn_spl c.ins [c.vars, c.outs]
      rw [← e] at hj
      have h2 := congrArg List.length hj
      simp at h2
      exact absurd h2 (by decide)
    · obtain ⟨t, _, rfl⟩ := List.mem_map.1 hx
      rw [beq_eq_false_iff_ne]
      exact fun e => has32 _ _ e.symm
  · rfl
theorem trim_lines (y : List UInt8) (L : List (List UInt8)) : trim10 ((y :: L).flatMap (fun z => z ++ [10])) = ((y :: L).flatMap (fun z => z ++ [10])).dropLast := by
  obtain ⟨m, hm⟩ := lines_last (c := 10) L y
  have hs : Lib.hasSuffix (m ++ [10]) [10] = true := by rw [Lib.hasSuffix, List.isSuffixOf_iff_suffix]; exact List.suffix_append _ _
  rw [hm, trim10, List.dropLast_concat, Lib.trimSuffix]
  simp [hs]
theorem rdc_text {c : CodeD} (h : isCodeB c = true) : rdcS (ctext c) = some c ∧ rdcI (ctext c) = some c := by
  have hh := code_head h
  have hs : smallB c = true := by rw [isCodeB] at h; simp only [Bool.and_eq_true] at h; exact h.1.1
  have hsm := small_of hs
  have h10 := lines_no10 h
  have hx : ∀ x ∈ [c.ins, c.vars, c.outs], 0 ≤ x ∧ x ≤ 20 := by
    intro x hx
    simp at hx
    rcases hx with rfl | rfl | rfl
    · exact ⟨hsm.i0, hsm.i1⟩
    · exact ⟨hsm.v0, hsm.v1⟩
    · exact ⟨hsm.o0, hsm.o1⟩
  have hb := code_blocks h
  have hn := code_names h
  constructor
  · have e : spl 10 (ctext c) = jn [c.ins, c.vars, c.outs] :: (linesC c ++ [[]]) := by rw [ctext_lines, spl_lines _ h10]; rfl
    rw [rdcS, e, List.headD_cons, jn_spl, numsF_dec _ _ (fun x hm => by
      obtain ⟨h0, h1⟩ := hx x hm
      obtain ⟨u, rfl⟩ := Int.eq_ofNat_of_zero_le h0
      rw [Int.toNat_natCast]; exact sgn_dec (by omega)), headS, if_pos ⟨rfl, by rw [linesC]; simp; omega⟩, List.tail_cons, List.dropLast_concat, rdLS_text h, tailS, finS]
    show (if true = true ∧ ctextR c = ctext c then some c else none) = some c
    rw [if_pos ⟨rfl, by rw [ctextR, if_pos h]⟩]
  · have e : spl 10 (trim10 (ctext c)) = jn [c.ins, c.vars, c.outs] :: linesC c := by rw [ctext_lines, trim_lines, lines_drop _ _ h10]
    have hm := mid_text h
    rw [rdcI, e, List.headD_cons, jn_spl, numsF_dec _ _ (fun x hm => by
      obtain ⟨h0, h1⟩ := hx x hm
      obtain ⟨u, rfl⟩ := Int.eq_ofNat_of_zero_le h0
      rw [Int.toNat_natCast]; exact rdN_dec (by omega)), headI, hm, if_pos ⟨rfl, by omega⟩, Int.toNat_natCast]
    have e1 : ((jn [c.ins, c.vars, c.outs] :: linesC c).take (c.blocks.length + 1)).drop 1 = c.blocks.map bl := by
      rw [List.take_succ_cons, List.drop_succ_cons, List.drop_zero, linesC, List.take_append_of_le_length (by simp)]
      rw [List.take_of_length_le (by simp)]
    rw [e1, allF_map _ _ (fun t ht => blkI_bl (by obtain ⟨a, b, d, e⟩ := hb t ht; exact ⟨a, b, d, e, hn t ht⟩)), blksI, hm, Int.toNat_natCast]
    have e2 : (jn [c.ins, c.vars, c.outs] :: linesC c).drop (c.blocks.length + 1 + 1) = c.steps.map sl := by
      rw [List.drop_succ_cons, linesC, List.drop_append]
      simp
    rw [e2, allF_map _ _ (fun x hx => insI_sl (code_steps h x hx)), stepsI, finI]
    show (if isCodeB c = true ∧ ctext c = ctext c then some c else none) = some c
    rw [if_pos ⟨h, rfl⟩]
theorem rdcS_ok {l : List UInt8} {c : CodeD} (h : rdcS l = some c) : isCodeB c = true ∧ l = ctext c := by
  unfold rdcS at h
  generalize hN : numsF sgn (spl 44 ((spl 10 l).headD [])) [] = N at h
  cases N with
  | none => cases h
  | some hd =>
    rw [headS] at h
    split at h
    · rename_i hc
      generalize rdLS (spl 10 l).tail.dropLast (false, [], []) = R at h
      cases R with
      | none => cases h
      | some r =>
        obtain ⟨two, B, S⟩ := r
        rw [tailS, finS] at h
        split at h
        · rename_i h2
          injection h with h
          rw [h] at h2
          obtain ⟨_, h3⟩ := h2
          rw [ctextR] at h3
          split at h3
          · rename_i h4; exact ⟨h4, h3.symm⟩
          · subst h3
            exact absurd hc.2 (by decide)
        · cases h
    · cases h
theorem rdcI_ok {l : List UInt8} {c : CodeD} (h : rdcI l = some c) : isCodeB c = true ∧ l = ctext c := by
  unfold rdcI at h
  generalize numsF rdN (spl 44 ((spl 10 (trim10 l)).headD [])) [] = N at h
  cases N with
  | none => cases h
  | some hd =>
    rw [headI] at h
    split at h
    · generalize allF blkI _ [] = B at h
      cases B with
      | none => cases h
      | some B =>
        rw [blksI] at h
        generalize allF insI _ [] = S at h
        cases S with
        | none => cases h
        | some S =>
          rw [stepsI, finI] at h
          split at h
          · rename_i h2
            injection h with h
            rw [h] at h2
            exact ⟨h2.1, h2.2.symm⟩
          · cases h
    · cases h
theorem rdc_same (l : List UInt8) : rdcS l = rdcI l := by
  rcases hS : rdcS l with _ | c
  · rcases hI : rdcI l with _ | c
    · rfl
    · obtain ⟨h1, h2⟩ := rdcI_ok hI
      rw [h2, (rdc_text h1).1] at hS; cases hS
  · obtain ⟨h1, h2⟩ := rdcS_ok hS
    rw [h2, (rdc_text h1).2]
end Go.Proofs.YteielmihlfakgaaGreatDoor
