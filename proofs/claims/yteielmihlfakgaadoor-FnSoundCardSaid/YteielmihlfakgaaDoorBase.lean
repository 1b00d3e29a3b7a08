/- Plain lemmas and words that all texts of this seat use: no program in sight. -/
import Derived.WalkKit
import Derived.Lib.Hide
import Derived.Deep.QuietTactic
import Derived.BigQuiet
import Derived.StillTailTactics
namespace Go.Proofs.YteielmihlfakgaaDoor
open Go Go.RowKit
set_option linter.unusedVariables false
set_option linter.unusedSimpArgs false

theorem ret_int {k : IntKind} {a b : Int} (h : a = b) : Ending.returned (.int k a) = .returned (.int k b) := by rw [h]
theorem ret_bool {a b : Bool} (h : a = b) : Ending.returned (.bool a) = .returned (.bool b) := by rw [h]

/-- w' is w but for new blocks (and draws). -/
def New (w w' : World) : Prop := Below w.heap.size w w'
theorem New.refl (w : World) : New w w := Below.refl _ _
theorem New.size {w w' : World} (h : New w w') : w.heap.size ≤ w'.heap.size := Below.size h
theorem New.trans {a b c : World} (h : New a b) (k : New b c) : New a c := Below.trans h (Below.mono k h.size)
theorem New.alloc {a w : World} (h : New a w) (o : Obj) : New a (w.alloc o) := Below.alloc h h.size o
theorem New.drew {a w : World} (h : New a w) : New a w.drew := Below.drew h
theorem New.drewN {a w : World} (h : New a w) (n : Nat) : New a (w.drewN n) := Below.trans h (⟨rfl, rfl, rfl, Nat.le_refl _, fun _ _ => rfl⟩ : Below a.heap.size w (w.drewN n))
theorem New.setCell {a w : World} (h : New a w) {p : Addr} (hp : a.heap.size ≤ p.block) (u : Value) : New a (w.setCell p u) := Below.setCell h hp u
theorem New.cell {w w' : World} (h : New w w') {b o : Nat} (hb : b < w.heap.size) : w'.cell? ⟨b, o, none⟩ = w.cell? ⟨b, o, none⟩ := Below.cell h (p := ⟨b, o, none⟩) hb
theorem New.frozen {w w' : World} (h : New w w') {b o : Nat} (hb : b < w.heap.size) : w'.frozen? ⟨b, o, none⟩ = w.frozen? ⟨b, o, none⟩ := Below.frozen h (p := ⟨b, o, none⟩) hb
theorem New.rules {W w1 : World} (hb : New W w1) : (∀ b o, b < W.heap.size → w1.cell? ⟨b, o, none⟩ = W.cell? ⟨b, o, none⟩) ∧ (∀ b o, b < W.heap.size → w1.frozen? ⟨b, o, none⟩ = W.frozen? ⟨b, o, none⟩) :=
  ⟨fun _ _ h => hb.cell h, fun _ _ h => hb.frozen h⟩
theorem New.grown {a w w' : World} {row : Option Nat} (h : New a w) (hg : w.grownBy w' row) (hr : ∀ k, row = some k → a.heap.size ≤ k) : New a w' := Below.grown h hg h.size hr

theorem New.undrawN {w w' : World} {n : Nat} (h : New (w.drewN n) w') : New w w' := New.trans (New.drewN (New.refl w) n) h
theorem New.undraw {w w' : World} (h : New w.drew w') : New w w' := New.trans (New.drew (New.refl w)) h
/-- The worlds that are w but for new blocks: the class of a drawn region whose callees make memory. -/
structure NewOf (w : World) where
  val : World
  property : New w val
instance (w : World) : Nonempty (NewOf w) := ⟨⟨w, New.refl w⟩⟩
theorem NewOf.cell {w : World} (n : NewOf w) (b o : Nat) (h : b < w.heap.size) : n.val.cell? ⟨b, o, none⟩ = w.cell? ⟨b, o, none⟩ := n.property.cell h
theorem wp_region_new {P : Program} {id : Nat} {Q : Exit → Act → World → Prop} {a : Act} {w : World} {l : List Oper} (hm : P.follows .mixedOrders = true) (hB : Region.lexB .any l.toArray = true)
    (h : wpQuiet P l.toArray (fun w' => ∃ n : NewOf w, w' = n.val) (fun a' => ∀ n : NewOf w, Q .normal a' n.val) l a) : (Code.region id l.toArray true).wp P Q a w :=
  wp_region_quiet (C := fun w' => ∃ n : NewOf w, w' = n.val) hm hB ⟨⟨w.drew, (New.refl w).drew⟩, rfl⟩ (by
    have e : (fun a' => ∀ w', (∃ n : NewOf w, w' = n.val) → Q .normal a' w') = (fun a' => ∀ n : NewOf w, Q .normal a' n.val) := by
      funext a'; exact propext ⟨fun h n => h _ ⟨n, rfl⟩, fun h w' ⟨n, hn⟩ => hn ▸ h n⟩
    rw [e]; simpa using h)
theorem newq {P : Program} {f : FuncId} {args : Array Value} {w : World} {n : NewOf w} {v : Value}
    (h : Calls P f args n.val fun e w' => e = .returned v ∧ New n.val w') : Calls P f args n.val fun e w'' => e = .returned v ∧ ∃ m : NewOf w, w'' = m.val :=
  h.mono fun _ w' ⟨he, hm⟩ => ⟨he, ⟨w', n.property.trans hm⟩, rfl⟩
theorem newq_eq {P : Program} {f : FuncId} {args : Array Value} {w : World} {n : NewOf w} {v : Value}
    (h : Calls P f args n.val fun e w' => e = .returned v ∧ n.val = w') : Calls P f args n.val fun e w'' => e = .returned v ∧ ∃ m : NewOf w, w'' = m.val :=
  h.mono fun _ w' ⟨he, hm⟩ => ⟨he, n, hm.symm⟩

/-- A callee that leaves the world alone, inside a region that draws its order. -/
theorem quiet_eq {P : Program} {f : FuncId} {args : Array Value} {w : World} {n : Nat} {v : Value}
    (h : Calls P f args (w.drewN n) fun e w' => e = .returned v ∧ w.drewN n = w') : Calls P f args (w.drewN n) fun e w'' => e = .returned v ∧ ∃ m, w'' = w.drewN m :=
  h.mono fun _ _ ⟨he, hm⟩ => ⟨he, n, hm.symm⟩

/-- .. and inside 'still_call'. -/
theorem still_eq {P : Program} {f : FuncId} {args : Array Value} {w : World} {v : Value}
    (h : Calls P f args w fun e w' => e = .returned v ∧ w = w') : Calls P f args w fun e w'' => e = .returned v ∧ w'' = w :=
  h.mono fun _ _ ⟨he, hm⟩ => ⟨he, hm.symm⟩

/-- The slice value v has n elements; its cells read cs. -/
def Rd (w : World) (v : Value) (n : Nat) (cs : List Value) : Prop :=
  ∃ (a : Option Addr) (cap : Nat), v = .slice a n cap ∧ n ≤ 9223372036854775807 ∧ ((a = none → n = 0) ∧ n ≤ cap) ∧
    ∀ j u, cs[j]? = some u → ∃ b off, a = some ⟨b, off, none⟩ ∧ b < w.heap.size ∧ w.cell? ⟨b, off + j, none⟩ = some u

theorem Rd.new {w w' : World} {v : Value} {n : Nat} {cs : List Value} (h : Rd w v n cs) (hb : New w w') : Rd w' v n cs := by
  obtain ⟨a, cap, rfl, hn, h0, hc⟩ := h
  refine ⟨a, cap, rfl, hn, h0, fun j u hu => ?_⟩
  obtain ⟨b, off, ha, hlt, hcell⟩ := hc j u hu
  exact ⟨b, off, ha, Nat.lt_of_lt_of_le hlt hb.size, (hb.cell hlt).trans hcell⟩

/-- A row of the call's own, in any later world. -/
theorem own_new {w w' : World} {base : Nat} {e : TypeId} {sz : Nat} {v : Value} {n : Nat} {cs : List Value} (h : w.ownsRow base e sz v n cs) (hb : New w w') : w'.ownsRow base e sz v n cs := by
  refine ⟨h.1, ?_⟩
  rcases h.2 with hn | ⟨g, cap, cur, rfl, hg, hgg, rest⟩
  · exact .inl hn
  · exact .inr ⟨g, cap, cur, rfl, hg, (Below.block hb g (Array.getElem?_eq_some_iff.1 hgg).1).trans hgg, rest⟩
theorem own_base {w : World} {base base' : Nat} {e : TypeId} {sz : Nat} {v : Value} {n : Nat} {cs : List Value} (h : w.ownsRow base e sz v n cs) (hb : base' ≤ base) : w.ownsRow base' e sz v n cs := by
  refine ⟨h.1, ?_⟩
  rcases h.2 with hn | ⟨g, cap, cur, rfl, hg, hgg, rest⟩
  · exact .inl hn
  · exact .inr ⟨g, cap, cur, rfl, Nat.le_trans hb hg, hgg, rest⟩
theorem own_rd {w : World} {base : Nat} {e : TypeId} {sz : Nat} {v : Value} {n : Nat} {cs : List Value} (h : w.ownsRow base e sz v n cs) : Rd w v n cs := by
  obtain ⟨h1, h2⟩ := h
  rcases h2 with ⟨rfl, rfl⟩ | ⟨g, cap, cur, rfl, hg, hgg, hnc, hcm, hcs, htake⟩
  · have : cs = [] := List.eq_nil_of_length_eq_zero (by simpa using h1)
    subst this
    exact ⟨none, 0, rfl, by omega, ⟨fun _ => rfl, Nat.le_refl _⟩, fun j u hu => by simp at hu⟩
  · refine ⟨some ⟨g, 0, none⟩, cap, rfl, by simp only [maxLen] at hcm; omega, ⟨(fun h => by cases h), hnc⟩, fun j u hu => ⟨g, 0, rfl, (Array.getElem?_eq_some_iff.1 hgg).1, ?_⟩⟩
    rw [Nat.zero_add]
    have := World.ownsRow.cells (w := w) (base := base) (e := e) (size := sz) (v := .slice (some ⟨g, 0, none⟩) n cap) (n := n) (xs := cs) ⟨h1, .inr ⟨g, cap, cur, rfl, hg, hgg, hnc, hcm, hcs, htake⟩⟩ (g := g) rfl j u hu
    have e : (⟨g, 0, none⟩ : Addr).add j = ⟨g, j, none⟩ := by unfold Addr.add; split <;> simp_all
    rw [e] at this
    exact this
theorem own_slice {w : World} {base : Nat} {e : TypeId} {sz : Nat} {v : Value} {n : Nat} {cs : List Value} (h : w.ownsRow base e sz v n cs) : ∃ a cap, v = .slice a n cap := by
  rcases h.2 with ⟨rfl, rfl⟩ | ⟨g, cap, cur, rfl, _⟩
  · exact ⟨_, _, rfl⟩
  · exact ⟨_, _, rfl⟩
/-- A call hands back a slice in new memory. -/
def RetSlice (w : World) (e : TypeId) (sz n : Nat) (cs : List Value) (en : Ending) (w' : World) : Prop := ∃ r, en = .returned r ∧ New w w' ∧ w'.ownsRow w.heap.size e sz r n cs

theorem set_next {α : Type} (f : α → Value) (z : Value) (xs : List α) (k : Nat) (hk : k < xs.length) :
    ((xs.take k).map f ++ List.replicate (xs.length - k) z).set k (f xs[k]) = (xs.take (k + 1)).map f ++ List.replicate (xs.length - (k + 1)) z := by
  have h1 : ((xs.take k).map f).length = k := by simp; omega
  rw [List.set_append, if_neg (by omega), h1, Nat.sub_self]
  have h2 : xs.length - k = (xs.length - (k + 1)) + 1 := by omega
  rw [h2, List.replicate_succ, List.set_cons_zero, List.take_succ_eq_append_getElem hk, List.map_append]
  simp

theorem row_at {α : Type} (f : α → Value) (z : Value) (xs : List α) (k : Nat) (hk : k < xs.length) : ((xs.take k).map f ++ List.replicate (xs.length - k) z)[k]? = some z := by
  have h1 : ((xs.take k).map f).length = k := by simp; omega
  rw [List.getElem?_append_right (by omega), h1, Nat.sub_self, List.getElem?_replicate, if_pos (by omega)]
/-- The first elements. -/
theorem Rd.take {w : World} {a : Option Addr} {n cap k : Nat} {cs : List Value} (sz : Nat) (hk : k ≤ n) (h : Rd w (.slice a n cap) n cs) : Rd w (.slice a k cap) k (cs.take (k * sz)) := by
  obtain ⟨a', cap', he, hn, h0, hc⟩ := h
  cases he
  refine ⟨a, cap, rfl, by omega, ⟨fun h => by have := h0.1 h; omega, by omega⟩, fun j u hu => hc j u ?_⟩
  have := (List.getElem?_eq_some_iff.1 hu)
  obtain ⟨hj, hu'⟩ := this
  rw [List.getElem_take] at hu'
  exact List.getElem?_eq_some_iff.2 ⟨_, hu'⟩
theorem Rd.cap {w : World} {a : Option Addr} {n cap : Nat} {cs : List Value} (h : Rd w (.slice a n cap) n cs) : n ≤ cap := by
  obtain ⟨a', cap', he, hn, h0, hc⟩ := h
  cases he; exact h0.2
/-- Elements of several cells, laid one behind the other. -/
theorem flat_at {α : Type} (enc : α → List Value) (sz : Nat) (hs : ∀ x, (enc x).length = sz) : ∀ (xs : List α) (k : Nat) (hk : k < xs.length) (i : Nat), i < sz → (xs.flatMap enc)[k * sz + i]? = (enc xs[k])[i]?
  | x :: xs, 0, _, i, hi => by
    rw [List.flatMap_cons, Nat.zero_mul, Nat.zero_add, List.getElem?_append_left (by rw [hs]; exact hi)]; rfl
  | x :: xs, k + 1, hk, i, hi => by
    have hk' : k < xs.length := by simpa using hk
    rw [List.flatMap_cons, List.getElem?_append_right (by rw [hs, Nat.add_mul]; omega), hs]
    have : (k + 1) * sz + i - sz = k * sz + i := by rw [Nat.add_mul]; omega
    rw [this, flat_at enc sz hs xs k hk' i hi]; rfl
theorem flat_length {α : Type} (enc : α → List Value) (sz : Nat) (hs : ∀ x, (enc x).length = sz) (xs : List α) : (xs.flatMap enc).length = xs.length * sz := by
  induction xs with
  | nil => simp
  | cons x xs ih => rw [List.flatMap_cons, List.length_append, ih, hs, List.length_cons, Nat.add_mul]; omega
theorem flat_take {α : Type} (enc : α → List Value) (sz : Nat) (hs : ∀ x, (enc x).length = sz) : ∀ (xs : List α) (k : Nat), k ≤ xs.length → (xs.flatMap enc).take (k * sz) = (xs.take k).flatMap enc
  | _, 0, _ => by simp
  | [], k + 1, h => by simp at h
  | x :: xs, k + 1, h => by
    rw [List.take_succ_cons, List.flatMap_cons, List.flatMap_cons, List.take_append, List.take_of_length_le (by rw [hs, Nat.add_mul]; omega), hs]
    have : (k + 1) * sz - sz = k * sz := by rw [Nat.add_mul]; omega
    rw [this, flat_take enc sz hs xs k (by simpa using h)]
theorem Rd.takeE {α : Type} {w : World} {a : Option Addr} {cap k : Nat} {enc : α → List Value} {sz : Nat} {xs : List α} (hs : ∀ x, (enc x).length = sz) (hk : k ≤ xs.length) (h : Rd w (.slice a xs.length cap) xs.length (xs.flatMap enc)) :
    Rd w (.slice a k cap) (xs.take k).length ((xs.take k).flatMap enc) := by
  have := h.take sz hk
  rw [flat_take enc sz hs xs k hk] at this
  rwa [show (xs.take k).length = k by simp; omega]
theorem flat_get {α : Type} (enc : α → List Value) (sz : Nat) (hs : ∀ x, (enc x).length = sz) (xs : List α) (j : Nat) (u : Value) (h : (xs.flatMap enc)[j]? = some u) :
    ∃ k, ∃ hk : k < xs.length, ∃ i, i < sz ∧ j = k * sz + i ∧ (enc xs[k])[i]? = some u := by
  have hj : j < xs.length * sz := by rw [← flat_length enc sz hs]; exact (List.getElem?_eq_some_iff.1 h).1
  have hsz : 0 < sz := by rcases Nat.eq_zero_or_pos sz with h0 | h0; subst h0; omega; exact h0
  have hk : j / sz < xs.length := Nat.div_lt_of_lt_mul (by rw [Nat.mul_comm]; exact hj)
  have e : j = j / sz * sz + j % sz := by have := Nat.div_add_mod j sz; rw [Nat.mul_comm] at this; omega
  refine ⟨j / sz, hk, j % sz, Nat.mod_lt _ hsz, e, ?_⟩
  rw [← flat_at enc sz hs xs (j / sz) hk (j % sz) (Nat.mod_lt _ hsz), ← e]; exact h
theorem flat_one {α : Type} (f : α → Value) (xs : List α) : (xs.flatMap fun x => [f x]) = xs.map f := by
  induction xs with
  | nil => rfl
  | cons x xs ih => rw [List.flatMap_cons, ih]; rfl

/-- A slice of flat elements, opened. -/
theorem Rd.flat {α : Type} {w : World} {v : Value} {enc : α → List Value} {sz : Nat} {xs : List α} (hs : ∀ x, (enc x).length = sz) (hsz : 0 < sz) (h : Rd w v xs.length (xs.flatMap enc)) :
    ∃ (a : Option Addr) (cap : Nat), v = .slice a xs.length cap ∧ xs.length ≤ 9223372036854775807 ∧
      Hid (∀ k (hk : k < xs.length), ∃ b off, a = some ⟨b, off, none⟩ ∧ b < w.heap.size ∧ ∀ i u, i < sz → (enc xs[k])[i]? = some u → w.cell? ⟨b, off + k * sz + i, none⟩ = some u) := by
  obtain ⟨a, cap, rfl, hn, h0, hc⟩ := h
  refine ⟨a, cap, rfl, hn, Lib.hid fun k hk => ?_⟩
  have hl : (enc xs[k])[0]? = some ((enc xs[k])[0]'(by rw [hs]; exact hsz)) := List.getElem?_eq_getElem _
  obtain ⟨b, off, ha, hb, _⟩ := hc (k * sz + 0) _ (by rw [flat_at enc sz hs xs k hk 0 hsz]; exact hl)
  refine ⟨b, off, ha, hb, fun i u hi hu => ?_⟩
  obtain ⟨b', off', ha', hb', hcell⟩ := hc (k * sz + i) u (by rw [flat_at enc sz hs xs k hk i hi]; exact hu)
  rw [ha] at ha'
  cases ha'
  rw [Nat.add_assoc]; exact hcell
/-- Cells that are set one behind the other. -/
def setFrom (cs : List Value) : Nat → List Value → List Value
  | _, [] => cs
  | o, v :: vs => setFrom (cs.set o v) (o + 1) vs
theorem setFrom_block : ∀ (A B C vs : List Value), B.length = vs.length → setFrom (A ++ B ++ C) A.length vs = A ++ vs ++ C
  | A, B, C, [], h => by
    have : B = [] := List.eq_nil_of_length_eq_zero (by simpa using h)
    subst this; rfl
  | A, [], C, v :: vs, h => by simp at h
  | A, b :: B, C, v :: vs, h => by
    rw [setFrom]
    have e1 : (A ++ b :: B ++ C).set A.length v = (A ++ [v]) ++ B ++ C := by
      rw [List.append_assoc, List.set_append, if_neg (by omega), Nat.sub_self]; simp
    rw [e1, show A.length + 1 = (A ++ [v]).length by simp, setFrom_block (A ++ [v]) B C vs (by simpa using h)]
    simp
/-- One more element of a row that is filled from the left. -/
theorem set_flat {α : Type} (enc : α → List Value) (sz : Nat) (hs : ∀ x, (enc x).length = sz) (zc : List Value) (hz : zc.length = sz) (xs : List α) (k : Nat) (hk : k < xs.length) :
    setFrom ((xs.take k).flatMap enc ++ (List.replicate (xs.length - k) zc).flatten) (k * sz) (enc xs[k]) = (xs.take (k + 1)).flatMap enc ++ (List.replicate (xs.length - (k + 1)) zc).flatten := by
  have h1 : ((xs.take k).flatMap enc).length = k * sz := by rw [flat_length enc sz hs]; simp; rw [Nat.min_eq_left (by omega)]
  have h2 : xs.length - k = (xs.length - (k + 1)) + 1 := by omega
  rw [h2, List.replicate_succ, List.flatten_cons, ← List.append_assoc, ← h1, setFrom_block _ _ _ _ (by rw [hz, hs]), List.take_succ_eq_append_getElem hk, List.flatMap_append]
  simp
theorem flat_zero_at {α : Type} (enc : α → List Value) (sz : Nat) (hs : ∀ x, (enc x).length = sz) (zc : List Value) (hz : zc.length = sz) (xs : List α) (k : Nat) (hk : k < xs.length) (i : Nat) (hi : i < sz) :
    ((xs.take k).flatMap enc ++ (List.replicate (xs.length - k) zc).flatten)[k * sz + i]? = zc[i]? := by
  have h1 : ((xs.take k).flatMap enc).length = k * sz := by rw [flat_length enc sz hs]; simp; rw [Nat.min_eq_left (by omega)]
  have h2 : xs.length - k = (xs.length - (k + 1)) + 1 := by omega
  rw [List.getElem?_append_right (by omega), h1, h2, List.replicate_succ, List.flatten_cons, List.getElem?_append_left (by omega), Nat.add_sub_cancel_left]

theorem made_flat (z : Array Value) (n : Nat) (hz : 0 < z.size) : (madeCells z (n * z.size)).toList = (List.replicate n z.toList).flatten := by
  unfold madeCells
  apply List.ext_getElem?
  intro j
  by_cases hj : j < n * z.size
  · have hk : j / z.size < n := Nat.div_lt_of_lt_mul (by rw [Nat.mul_comm]; exact hj)
    have hm := Nat.mod_lt j hz
    have hfl : ∀ (n k i : Nat), k < n → i < z.size → ((List.replicate n z.toList).flatten)[k * z.size + i]? = z.toList[i]? := by
      intro n
      induction n with
      | zero => intro k i hk; omega
      | succ n ih =>
        intro k i hk hi
        rw [List.replicate_succ, List.flatten_cons]
        cases k with
        | zero => rw [Nat.zero_mul, Nat.zero_add, List.getElem?_append_left (by simpa using hi)]
        | succ k =>
          rw [List.getElem?_append_right (by simp [Nat.add_mul]; omega)]
          have : (k + 1) * z.size + i - z.toList.length = k * z.size + i := by simp [Nat.add_mul]; omega
          rw [this]; exact ih k i (by omega) hi
    have e : j = j / z.size * z.size + j % z.size := by have := Nat.div_add_mod j z.size; rw [Nat.mul_comm] at this; omega
    rw [e, hfl n _ _ hk hm, ← e]
    simp [hj, hm]
  · rw [List.getElem?_eq_none (by simp; omega), List.getElem?_eq_none (by simp; omega)]

/-- One element set anew. -/
theorem set_flat2 {α : Type} (enc : α → List Value) (sz : Nat) (hs : ∀ x, (enc x).length = sz) (xs : List α) (j : Nat) (hj : j < xs.length) (y : α) :
    setFrom (xs.flatMap enc) (j * sz) (enc y) = (xs.set j y).flatMap enc := by
  have h1 : xs = xs.take j ++ xs[j] :: xs.drop (j + 1) := by simp
  have h2 : xs.set j y = xs.take j ++ y :: xs.drop (j + 1) := List.set_eq_take_append_cons_drop.trans (by rw [if_pos hj])
  rw [h2]
  conv => lhs; rw [h1]
  have h3 : ((xs.take j).flatMap enc).length = j * sz := by rw [flat_length enc sz hs]; simp; rw [Nat.min_eq_left (by omega)]
  rw [List.flatMap_append, List.flatMap_cons, List.flatMap_append, List.flatMap_cons, ← List.append_assoc, ← h3, setFrom_block _ _ _ _ (by rw [hs, hs]), List.append_assoc]
/-- The list that a marking lays. -/
def marksE {α : Type} (f : Nat → α) (n : Nat) : List α := (List.range n).map f
theorem marksE_length {α : Type} (f : Nat → α) (n : Nat) : (marksE f n).length = n := by simp [marksE]
theorem marksE_get {α : Type} (f : Nat → α) (n i : Nat) (h : i < n) : (marksE f n)[i]'(by rw [marksE_length]; exact h) = f i := by simp [marksE]
theorem marksE_set {α : Type} (f : Nat → α) (xs : List α) (i : Nat) (h : i < xs.length) : (marksE f i ++ xs.drop i).set i (f i) = marksE f (i + 1) ++ xs.drop (i + 1) := by
  rw [List.set_append, if_neg (by rw [marksE_length]; omega), marksE_length, Nat.sub_self, List.drop_eq_getElem_cons h, List.set_cons_zero]
  simp [marksE, List.range_succ]
theorem marksE_len {α : Type} (f : Nat → α) (xs : List α) (i : Nat) (h : i ≤ xs.length) : (marksE f i ++ xs.drop i).length = xs.length := by
  rw [List.length_append, marksE_length, List.length_drop]; omega
theorem marksE_at {α : Type} (f : Nat → α) (xs : List α) (i : Nat) (h : i < xs.length) : (marksE f i ++ xs.drop i)[i]'(by rw [marksE_len f xs i (by omega)]; exact h) = xs[i] := by
  rw [List.getElem_append_right (by rw [marksE_length]; omega)]; simp [marksE_length]
/-- Only the block of one slice has turned. -/
def Only (v : Value) (w w' : World) : Prop := w'.heap.size = w.heap.size ∧ w.grownBy w' v.ownBlock
theorem Only.set {v : Value} {w w' : World} (h : Only v w w') {g o : Nat} (hg : v.ownBlock = some g) (u : Value) : Only v w (w'.setCell ⟨g, o, none⟩ u) := by
  refine ⟨by simp [h.1], ⟨h.2.os, h.2.tape, h.2.output, by simp [h.1], fun q hq hne => ?_⟩⟩
  rw [hg] at hne
  exact (heap_setCell_other w' ⟨g, o, none⟩ q u (fun e => hne (by simp [e]))).trans (h.2.block q hq (by rw [hg]; exact hne))
theorem Only.refl (v : Value) (w : World) : Only v w w := ⟨rfl, rfl, rfl, rfl, Nat.le_refl _, fun _ _ _ => rfl⟩
theorem Only.new {v : Value} {w0 w w' : World} (h : Only v w w') (hn : New w0 w) (hv : ∀ k, v.ownBlock = some k → w0.heap.size ≤ k) : New w0 w' := hn.grown h.2 hv
theorem only_own {v u : Value} {w w' : World} {base : Nat} {e : TypeId} {sz n : Nat} {cs : List Value} (h : Only v w w') (hu : w.ownsRow base e sz u n cs) (hne : ∀ k, v.ownBlock = some k → k < base) : w'.ownsRow base e sz u n cs := by
  refine hu.kept h.2 ?_
  cases hb : u.ownBlock with
  | none => exact .inl rfl
  | some k => exact .inr (fun e => by have h1 := hu.lt k hb; have h2 := hne k e.symm; omega)
/-- A function that marks a slice of flat elements. -/
def MarkedE {α : Type} (enc : α → List Value) (sz : Nat) (f : Nat → α) (v : Value) (base n : Nat) (k' : Nat) (e : TypeId) (w : World) (en : Ending) (w' : World) : Prop :=
  en = .returned (.int .i64 (k' : Int)) ∧ Only v w w' ∧ w'.ownsRow base e sz v n ((marksE f n).flatMap enc)
theorem own_block_lt {v : Value} {w : World} {base : Nat} {e : TypeId} {sz n : Nat} {cs : List Value} (h : w.ownsRow base e sz v n cs) : ∀ k, v.ownBlock = some k → base ≤ k ∧ k < w.heap.size := h.lt

/-- A slice of numbers. -/
def RdI (w : World) (v : Value) (xs : List Int) : Prop := Rd w v xs.length (xs.map (Value.int .i64))
theorem RdI.new {w w' : World} {v : Value} {xs : List Int} (h : RdI w v xs) (hb : New w w') : RdI w' v xs := Rd.new h hb

/-- A slice of numbers, opened: its cells read so in every later world. -/
theorem RdI.open {w : World} {v : Value} {xs : List Int} (h : RdI w v xs) : ∃ (a : Option Addr) (cap : Nat), v = .slice a xs.length cap ∧ xs.length ≤ 9223372036854775807 ∧
    Hid (∀ (w' : World), New w w' → ∀ k (hk : k < xs.length), ∃ b off, a = some ⟨b, off, none⟩ ∧ b < w.heap.size ∧ w'.cell? ⟨b, off + k, none⟩ = some (.int .i64 xs[k])) := by
  obtain ⟨a, cap, rfl, hn, h0, hc⟩ := h
  refine ⟨a, cap, rfl, hn, Lib.hid fun w' hb k hk => ?_⟩
  obtain ⟨b, off, ha, hlt, hcell⟩ := hc k (.int .i64 xs[k]) (by simp [hk])
  exact ⟨b, off, ha, hlt, (hb.cell hlt).trans hcell⟩

theorem tdiv_bd {a b : Int} (L : Int) (h : -L ≤ a) (h' : a ≤ L) : -L ≤ a.tdiv b ∧ a.tdiv b ≤ L := by
  have h1 : (a.tdiv b).natAbs ≤ a.natAbs := by rw [Int.natAbs_tdiv]; exact Nat.div_le_self _ _
  omega
theorem floor_pos {a b : Int} (ha : 0 ≤ a) : a.tdiv b = a / b := Int.tdiv_eq_ediv_of_nonneg ha
theorem floor_zero {a b : Int} (h : a.tmod b = 0) : a.tdiv b = a / b := by
  rw [Int.tdiv_eq_ediv_of_dvd (Int.dvd_of_tmod_eq_zero h)]
theorem floor_neg {a b : Int} (hb : 1 ≤ b) (ha : a < 0) (h : a.tmod b ≠ 0) : a.tdiv b - 1 = a / b := by
  rw [Int.tdiv_eq_ediv, if_neg (by
    intro hh; rcases hh with hh | hh
    · omega
    · exact h (Int.tmod_eq_zero_of_dvd hh)), Int.sign_eq_one_of_pos (by omega)]; omega

theorem ediv_bd {a b L : Int} (hb : 1 ≤ b) (h : -L ≤ a) (h' : a ≤ L) : -L ≤ a / b ∧ a / b ≤ L := by
  constructor
  · rw [Int.le_ediv_iff_mul_le (by omega)]
    by_cases hL : 0 ≤ L
    · have : L * 1 ≤ L * b := Int.mul_le_mul_of_nonneg_left hb hL
      rw [Int.neg_mul]; omega
    · omega
  · by_cases h0 : 0 ≤ a
    · exact Int.le_trans (Int.ediv_le_self _ h0) h'
    · have : a / b ≤ 0 := by
        have := Int.ediv_neg_of_neg_of_pos (a := a) (b := b) (by omega) (by omega); omega
      omega

theorem any_take {α : Type} {p : α → Bool} {xs : List α} {k : Nat} (hk : k < xs.length) (h : (xs.take k).any p = false) (hp : p xs[k] = false) : (xs.take (k + 1)).any p = false := by
  rw [List.take_succ_eq_append_getElem hk, List.any_append, h]; simp [hp]
theorem any_at {α : Type} {p : α → Bool} {xs : List α} {k : Nat} (hk : k < xs.length) (hp : p xs[k] = true) : xs.any p = true := List.any_eq_true.2 ⟨_, List.getElem_mem hk, hp⟩
theorem any_take_all {α : Type} {p : α → Bool} {xs : List α} (h : (xs.take xs.length).any p = false) : xs.any p = false := by rwa [List.take_length] at h

/-- Blocks from B to E may have turned, and new ones came. -/
def Turned (B E : Nat) (w w' : World) : Prop := Below B w w' ∧ ∀ q, E ≤ q → q < w.heap.size → w'.heap[q]? = w.heap[q]?
theorem Turned.refl (B E : Nat) (w : World) : Turned B E w w := ⟨Below.refl _ _, fun _ _ _ => rfl⟩
theorem Turned.of_new {B E : Nat} {w w' : World} (hB : B ≤ w.heap.size) (h : New w w') : Turned B E w w' := ⟨Below.mono h hB, fun q _ hq => Below.block h q hq⟩
theorem Turned.trans {B E : Nat} {a b c : World} (h : Turned B E a b) (k : Turned B E b c) : Turned B E a c :=
  ⟨Below.trans h.1 k.1, fun q hq hl => (k.2 q hq (Nat.lt_of_lt_of_le hl (Below.size h.1))).trans (h.2 q hq hl)⟩
theorem Turned.of_only {B E : Nat} {v : Value} {w w' : World} (h : Only v w w') (hB : B ≤ w.heap.size) (hv : ∀ k, v.ownBlock = some k → B ≤ k ∧ k < E) : Turned B E w w' :=
  ⟨Below.grown (Below.refl B w) h.2 hB (fun k hk => (hv k hk).1), fun q hq hl => h.2.block q hl (fun e => by have := hv q e.symm; omega)⟩
theorem Turned.new {B E : Nat} {w0 w w' : World} (h : Turned B E w w') (hn : New w0 w) (hB : w0.heap.size ≤ B) : New w0 w' := Below.trans hn (Below.mono h.1 hB)
theorem Turned.own {B E : Nat} {w w' : World} {base : Nat} {e : TypeId} {sz : Nat} {v : Value} {n : Nat} {cs : List Value} (h : Turned B E w w') (hu : w.ownsRow base e sz v n cs) (hE : E ≤ base) : w'.ownsRow base e sz v n cs := by
  refine ⟨hu.1, ?_⟩
  rcases hu.2 with hn | ⟨g, cap, cur, rfl, hg, hgg, rest⟩
  · exact .inl hn
  · exact .inr ⟨g, cap, cur, rfl, hg, (h.2 g (by omega) (Array.getElem?_eq_some_iff.1 hgg).1).trans hgg, rest⟩
theorem Turned.rules {B E : Nat} {w w' : World} (h : Turned B E w w') : (∀ b o, b < B → w'.cell? ⟨b, o, none⟩ = w.cell? ⟨b, o, none⟩) ∧ (∀ b o, b < B → w'.frozen? ⟨b, o, none⟩ = w.frozen? ⟨b, o, none⟩) :=
  ⟨fun b o hb => Below.cell h.1 (p := ⟨b, o, none⟩) hb, fun b o hb => Below.frozen h.1 (p := ⟨b, o, none⟩) hb⟩
/-- All of the first n. -/
def allUp (p : Nat → Bool) (n : Nat) : Bool := (List.range n).all p
theorem allUp_succ (p : Nat → Bool) (n : Nat) : allUp p (n + 1) = (allUp p n && p n) := by simp [allUp, List.range_succ]
theorem allUp_next {p : Nat → Bool} {n : Nat} (h : allUp p n = true) (hp : p n = true) : allUp p (n + 1) = true := by rw [allUp_succ, h, hp]; rfl
theorem allUp_not {p : Nat → Bool} {n k : Nat} (hk : k < n) (hp : p k = false) : allUp p n = false := by
  rw [allUp, List.all_eq_false]; exact ⟨k, List.mem_range.2 hk, by simp [hp]⟩
theorem allUp_congr {p q : Nat → Bool} {n : Nat} (h : ∀ k, k < n → p k = q k) : allUp p n = allUp q n := by
  rw [Bool.eq_iff_iff, allUp, allUp, List.all_eq_true, List.all_eq_true]
  exact ⟨fun hp x hx => by rw [← h x (List.mem_range.1 hx)]; exact hp x hx, fun hp x hx => by rw [h x (List.mem_range.1 hx)]; exact hp x hx⟩

def inB (x a b : Int) : Bool := decide (a ≤ x) && decide (x ≤ b)
theorem inB_iff {x a b : Int} : inB x a b = true ↔ a ≤ x ∧ x ≤ b := by simp [inB]
theorem inB_not {x a b : Int} : inB x a b = false ↔ x < a ∨ b < x := by simp [inB]; omega
end Go.Proofs.YteielmihlfakgaaDoor
