/- Plain lemmas and words that all texts of this seat use: no program in sight. -/
import Derived.WalkKit
import Derived.Lib.Hide
import Derived.Deep.QuietTactic
import Derived.BigQuiet
import Derived.StillTailTactics
import Derived.ProofKit
import Derived.OpenShut
import Derived.Deep.Slices
import Derived.WalkSmall
import Derived.Lib.LaidTab
import Derived.Deep.DeepHandedRow
import Derived.WalkSpells
import Derived.Test.YteielmihlfakgaaGreatDoorProg
import Derived.Test.YteielmihlfakgaaGreatDoorRows
namespace Go.Proofs.YteielmihlfakgaaGreatDoor
open Go Go.RowKit
set_option linter.unusedVariables false
set_option linter.unusedSimpArgs false

theorem ret_int {k : IntKind} {a b : Int} (h : a = b) : Ending.returned (.int k a) = .returned (.int k b) := by rw [h]
theorem ret_bool {a b : Bool} (h : a = b) : Ending.returned (.bool a) = .returned (.bool b) := by rw [h]

/-- w' is w but for new blocks (and draws). -/
def New (w w' : World) : Prop := Below w.heap.size w w'
theorem New.refl (w : World) : New w w := Below.refl _ _
theorem New.size {w w' : World} (h : New w w') : w.heap.size ≤ w'.heap.size := Below.size h
theorem New.trans {a b c : World} (h : New a b) (k : New b c) : New a c := Below.trans h (Below.mono k h.size)
theorem New.alloc {a w : World} (h : New a w) (o : Obj) : New a (w.alloc o) := Below.alloc h h.size o
theorem New.drew {a w : World} (h : New a w) : New a w.drew := Below.drew h
theorem New.drewN {a w : World} (h : New a w) (n : Nat) : New a (w.drewN n) := Below.trans h (⟨rfl, rfl, rfl, Nat.le_refl _, fun _ _ => rfl⟩ : Below a.heap.size w (w.drewN n))
theorem New.setCell {a w : World} (h : New a w) {p : Addr} (hp : a.heap.size ≤ p.block) (u : Value) : New a (w.setCell p u) := Below.setCell h hp u
theorem New.cell {w w' : World} (h : New w w') {b o : Nat} (hb : b < w.heap.size) : w'.cell? ⟨b, o, none⟩ = w.cell? ⟨b, o, none⟩ := Below.cell h (p := ⟨b, o, none⟩) hb
theorem New.frozen {w w' : World} (h : New w w') {b o : Nat} (hb : b < w.heap.size) : w'.frozen? ⟨b, o, none⟩ = w.frozen? ⟨b, o, none⟩ := Below.frozen h (p := ⟨b, o, none⟩) hb
theorem New.rules {W w1 : World} (hb : New W w1) : (∀ b o, b < W.heap.size → w1.cell? ⟨b, o, none⟩ = W.cell? ⟨b, o, none⟩) ∧ (∀ b o, b < W.heap.size → w1.frozen? ⟨b, o, none⟩ = W.frozen? ⟨b, o, none⟩) :=
  ⟨fun _ _ h => hb.cell h, fun _ _ h => hb.frozen h⟩
theorem New.grown {a w w' : World} {row : Option Nat} (h : New a w) (hg : w.grownBy w' row) (hr : ∀ k, row = some k → a.heap.size ≤ k) : New a w' := Below.grown h hg h.size hr

theorem New.undrawN {w w' : World} {n : Nat} (h : New (w.drewN n) w') : New w w' := New.trans (New.drewN (New.refl w) n) h
theorem New.undraw {w w' : World} (h : New w.drew w') : New w w' := New.trans (New.drew (New.refl w)) h
/-- The worlds that are w but for new blocks: the class of a drawn region whose callees make memory. -/
structure NewOf (w : World) where
  val : World
  property : New w val
instance (w : World) : Nonempty (NewOf w) := ⟨⟨w, New.refl w⟩⟩
theorem NewOf.cell {w : World} (n : NewOf w) (b o : Nat) (h : b < w.heap.size) : n.val.cell? ⟨b, o, none⟩ = w.cell? ⟨b, o, none⟩ := n.property.cell h
theorem wp_region_new {P : Program} {id : Nat} {Q : Exit → Act → World → Prop} {a : Act} {w : World} {l : List Oper} (hm : P.follows .mixedOrders = true) (hB : Region.lexB .any l.toArray = true)
    (h : wpQuiet P l.toArray (fun w' => ∃ n : NewOf w, w' = n.val) (fun a' => ∀ n : NewOf w, Q .normal a' n.val) l a) : (Code.region id l.toArray true).wp P Q a w :=
  wp_region_quiet (C := fun w' => ∃ n : NewOf w, w' = n.val) hm hB ⟨⟨w.drew, (New.refl w).drew⟩, rfl⟩ (by
    have e : (fun a' => ∀ w', (∃ n : NewOf w, w' = n.val) → Q .normal a' w') = (fun a' => ∀ n : NewOf w, Q .normal a' n.val) := by
      funext a'; exact propext ⟨fun h n => h _ ⟨n, rfl⟩, fun h w' ⟨n, hn⟩ => hn ▸ h n⟩
    rw [e]; simpa using h)
theorem newq {P : Program} {f : FuncId} {args : Array Value} {w : World} {n : NewOf w} {v : Value}
    (h : Calls P f args n.val fun e w' => e = .returned v ∧ New n.val w') : Calls P f args n.val fun e w'' => e = .returned v ∧ ∃ m : NewOf w, w'' = m.val :=
  h.mono fun _ w' ⟨he, hm⟩ => ⟨he, ⟨w', n.property.trans hm⟩, rfl⟩
theorem newq_eq {P : Program} {f : FuncId} {args : Array Value} {w : World} {n : NewOf w} {v : Value}
    (h : Calls P f args n.val fun e w' => e = .returned v ∧ n.val = w') : Calls P f args n.val fun e w'' => e = .returned v ∧ ∃ m : NewOf w, w'' = m.val :=
  h.mono fun _ w' ⟨he, hm⟩ => ⟨he, n, hm.symm⟩

/-- A callee that leaves the world alone, inside a region that draws its order. -/
theorem quiet_eq {P : Program} {f : FuncId} {args : Array Value} {w : World} {n : Nat} {v : Value}
    (h : Calls P f args (w.drewN n) fun e w' => e = .returned v ∧ w.drewN n = w') : Calls P f args (w.drewN n) fun e w'' => e = .returned v ∧ ∃ m, w'' = w.drewN m :=
  h.mono fun _ _ ⟨he, hm⟩ => ⟨he, n, hm.symm⟩

/-- .. and inside 'still_call'. -/
theorem still_eq {P : Program} {f : FuncId} {args : Array Value} {w : World} {v : Value}
    (h : Calls P f args w fun e w' => e = .returned v ∧ w = w') : Calls P f args w fun e w'' => e = .returned v ∧ w'' = w :=
  h.mono fun _ _ ⟨he, hm⟩ => ⟨he, hm.symm⟩

/-- The slice value v has n elements; its cells read cs. -/
def Rd (w : World) (v : Value) (n : Nat) (cs : List Value) : Prop :=
  ∃ (a : Option Addr) (cap : Nat), v = .slice a n cap ∧ n ≤ 9223372036854775807 ∧ ((a = none → n = 0) ∧ n ≤ cap) ∧
    ∀ j u, cs[j]? = some u → ∃ b off, a = some ⟨b, off, none⟩ ∧ b < w.heap.size ∧ w.cell? ⟨b, off + j, none⟩ = some u

theorem Rd.new {w w' : World} {v : Value} {n : Nat} {cs : List Value} (h : Rd w v n cs) (hb : New w w') : Rd w' v n cs := by
  obtain ⟨a, cap, rfl, hn, h0, hc⟩ := h
  refine ⟨a, cap, rfl, hn, h0, fun j u hu => ?_⟩
  obtain ⟨b, off, ha, hlt, hcell⟩ := hc j u hu
  exact ⟨b, off, ha, Nat.lt_of_lt_of_le hlt hb.size, (hb.cell hlt).trans hcell⟩

/-- A row of the call's own, in any later world. -/
theorem own_new {w w' : World} {base : Nat} {e : TypeId} {sz : Nat} {v : Value} {n : Nat} {cs : List Value} (h : w.ownsRow base e sz v n cs) (hb : New w w') : w'.ownsRow base e sz v n cs := by
  refine ⟨h.1, ?_⟩
  rcases h.2 with hn | ⟨g, cap, cur, rfl, hg, hgg, rest⟩
  · exact .inl hn
  · exact .inr ⟨g, cap, cur, rfl, hg, (Below.block hb g (Array.getElem?_eq_some_iff.1 hgg).1).trans hgg, rest⟩
theorem own_base {w : World} {base base' : Nat} {e : TypeId} {sz : Nat} {v : Value} {n : Nat} {cs : List Value} (h : w.ownsRow base e sz v n cs) (hb : base' ≤ base) : w.ownsRow base' e sz v n cs := by
  refine ⟨h.1, ?_⟩
  rcases h.2 with hn | ⟨g, cap, cur, rfl, hg, hgg, rest⟩
  · exact .inl hn
  · exact .inr ⟨g, cap, cur, rfl, Nat.le_trans hb hg, hgg, rest⟩
theorem own_rd {w : World} {base : Nat} {e : TypeId} {sz : Nat} {v : Value} {n : Nat} {cs : List Value} (h : w.ownsRow base e sz v n cs) : Rd w v n cs := by
  obtain ⟨h1, h2⟩ := h
  rcases h2 with ⟨rfl, rfl⟩ | ⟨g, cap, cur, rfl, hg, hgg, hnc, hcm, hcs, htake⟩
  · have : cs = [] := List.eq_nil_of_length_eq_zero (by simpa using h1)
    subst this
    exact ⟨none, 0, rfl, by omega, ⟨fun _ => rfl, Nat.le_refl _⟩, fun j u hu => by simp at hu⟩
  · refine ⟨some ⟨g, 0, none⟩, cap, rfl, by simp only [maxLen] at hcm; omega, ⟨(fun h => by cases h), hnc⟩, fun j u hu => ⟨g, 0, rfl, (Array.getElem?_eq_some_iff.1 hgg).1, ?_⟩⟩
    rw [Nat.zero_add]
    have := World.ownsRow.cells (w := w) (base := base) (e := e) (size := sz) (v := .slice (some ⟨g, 0, none⟩) n cap) (n := n) (xs := cs) ⟨h1, .inr ⟨g, cap, cur, rfl, hg, hgg, hnc, hcm, hcs, htake⟩⟩ (g := g) rfl j u hu
    have e : (⟨g, 0, none⟩ : Addr).add j = ⟨g, j, none⟩ := by unfold Addr.add; split <;> simp_all
    rw [e] at this
    exact this
theorem own_slice {w : World} {base : Nat} {e : TypeId} {sz : Nat} {v : Value} {n : Nat} {cs : List Value} (h : w.ownsRow base e sz v n cs) : ∃ a cap, v = .slice a n cap := by
  rcases h.2 with ⟨rfl, rfl⟩ | ⟨g, cap, cur, rfl, _⟩
  · exact ⟨_, _, rfl⟩
  · exact ⟨_, _, rfl⟩
/-- A call hands back a slice in new memory. -/
def RetSlice (w : World) (e : TypeId) (sz n : Nat) (cs : List Value) (en : Ending) (w' : World) : Prop := ∃ r, en = .returned r ∧ New w w' ∧ w'.ownsRow w.heap.size e sz r n cs

theorem set_next {α : Type} (f : α → Value) (z : Value) (xs : List α) (k : Nat) (hk : k < xs.length) :
    ((xs.take k).map f ++ List.replicate (xs.length - k) z).set k (f xs[k]) = (xs.take (k + 1)).map f ++ List.replicate (xs.length - (k + 1)) z := by
  have h1 : ((xs.take k).map f).length = k := by simp; omega
  rw [List.set_append, if_neg (by omega), h1, Nat.sub_self]
  have h2 : xs.length - k = (xs.length - (k + 1)) + 1 := by omega
  rw [h2, List.replicate_succ, List.set_cons_zero, List.take_succ_eq_append_getElem hk, List.map_append]
  simp

theorem row_at {α : Type} (f : α → Value) (z : Value) (xs : List α) (k : Nat) (hk : k < xs.length) : ((xs.take k).map f ++ List.replicate (xs.length - k) z)[k]? = some z := by
  have h1 : ((xs.take k).map f).length = k := by simp; omega
  rw [List.getElem?_append_right (by omega), h1, Nat.sub_self, List.getElem?_replicate, if_pos (by omega)]
/-- The first elements. -/
theorem Rd.take {w : World} {a : Option Addr} {n cap k : Nat} {cs : List Value} (sz : Nat) (hk : k ≤ n) (h : Rd w (.slice a n cap) n cs) : Rd w (.slice a k cap) k (cs.take (k * sz)) := by
  obtain ⟨a', cap', he, hn, h0, hc⟩ := h
  cases he
  refine ⟨a, cap, rfl, by omega, ⟨fun h => by have := h0.1 h; omega, by omega⟩, fun j u hu => hc j u ?_⟩
  have := (List.getElem?_eq_some_iff.1 hu)
  obtain ⟨hj, hu'⟩ := this
  rw [List.getElem_take] at hu'
  exact List.getElem?_eq_some_iff.2 ⟨_, hu'⟩
theorem Rd.cap {w : World} {a : Option Addr} {n cap : Nat} {cs : List Value} (h : Rd w (.slice a n cap) n cs) : n ≤ cap := by
  obtain ⟨a', cap', he, hn, h0, hc⟩ := h
  cases he; exact h0.2
/-- Elements of several cells, laid one behind the other. -/
theorem flat_at {α : Type} (enc : α → List Value) (sz : Nat) (hs : ∀ x, (enc x).length = sz) : ∀ (xs : List α) (k : Nat) (hk : k < xs.length) (i : Nat), i < sz → (xs.flatMap enc)[k * sz + i]? = (enc xs[k])[i]?
  | x :: xs, 0, _, i, hi => by
    rw [List.flatMap_cons, Nat.zero_mul, Nat.zero_add, List.getElem?_append_left (by rw [hs]; exact hi)]; rfl
  | x :: xs, k + 1, hk, i, hi => by
    have hk' : k < xs.length := by simpa using hk
    rw [List.flatMap_cons, List.getElem?_append_right (by rw [hs, Nat.add_mul]; omega), hs]
    have : (k + 1) * sz + i - sz = k * sz + i := by rw [Nat.add_mul]; omega
    rw [this, flat_at enc sz hs xs k hk' i hi]; rfl
theorem flat_length {α : Type} (enc : α → List Value) (sz : Nat) (hs : ∀ x, (enc x).length = sz) (xs : List α) : (xs.flatMap enc).length = xs.length * sz := by
  induction xs with
  | nil => simp
  | cons x xs ih => rw [List.flatMap_cons, List.length_append, ih, hs, List.length_cons, Nat.add_mul]; omega
theorem flat_take {α : Type} (enc : α → List Value) (sz : Nat) (hs : ∀ x, (enc x).length = sz) : ∀ (xs : List α) (k : Nat), k ≤ xs.length → (xs.flatMap enc).take (k * sz) = (xs.take k).flatMap enc
  | _, 0, _ => by simp
  | [], k + 1, h => by simp at h
  | x :: xs, k + 1, h => by
    rw [List.take_succ_cons, List.flatMap_cons, List.flatMap_cons, List.take_append, List.take_of_length_le (by rw [hs, Nat.add_mul]; omega), hs]
    have : (k + 1) * sz - sz = k * sz := by rw [Nat.add_mul]; omega
    rw [this, flat_take enc sz hs xs k (by simpa using h)]
theorem Rd.takeE {α : Type} {w : World} {a : Option Addr} {cap k : Nat} {enc : α → List Value} {sz : Nat} {xs : List α} (hs : ∀ x, (enc x).length = sz) (hk : k ≤ xs.length) (h : Rd w (.slice a xs.length cap) xs.length (xs.flatMap enc)) :
    Rd w (.slice a k cap) (xs.take k).length ((xs.take k).flatMap enc) := by
  have := h.take sz hk
  rw [flat_take enc sz hs xs k hk] at this
  rwa [show (xs.take k).length = k by simp; omega]
theorem flat_get {α : Type} (enc : α → List Value) (sz : Nat) (hs : ∀ x, (enc x).length = sz) (xs : List α) (j : Nat) (u : Value) (h : (xs.flatMap enc)[j]? = some u) :
    ∃ k, ∃ hk : k < xs.length, ∃ i, i < sz ∧ j = k * sz + i ∧ (enc xs[k])[i]? = some u := by
  have hj : j < xs.length * sz := by rw [← flat_length enc sz hs]; exact (List.getElem?_eq_some_iff.1 h).1
  have hsz : 0 < sz := by rcases Nat.eq_zero_or_pos sz with h0 | h0; subst h0; omega; exact h0
  have hk : j / sz < xs.length := Nat.div_lt_of_lt_mul (by rw [Nat.mul_comm]; exact hj)
  have e : j = j / sz * sz + j % sz := by have := Nat.div_add_mod j sz; rw [Nat.mul_comm] at this; omega
  refine ⟨j / sz, hk, j % sz, Nat.mod_lt _ hsz, e, ?_⟩
  rw [← flat_at enc sz hs xs (j / sz) hk (j % sz) (Nat.mod_lt _ hsz), ← e]; exact h
theorem flat_one {α : Type} (f : α → Value) (xs : List α) : (xs.flatMap fun x => [f x]) = xs.map f := by
  induction xs with
  | nil => rfl
  | cons x xs ih => rw [List.flatMap_cons, ih]; rfl

/-- A slice of flat elements, opened. -/
theorem Rd.flat {α : Type} {w : World} {v : Value} {enc : α → List Value} {sz : Nat} {xs : List α} (hs : ∀ x, (enc x).length = sz) (hsz : 0 < sz) (h : Rd w v xs.length (xs.flatMap enc)) :
    ∃ (a : Option Addr) (cap : Nat), v = .slice a xs.length cap ∧ xs.length ≤ 9223372036854775807 ∧
      Hid (∀ k (hk : k < xs.length), ∃ b off, a = some ⟨b, off, none⟩ ∧ b < w.heap.size ∧ ∀ i u, i < sz → (enc xs[k])[i]? = some u → w.cell? ⟨b, off + k * sz + i, none⟩ = some u) := by
  obtain ⟨a, cap, rfl, hn, h0, hc⟩ := h
  refine ⟨a, cap, rfl, hn, Lib.hid fun k hk => ?_⟩
  have hl : (enc xs[k])[0]? = some ((enc xs[k])[0]'(by rw [hs]; exact hsz)) := List.getElem?_eq_getElem _
  obtain ⟨b, off, ha, hb, _⟩ := hc (k * sz + 0) _ (by rw [flat_at enc sz hs xs k hk 0 hsz]; exact hl)
  refine ⟨b, off, ha, hb, fun i u hi hu => ?_⟩
  obtain ⟨b', off', ha', hb', hcell⟩ := hc (k * sz + i) u (by rw [flat_at enc sz hs xs k hk i hi]; exact hu)
  rw [ha] at ha'
  cases ha'
  rw [Nat.add_assoc]; exact hcell
/-- Cells that are set one behind the other. -/
def setFrom (cs : List Value) : Nat → List Value → List Value
  | _, [] => cs
  | o, v :: vs => setFrom (cs.set o v) (o + 1) vs
theorem setFrom_block : ∀ (A B C vs : List Value), B.length = vs.length → setFrom (A ++ B ++ C) A.length vs = A ++ vs ++ C
  | A, B, C, [], h => by
    have : B = [] := List.eq_nil_of_length_eq_zero (by simpa using h)
    subst this; rfl
  | A, [], C, v :: vs, h => by simp at h
  | A, b :: B, C, v :: vs, h => by
    rw [setFrom]
    have e1 : (A ++ b :: B ++ C).set A.length v = (A ++ [v]) ++ B ++ C := by
      rw [List.append_assoc, List.set_append, if_neg (by omega), Nat.sub_self]; simp
    rw [e1, show A.length + 1 = (A ++ [v]).length by simp, setFrom_block (A ++ [v]) B C vs (by simpa using h)]
    simp
/-- One more element of a row that is filled from the left. -/
theorem set_flat {α : Type} (enc : α → List Value) (sz : Nat) (hs : ∀ x, (enc x).length = sz) (zc : List Value) (hz : zc.length = sz) (xs : List α) (k : Nat) (hk : k < xs.length) :
    setFrom ((xs.take k).flatMap enc ++ (List.replicate (xs.length - k) zc).flatten) (k * sz) (enc xs[k]) = (xs.take (k + 1)).flatMap enc ++ (List.replicate (xs.length - (k + 1)) zc).flatten := by
  have h1 : ((xs.take k).flatMap enc).length = k * sz := by rw [flat_length enc sz hs]; simp; rw [Nat.min_eq_left (by omega)]
  have h2 : xs.length - k = (xs.length - (k + 1)) + 1 := by omega
  rw [h2, List.replicate_succ, List.flatten_cons, ← List.append_assoc, ← h1, setFrom_block _ _ _ _ (by rw [hz, hs]), List.take_succ_eq_append_getElem hk, List.flatMap_append]
  simp
theorem flat_zero_at {α : Type} (enc : α → List Value) (sz : Nat) (hs : ∀ x, (enc x).length = sz) (zc : List Value) (hz : zc.length = sz) (xs : List α) (k : Nat) (hk : k < xs.length) (i : Nat) (hi : i < sz) :
    ((xs.take k).flatMap enc ++ (List.replicate (xs.length - k) zc).flatten)[k * sz + i]? = zc[i]? := by
  have h1 : ((xs.take k).flatMap enc).length = k * sz := by rw [flat_length enc sz hs]; simp; rw [Nat.min_eq_left (by omega)]
  have h2 : xs.length - k = (xs.length - (k + 1)) + 1 := by omega
  rw [List.getElem?_append_right (by omega), h1, h2, List.replicate_succ, List.flatten_cons, List.getElem?_append_left (by omega), Nat.add_sub_cancel_left]

theorem made_flat (z : Array Value) (n : Nat) (hz : 0 < z.size) : (madeCells z (n * z.size)).toList = (List.replicate n z.toList).flatten := by
  unfold madeCells
  apply List.ext_getElem?
  intro j
  by_cases hj : j < n * z.size
  · have hk : j / z.size < n := Nat.div_lt_of_lt_mul (by rw [Nat.mul_comm]; exact hj)
    have hm := Nat.mod_lt j hz
    have hfl : ∀ (n k i : Nat), k < n → i < z.size → ((List.replicate n z.toList).flatten)[k * z.size + i]? = z.toList[i]? := by
      intro n
      induction n with
      | zero => intro k i hk; omega
      | succ n ih =>
        intro k i hk hi
        rw [List.replicate_succ, List.flatten_cons]
        cases k with
        | zero => rw [Nat.zero_mul, Nat.zero_add, List.getElem?_append_left (by simpa using hi)]
        | succ k =>
          rw [List.getElem?_append_right (by simp [Nat.add_mul]; omega)]
          have : (k + 1) * z.size + i - z.toList.length = k * z.size + i := by simp [Nat.add_mul]; omega
          rw [this]; exact ih k i (by omega) hi
    have e : j = j / z.size * z.size + j % z.size := by have := Nat.div_add_mod j z.size; rw [Nat.mul_comm] at this; omega
    rw [e, hfl n _ _ hk hm, ← e]
    simp [hj, hm]
  · rw [List.getElem?_eq_none (by simp; omega), List.getElem?_eq_none (by simp; omega)]

/-- One element set anew. -/
theorem set_flat2 {α : Type} (enc : α → List Value) (sz : Nat) (hs : ∀ x, (enc x).length = sz) (xs : List α) (j : Nat) (hj : j < xs.length) (y : α) :
    setFrom (xs.flatMap enc) (j * sz) (enc y) = (xs.set j y).flatMap enc := by
  have h1 : xs = xs.take j ++ xs[j] :: xs.drop (j + 1) := by simp
  have h2 : xs.set j y = xs.take j ++ y :: xs.drop (j + 1) := List.set_eq_take_append_cons_drop.trans (by rw [if_pos hj])
  rw [h2]
  conv => lhs; rw [h1]
  have h3 : ((xs.take j).flatMap enc).length = j * sz := by rw [flat_length enc sz hs]; simp; rw [Nat.min_eq_left (by omega)]
  rw [List.flatMap_append, List.flatMap_cons, List.flatMap_append, List.flatMap_cons, ← List.append_assoc, ← h3, setFrom_block _ _ _ _ (by rw [hs, hs]), List.append_assoc]
/-- The list that a marking lays. -/
def marksE {α : Type} (f : Nat → α) (n : Nat) : List α := (List.range n).map f
theorem marksE_length {α : Type} (f : Nat → α) (n : Nat) : (marksE f n).length = n := by simp [marksE]
theorem marksE_get {α : Type} (f : Nat → α) (n i : Nat) (h : i < n) : (marksE f n)[i]'(by rw [marksE_length]; exact h) = f i := by simp [marksE]
theorem marksE_set {α : Type} (f : Nat → α) (xs : List α) (i : Nat) (h : i < xs.length) : (marksE f i ++ xs.drop i).set i (f i) = marksE f (i + 1) ++ xs.drop (i + 1) := by
  rw [List.set_append, if_neg (by rw [marksE_length]; omega), marksE_length, Nat.sub_self, List.drop_eq_getElem_cons h, List.set_cons_zero]
  simp [marksE, List.range_succ]
theorem marksE_len {α : Type} (f : Nat → α) (xs : List α) (i : Nat) (h : i ≤ xs.length) : (marksE f i ++ xs.drop i).length = xs.length := by
  rw [List.length_append, marksE_length, List.length_drop]; omega
theorem marksE_at {α : Type} (f : Nat → α) (xs : List α) (i : Nat) (h : i < xs.length) : (marksE f i ++ xs.drop i)[i]'(by rw [marksE_len f xs i (by omega)]; exact h) = xs[i] := by
  rw [List.getElem_append_right (by rw [marksE_length]; omega)]; simp [marksE_length]
/-- Only the block of one slice has turned. -/
def Only (v : Value) (w w' : World) : Prop := w'.heap.size = w.heap.size ∧ w.grownBy w' v.ownBlock
theorem Only.set {v : Value} {w w' : World} (h : Only v w w') {g o : Nat} (hg : v.ownBlock = some g) (u : Value) : Only v w (w'.setCell ⟨g, o, none⟩ u) := by
  refine ⟨by simp [h.1], ⟨h.2.os, h.2.tape, h.2.output, by simp [h.1], fun q hq hne => ?_⟩⟩
  rw [hg] at hne
  exact (heap_setCell_other w' ⟨g, o, none⟩ q u (fun e => hne (by simp [e]))).trans (h.2.block q hq (by rw [hg]; exact hne))
theorem Only.refl (v : Value) (w : World) : Only v w w := ⟨rfl, rfl, rfl, rfl, Nat.le_refl _, fun _ _ _ => rfl⟩
theorem Only.new {v : Value} {w0 w w' : World} (h : Only v w w') (hn : New w0 w) (hv : ∀ k, v.ownBlock = some k → w0.heap.size ≤ k) : New w0 w' := hn.grown h.2 hv
theorem only_own {v u : Value} {w w' : World} {base : Nat} {e : TypeId} {sz n : Nat} {cs : List Value} (h : Only v w w') (hu : w.ownsRow base e sz u n cs) (hne : ∀ k, v.ownBlock = some k → k < base) : w'.ownsRow base e sz u n cs := by
  refine hu.kept h.2 ?_
  cases hb : u.ownBlock with
  | none => exact .inl rfl
  | some k => exact .inr (fun e => by have h1 := hu.lt k hb; have h2 := hne k e.symm; omega)
/-- A function that marks a slice of flat elements. -/
def MarkedE {α : Type} (enc : α → List Value) (sz : Nat) (f : Nat → α) (v : Value) (base n : Nat) (k' : Nat) (e : TypeId) (w : World) (en : Ending) (w' : World) : Prop :=
  en = .returned (.int .i64 (k' : Int)) ∧ Only v w w' ∧ w'.ownsRow base e sz v n ((marksE f n).flatMap enc)
theorem own_block_lt {v : Value} {w : World} {base : Nat} {e : TypeId} {sz n : Nat} {cs : List Value} (h : w.ownsRow base e sz v n cs) : ∀ k, v.ownBlock = some k → base ≤ k ∧ k < w.heap.size := h.lt

/-- A slice of numbers. -/
def RdI (w : World) (v : Value) (xs : List Int) : Prop := Rd w v xs.length (xs.map (Value.int .i64))
theorem RdI.new {w w' : World} {v : Value} {xs : List Int} (h : RdI w v xs) (hb : New w w') : RdI w' v xs := Rd.new h hb

/-- A slice of numbers, opened: its cells read so in every later world. -/
theorem RdI.open {w : World} {v : Value} {xs : List Int} (h : RdI w v xs) : ∃ (a : Option Addr) (cap : Nat), v = .slice a xs.length cap ∧ xs.length ≤ 9223372036854775807 ∧
    Hid (∀ (w' : World), New w w' → ∀ k (hk : k < xs.length), ∃ b off, a = some ⟨b, off, none⟩ ∧ b < w.heap.size ∧ w'.cell? ⟨b, off + k, none⟩ = some (.int .i64 xs[k])) := by
  obtain ⟨a, cap, rfl, hn, h0, hc⟩ := h
  refine ⟨a, cap, rfl, hn, Lib.hid fun w' hb k hk => ?_⟩
  obtain ⟨b, off, ha, hlt, hcell⟩ := hc k (.int .i64 xs[k]) (by simp [hk])
  exact ⟨b, off, ha, hlt, (hb.cell hlt).trans hcell⟩

theorem tdiv_bd {a b : Int} (L : Int) (h : -L ≤ a) (h' : a ≤ L) : -L ≤ a.tdiv b ∧ a.tdiv b ≤ L := by
  have h1 : (a.tdiv b).natAbs ≤ a.natAbs := by rw [Int.natAbs_tdiv]; exact Nat.div_le_self _ _
  omega
theorem floor_pos {a b : Int} (ha : 0 ≤ a) : a.tdiv b = a / b := Int.tdiv_eq_ediv_of_nonneg ha
theorem floor_zero {a b : Int} (h : a.tmod b = 0) : a.tdiv b = a / b := by
  rw [Int.tdiv_eq_ediv_of_dvd (Int.dvd_of_tmod_eq_zero h)]
theorem floor_neg {a b : Int} (hb : 1 ≤ b) (ha : a < 0) (h : a.tmod b ≠ 0) : a.tdiv b - 1 = a / b := by
  rw [Int.tdiv_eq_ediv, if_neg (by
    intro hh; rcases hh with hh | hh
    · omega
    · exact h (Int.tmod_eq_zero_of_dvd hh)), Int.sign_eq_one_of_pos (by omega)]; omega

theorem ediv_bd {a b L : Int} (hb : 1 ≤ b) (h : -L ≤ a) (h' : a ≤ L) : -L ≤ a / b ∧ a / b ≤ L := by
  constructor
  · rw [Int.le_ediv_iff_mul_le (by omega)]
    by_cases hL : 0 ≤ L
    · have : L * 1 ≤ L * b := Int.mul_le_mul_of_nonneg_left hb hL
      rw [Int.neg_mul]; omega
    · omega
  · by_cases h0 : 0 ≤ a
    · exact Int.le_trans (Int.ediv_le_self _ h0) h'
    · have : a / b ≤ 0 := by
        have := Int.ediv_neg_of_neg_of_pos (a := a) (b := b) (by omega) (by omega); omega
      omega

theorem any_take {α : Type} {p : α → Bool} {xs : List α} {k : Nat} (hk : k < xs.length) (h : (xs.take k).any p = false) (hp : p xs[k] = false) : (xs.take (k + 1)).any p = false := by
  rw [List.take_succ_eq_append_getElem hk, List.any_append, h]; simp [hp]
theorem any_at {α : Type} {p : α → Bool} {xs : List α} {k : Nat} (hk : k < xs.length) (hp : p xs[k] = true) : xs.any p = true := List.any_eq_true.2 ⟨_, List.getElem_mem hk, hp⟩
theorem any_take_all {α : Type} {p : α → Bool} {xs : List α} (h : (xs.take xs.length).any p = false) : xs.any p = false := by rwa [List.take_length] at h

/-- Blocks from B to E may have turned, and new ones came. -/
def Turned (B E : Nat) (w w' : World) : Prop := Below B w w' ∧ ∀ q, E ≤ q → q < w.heap.size → w'.heap[q]? = w.heap[q]?
theorem Turned.refl (B E : Nat) (w : World) : Turned B E w w := ⟨Below.refl _ _, fun _ _ _ => rfl⟩
theorem Turned.of_new {B E : Nat} {w w' : World} (hB : B ≤ w.heap.size) (h : New w w') : Turned B E w w' := ⟨Below.mono h hB, fun q _ hq => Below.block h q hq⟩
theorem Turned.trans {B E : Nat} {a b c : World} (h : Turned B E a b) (k : Turned B E b c) : Turned B E a c :=
  ⟨Below.trans h.1 k.1, fun q hq hl => (k.2 q hq (Nat.lt_of_lt_of_le hl (Below.size h.1))).trans (h.2 q hq hl)⟩
theorem Turned.of_only {B E : Nat} {v : Value} {w w' : World} (h : Only v w w') (hB : B ≤ w.heap.size) (hv : ∀ k, v.ownBlock = some k → B ≤ k ∧ k < E) : Turned B E w w' :=
  ⟨Below.grown (Below.refl B w) h.2 hB (fun k hk => (hv k hk).1), fun q hq hl => h.2.block q hl (fun e => by have := hv q e.symm; omega)⟩
theorem Turned.new {B E : Nat} {w0 w w' : World} (h : Turned B E w w') (hn : New w0 w) (hB : w0.heap.size ≤ B) : New w0 w' := Below.trans hn (Below.mono h.1 hB)
theorem Turned.own {B E : Nat} {w w' : World} {base : Nat} {e : TypeId} {sz : Nat} {v : Value} {n : Nat} {cs : List Value} (h : Turned B E w w') (hu : w.ownsRow base e sz v n cs) (hE : E ≤ base) : w'.ownsRow base e sz v n cs := by
  refine ⟨hu.1, ?_⟩
  rcases hu.2 with hn | ⟨g, cap, cur, rfl, hg, hgg, rest⟩
  · exact .inl hn
  · exact .inr ⟨g, cap, cur, rfl, hg, (h.2 g (by omega) (Array.getElem?_eq_some_iff.1 hgg).1).trans hgg, rest⟩
theorem Turned.rules {B E : Nat} {w w' : World} (h : Turned B E w w') : (∀ b o, b < B → w'.cell? ⟨b, o, none⟩ = w.cell? ⟨b, o, none⟩) ∧ (∀ b o, b < B → w'.frozen? ⟨b, o, none⟩ = w.frozen? ⟨b, o, none⟩) :=
  ⟨fun b o hb => Below.cell h.1 (p := ⟨b, o, none⟩) hb, fun b o hb => Below.frozen h.1 (p := ⟨b, o, none⟩) hb⟩
/-- All of the first n. -/
def allUp (p : Nat → Bool) (n : Nat) : Bool := (List.range n).all p
theorem allUp_succ (p : Nat → Bool) (n : Nat) : allUp p (n + 1) = (allUp p n && p n) := by simp [allUp, List.range_succ]
theorem allUp_next {p : Nat → Bool} {n : Nat} (h : allUp p n = true) (hp : p n = true) : allUp p (n + 1) = true := by rw [allUp_succ, h, hp]; rfl
theorem allUp_not {p : Nat → Bool} {n k : Nat} (hk : k < n) (hp : p k = false) : allUp p n = false := by
  rw [allUp, List.all_eq_false]; exact ⟨k, List.mem_range.2 hk, by simp [hp]⟩
theorem allUp_congr {p q : Nat → Bool} {n : Nat} (h : ∀ k, k < n → p k = q k) : allUp p n = allUp q n := by
  rw [Bool.eq_iff_iff, allUp, allUp, List.all_eq_true, List.all_eq_true]
  exact ⟨fun hp x hx => by rw [← h x (List.mem_range.1 hx)]; exact hp x hx, fun hp x hx => by rw [h x (List.mem_range.1 hx)]; exact hp x hx⟩

def inB (x a b : Int) : Bool := decide (a ≤ x) && decide (x ≤ b)
theorem inB_iff {x a b : Int} : inB x a b = true ↔ a ≤ x ∧ x ≤ b := by simp [inB]
theorem inB_not {x a b : Int} : inB x a b = false ↔ x < a ∨ b < x := by simp [inB]; omega
end Go.Proofs.YteielmihlfakgaaGreatDoor
/- How an argument of plain type reads, said once for all plain types: 'Sh.of' reckons a type's shape, 'Sh.Is' says what cells of that shape hold, 'Sh.is_of_trod' draws the second from the form's own reading. -/
namespace Go.Proofs.YteielmihlfakgaaGreatDoor
open Go Go.RowKit Go.ChangeShapes Go.WideShapes Go.ChangeAt
set_option linter.unusedVariables false
set_option linter.unusedSimpArgs false

inductive Sh where
  | int | str | bool | byte | nil
  | pair (a b : Sh)
  | slice (e : Sh)

def Sh.size : Sh → Nat
  | .int => 1
  | .str => 1
  | .bool => 1
  | .byte => 1
  | .nil => 0
  | .pair a b => a.size + b.size
  | .slice _ => 1

def Sh.fields (P : Program) (one : TypeId → Option Sh) : List Field → Nat → Option Sh
  | [], _ => some .nil
  | f :: r, off => match one f.type, Sh.fields P one r (off + P.cellsOf f.type) with
    | some a, some b => if f.offset = off ∧ P.cellsOf f.type = a.size then some (.pair a b) else none
    | _, _ => none

def Sh.of (P : Program) : Nat → TypeId → Option Sh
  | 0, _ => none
  | n + 1, t => match P.underlying t with
    | some (.int .i64) => some .int
    | some (.int .u8) => some .byte
    | some .string => some .str
    | some .bool => some .bool
    | some (.slice e) => match Sh.of P n e with
      | some s => if P.cellsOf e = s.size ∧ 0 < s.size then some (.slice s) else none
      | none => none
    | some (.struct fs) => match Sh.fields P (Sh.of P n) fs.toList 0 with
      | some s => if P.cellsOf t = s.size then some s else none
      | none => none
    | _ => none

def Sh.Is (w : World) : Sh → List Value → Prop
  | .int, cs => ∃ n : Int, cs = [.int .i64 n] ∧ (Lit.int .i64 n).wf = true
  | .str, cs => ∃ s : ByteArray, cs = [.string s] ∧ s.size ≤ 9223372036854775807
  | .bool, cs => ∃ b : Bool, cs = [.bool b]
  | .byte, cs => ∃ n : Int, cs = [.int .u8 n] ∧ (Lit.int .u8 n).wf = true
  | .nil, cs => cs = []
  | .pair a b, cs => ∃ xs ys, cs = xs ++ ys ∧ a.Is w xs ∧ b.Is w ys
  | .slice e, cs => ∃ (a : Option Addr) (n cap : Nat), cs = [.slice a n cap] ∧ n ≤ 9223372036854775807 ∧ ((a = none → n = 0) ∧ n ≤ cap) ∧
      ∀ k, k < n → ∃ es, e.Is w es ∧ ∃ b off, a = some ⟨b, off, none⟩ ∧ b < w.heap.size ∧ ∀ j u, es[j]? = some u → w.cell? ⟨b, off + (k * e.size + j), none⟩ = some u

theorem Sh.Is.length {w : World} : ∀ {s : Sh} {cs : List Value}, s.Is w cs → cs.length = s.size
  | .int, _, h => by obtain ⟨n, rfl, _⟩ := h; rfl
  | .str, _, h => by obtain ⟨n, rfl, _⟩ := h; rfl
  | .bool, _, h => by obtain ⟨n, rfl⟩ := h; rfl
  | .byte, _, h => by obtain ⟨n, rfl, _⟩ := h; rfl
  | .nil, _, h => by rw [show _ = [] from h]; rfl
  | .pair a b, _, h => by obtain ⟨xs, ys, rfl, h1, h2⟩ := h; simp [Sh.size, h1.length, h2.length]
  | .slice e, _, h => by obtain ⟨a, n, cap, rfl, _⟩ := h; rfl

section
variable {H : Type} {enc : TypeId × Value → H} {P : Program} {w : World} {spare : Nat → Bool} {held : Bool}

/-- A type's reading gives its shape: as a statement on the fuel. -/
def Sh.Gives (enc : TypeId × Value → H) (P : Program) (w : World) (spare : Nat → Bool) (held : Bool) (t : TypeId) (s : Sh) : Prop :=
  ∀ fuel cs x, DataW.trod enc P w 0 spare held fuel t cs = some x → s.Is w cs

theorem Sh.fields_is (one : TypeId → Option Sh) (hone : ∀ t s, one t = some s → Sh.Gives enc P w spare held t s) (n : Nat) (cs : List Value) :
    ∀ (fs : List Field) (off : Nat) (s : Sh) (xs : List (DataW H × List MemPlace)), Sh.fields P one fs off = some s →
      (∀ (i : Nat) (f : Field), fs[i]? = some f → DataW.trod enc P w 0 spare held n f.type ((cs.drop f.offset).take (P.cellsOf f.type)) = xs[i]?) → xs.length = fs.length →
      cs.length = off + s.size → s.Is w (cs.drop off)
  | [], off, s, xs, h, hx, hl, hc => by
    simp only [Sh.fields, Option.some.injEq] at h
    subst h
    simp only [Sh.size, Nat.add_zero] at hc
    show cs.drop off = []
    rw [← hc]; simp
  | f :: r, off, s, xs, h, hx, hl, hc => by
    simp only [Sh.fields] at h
    split at h
    · rename_i a b ha hb
      split at h
      · rename_i hoff
        obtain ⟨rfl, hsz⟩ := hoff
        cases h
        match xs, hl with
        | y :: ys, hl =>
          have h0 := hx 0 f rfl
          have i0 := hone _ _ ha _ _ _ (by simpa using h0)
          simp only [Sh.size] at hc
          have i1 := Sh.fields_is one hone n cs r (f.offset + P.cellsOf f.type) b ys hb (fun i g hg => by simpa using hx (i + 1) g (by simpa using hg)) (by simpa using hl) (by omega)
          refine ⟨_, _, ?_, i0, i1⟩
          rw [← List.drop_drop, List.take_append_drop]
      · cases h
    · cases h

theorem cells?_cell {base : Nat} {a : Addr} {n : Nat} {cs : List Value} (h : w.cells? base a n = some cs) : cs.length = n ∧ ∀ j u, cs[j]? = some u → w.cell? (a.add j) = some u := by
  obtain ⟨h0, h1, h2⟩ := World.cells?_some h
  refine ⟨h1, fun j u hu => ?_⟩
  have hj : j < n := by rw [← h1]; exact (List.getElem?_eq_some_iff.1 hu).1
  rw [h2 j hj]; exact hu

theorem addr_plain {a : Addr} {j : Nat} {u : Value} (h : w.cell? (a.add j) = some u) : ∃ b off, a = ⟨b, off, none⟩ ∨ 0 < j := by
  obtain ⟨b, off, spot⟩ := a
  by_cases hj : j = 0
  · subst hj
    cases spot with
    | none => exact ⟨b, off, .inl rfl⟩
    | some q =>
      simp only [Addr.add, ↓reduceIte] at h
      unfold World.cell? at h
      split at h <;> simp at h
  · exact ⟨b, off, .inr (by omega)⟩

theorem Sh.gives_of : ∀ (n : Nat) (t : TypeId) (s : Sh), Sh.of P n t = some s → Sh.Gives enc P w spare held t s
  | 0, _, _, h => by simp [Sh.of] at h
  | n + 1, t, s, h => by
    intro fuel cs x hx
    simp only [Sh.of] at h
    split at h
    · rename_i hu; cases h
      obtain ⟨k, rfl, _, hw⟩ := DataW.trod_int hu hx
      exact ⟨k, rfl, hw⟩
    · rename_i hu; cases h
      obtain ⟨k, rfl, _, hw⟩ := DataW.trod_int hu hx
      exact ⟨k, rfl, hw⟩
    · rename_i hu; cases h
      obtain ⟨k, rfl, _, hw⟩ := DataW.trod_string hu hx
      exact ⟨k, rfl, by simpa [maxLen] using hw⟩
    · rename_i hu; cases h
      cases fuel with
      | zero => simp [DataW.trod] at hx
      | succ m =>
        unfold DataW.trod at hx
        rw [hu] at hx
        split at hx <;> simp_all [Sh.Is]
    · rename_i e hu
      split at h
      · rename_i se hse
        split at h
        · rename_i hsz
          cases h
          rcases DataW.trod_slice hu hx with ⟨rfl, _⟩ | ⟨a, len, cap, elems, rest, m, _, rfl, _, hb, hl, hm, hlen, hel, _⟩
          · exact ⟨none, 0, 0, rfl, by omega, ⟨fun _ => rfl, Nat.le_refl _⟩, fun k hk => by omega⟩
          · refine ⟨some a, len, cap, rfl, by simp only [maxLen] at hm; omega, ⟨(fun h => by cases h), by omega⟩, fun k hk => ?_⟩
            have h1 := hel k hk
            rw [List.getElem?_eq_getElem (by omega), Option.bind_eq_some_iff] at h1
            obtain ⟨es, hes, hy⟩ := h1
            have hi := Sh.gives_of n e se hse _ _ _ hy
            obtain ⟨hlen2, hcell⟩ := cells?_cell hes
            have hsp : 0 < es.length := by rw [hlen2, hsz.1]; exact hsz.2
            have h00 := hcell 0 es[0] (by simp [hsp])
            -- the first element's first cell tells that the address is plain
            have ha : ∃ b off, a = ⟨b, off, none⟩ ∧ b < w.heap.size := by
              have hk0 := hel 0 (by omega)
              rw [List.getElem?_eq_getElem (by omega), Option.bind_eq_some_iff] at hk0
              obtain ⟨es0, hes0, hy0⟩ := hk0
              obtain ⟨hlen0, hcell0⟩ := cells?_cell hes0
              have hsp0 : 0 < es0.length := by rw [hlen0, hsz.1]; exact hsz.2
              have q := hcell0 0 es0[0] (by simp [hsp0])
              have q2 := World.block_lt_of_cell? w _ q
              obtain ⟨b, off, hh⟩ := addr_plain (a := a) (j := 0) (by simpa [Addr.add] using q)
              rcases hh with rfl | hh
              · refine ⟨b, off, rfl, ?_⟩
                simpa [Addr.add] using q2
              · omega
            obtain ⟨b, off, rfl, hbs⟩ := ha
            refine ⟨es, hi, b, off, rfl, hbs, fun j u hu => ?_⟩
            have := hcell j u hu
            rw [hsz.1] at this
            have e1 : ((⟨b, off, none⟩ : Addr).add (k * se.size)).add j = ⟨b, off + (k * se.size + j), none⟩ := by
              unfold Addr.add
              by_cases h1 : k * se.size = 0 <;> by_cases h2 : j = 0 <;> simp [h1, h2, Nat.add_assoc]
            rw [e1] at this
            exact this
        · cases h
      · cases h
    · rename_i fs hu
      split at h
      · rename_i sf hsf
        split at h
        · rename_i hsz
          cases h
          obtain ⟨xs, m, _, _, hcl, hxl, hxs⟩ := DataW.trod_struct hu hx
          have := Sh.fields_is (Sh.of P n) (fun t s hs => Sh.gives_of n t s hs) m cs fs.toList 0 _ xs hsf (fun i f hf => hxs i f (by simpa using hf)) (by simpa using hxl) (by rw [hcl, hsz]; omega)
          simpa using this
        · cases h
      · cases h
    · cases h

theorem Sh.is_of_trod {t : TypeId} {v : Value} {d : DataW H} {p : List MemPlace} {n : Nat} {s : Sh} (hs : Sh.of P n t = some s) (h : DataW.Trod enc P w 0 spare held t v d p) : s.Is w v.cells.toList := by
  obtain ⟨fuel, hf⟩ := h
  exact Sh.gives_of n t s hs _ _ _ hf
end

/-- A slice whose elements are flat: one list of them. -/
theorem rd_of_slice {α : Type} {w : World} {e : Sh} {v : Value} (enc : α → List Value) (dec : ∀ cs, e.Is w cs → ∃ x, cs = enc x) (hs : ∀ x, (enc x).length = e.size) (h : (Sh.slice e).Is w [v]) :
    ∃ xs : List α, Rd w v xs.length (xs.flatMap enc) := by
  obtain ⟨a, n, cap, he, hn, h0, hel⟩ := h
  have hv : v = .slice a n cap := by simpa using he
  subst hv
  have key : ∀ m, m ≤ n → ∃ xs : List α, xs.length = m ∧ ∀ k (hk : k < xs.length), ∃ b off, a = some ⟨b, off, none⟩ ∧ b < w.heap.size ∧ ∀ j u, (enc xs[k])[j]? = some u → w.cell? ⟨b, off + (k * e.size + j), none⟩ = some u := by
    intro m
    induction m with
    | zero => exact fun _ => ⟨[], rfl, fun k hk => by simp at hk⟩
    | succ m ih =>
      intro hm
      obtain ⟨xs, hl, hx⟩ := ih (by omega)
      obtain ⟨es, hes, b, off, ha, hb, hc⟩ := hel m (by omega)
      obtain ⟨x, rfl⟩ := dec es hes
      refine ⟨xs ++ [x], by simp [hl], fun k hk => ?_⟩
      by_cases hkm : k < m
      · obtain ⟨b', off', h1, h2, h3⟩ := hx k (by omega)
        refine ⟨b', off', h1, h2, fun j u hu => h3 j u ?_⟩
        rwa [List.getElem_append_left (by omega)] at hu
      · have hkm' : k = m := by simp [hl] at hk; omega
        subst hkm'
        refine ⟨b, off, ha, hb, fun j u hu => hc j u ?_⟩
        rw [List.getElem_append_right (by omega)] at hu
        simpa [hl] using hu
  obtain ⟨xs, hl, hx⟩ := key n (Nat.le_refl _)
  refine ⟨xs, a, cap, by rw [hl], by rw [hl]; exact hn, by rw [hl]; exact h0, fun j u hu => ?_⟩
  obtain ⟨k, hk, i, hi, rfl, hu'⟩ := flat_get enc e.size hs xs j u hu
  obtain ⟨b, off, h1, h2, h3⟩ := hx k hk
  exact ⟨b, off, h1, h2, h3 i u hu'⟩
theorem rdI_of_sh {w : World} {v : Value} (h : (Sh.slice .int).Is w [v]) : ∃ xs : List Int, RdI w v xs := by
  obtain ⟨xs, hx⟩ := rd_of_slice (w := w) (e := .int) (v := v) (fun x : Int => [.int .i64 x]) (fun cs hh => by obtain ⟨n, hn, _⟩ := hh; exact ⟨n, hn⟩) (fun _ => rfl) h
  rw [flat_one] at hx
  exact ⟨xs, hx⟩
theorem one_of_slice {w : World} {e : Sh} {cs : List Value} (h : (Sh.slice e).Is w cs) : ∃ v, cs = [v] := by
  obtain ⟨a, n, cap, rfl, _⟩ := h; exact ⟨_, rfl⟩

/-- A slice of bytes. -/
theorem rdBytes_of_sh {w : World} {v : Value} (h : (Sh.slice .byte).Is w [v]) : ∃ bs : List Int, Rd w v bs.length (bs.map (Value.int .u8)) ∧ ∀ c ∈ bs, 0 ≤ c ∧ c ≤ 255 := by
  obtain ⟨xs, hx⟩ := rd_of_slice (w := w) (e := .byte) (v := v) (fun x : {x : Int // 0 ≤ x ∧ x ≤ 255} => [.int .u8 x.val]) (fun cs hh => by
    obtain ⟨n, hn, hw⟩ := hh
    refine ⟨⟨n, ?_⟩, hn⟩
    simp [Lit.wf] at hw
    have e1 : IntKind.u8.min = 0 := by decide
    have e2 : IntKind.u8.max = 255 := by decide
    exact ⟨by omega, by omega⟩) (fun _ => rfl) h
  refine ⟨xs.map Subtype.val, ?_, ?_⟩
  · rw [flat_one] at hx
    rw [List.length_map, List.map_map]
    exact hx
  · intro c hc
    obtain ⟨y, _, rfl⟩ := List.mem_map.1 hc
    exact y.property
/-- A struct's value is written out by its cells. -/
theorem agg_of_okWide {P : Program} {w : World} {r : Reach} {b0 : Nat} {t : TypeId} {fs : Array Field} {v : Value} (ht : P.underlying t = some (.struct fs)) (h : Value.okWide P w r b0 t v) : v = .agg v.cells := by
  obtain ⟨cs, rfl, _⟩ := okWide_struct ht h
  rfl
end Go.Proofs.YteielmihlfakgaaGreatDoor
/- What every law's row shares: the arguments and the listed variables read behind the call as before. -/
namespace Go.Proofs.YteielmihlfakgaaGreatDoor
open Go Go.RowKit Go.ChangeShapes Go.WideShapes Go.ChangeAt Go.WideElems
set_option linter.unusedVariables false
set_option linter.unusedSimpArgs false

theorem trodAll_new {H : Type} {enc : TypeId × Value → H} {P : Program} (hl : laidOutB P = true) {W W' : World} (hb : New W W') :
    ∀ (ts : List TypeId) (vs : List Value) (ds : List (DataW H)) (ps : List MemPlace), (∀ t ∈ ts, P.readableRec t = true ∧ t < P.types.size) →
      DataW.TrodAll enc P W 0 (fun _ => true) true ts vs ds ps → (∀ x ∈ ps, x.block < W.heap.size) → DataW.TrodAll enc P W' 0 (fun b => decide (b < W.heap.size)) true ts vs ds ps
  | [], [], [], _, _, h, _ => h
  | t :: ts, v :: vs, d :: ds, ps, hr, h, hlt => by
    obtain ⟨p, q, h1, h2, rfl⟩ := h
    obtain ⟨r1, r2⟩ := hr t (by simp)
    exact ⟨p, q, Below.trod hl r1 r2 h1 hb (fun x hx => hlt x (by simp [hx])), trodAll_new hl hb ts vs ds q (fun t ht => hr t (by simp [ht])) h2 (fun x hx => hlt x (by simp [hx])), rfl⟩
  | [], _ :: _, _, _, _, h, _ => by simp [DataW.TrodAll] at h
  | [], [], _ :: _, _, _, h, _ => by simp [DataW.TrodAll] at h
  | _ :: _, [], _, _, _, h, _ => by simp [DataW.TrodAll] at h
  | _ :: _, _ :: _, [], _, _, h, _ => by simp [DataW.TrodAll] at h

theorem trodVars_new {H : Type} {enc : TypeId × Value → H} {P : Program} (hl : laidOutB P = true) {W W' : World} (hb : New W W') :
    ∀ (ns : List String) (ds : List (DataW H)) (ps : List MemPlace), (∀ n ∈ ns, ∀ g t, P.globalNamed n = some g → (P.globals[g]?).map (·.type) = some t → P.readableRec t = true ∧ t < P.types.size) →
      DataW.TrodVars enc P W (fun _ => true) ns ds ps → (∀ x ∈ ps, x.block < W.heap.size) → DataW.TrodVars enc P W' (fun b => decide (b < W.heap.size)) ns ds ps
  | [], [], _, _, h, _ => h
  | n :: ns, d :: ds, ps, hr, h, hlt => by
    obtain ⟨g, t, cs, fuel, p, q, hg, ht, hv, hd, hrest, rfl⟩ := h
    obtain ⟨r1, r2⟩ := hr n (by simp) g t hg ht
    have hg1 : g < W.heap.size := by
      unfold World.var? at hv
      simp only [hg, Option.bind_some] at hv
      rcases Nat.lt_or_ge g W.heap.size with h | h
      · exact h
      · rw [Array.getElem?_eq_none h] at hv; cases hv
    refine ⟨g, t, cs, fuel, p, q, hg, ht, var?_below hb hg hg1 hv, ?_, trodVars_new hl hb ns ds q (fun n hn => hr n (by simp [hn])) hrest (fun x hx => hlt x (by simp [hx])), rfl⟩
    exact DataW.trod_stays (kids_book hl r1) (book_sized r1) (fun h => by cases h) ⟨r2, book_self t⟩ hd (fun x hx => Below.same hb (hlt x (by simp [hx]))) (fun x hx => by simpa using hlt x (by simp [hx]))
  | [], _ :: _, _, _, h, _ => by simp [DataW.TrodVars] at h
  | _ :: _, [], _, _, h, _ => by simp [DataW.TrodVars] at h

/-- A LAW's POST: it returned true, and what was there when it began has not turned. -/
theorem law_post {H : Type} {enc : TypeId × Value → H} {P : Program} {f : Func} {s : ChangeSpec} {W W' : World} {args : Array Value} {ds gs : List (DataW H)} {before : List MemPlace} {tb : TypeId}
    (hl : laidOutB P = true) (hr : ∀ t ∈ f.params.toList, P.readableRec t = true ∧ t < P.types.size)
    (hv : ∀ n ∈ s.vars, ∀ g t, P.globalNamed n = some g → (P.globals[g]?).map (·.type) = some t → P.readableRec t = true ∧ t < P.types.size)
    (hrt : f.resultTypes = #[tb]) (htb : P.underlying tb = some .bool)
    (hW : DataW.Whole enc P f.params.toList s.vars false W args.toList ds gs before)
    (hs : s.fn H (ds ++ gs) = { results := [.lit (.bool true)], args := ds, vars := gs }) (hb : New W W') :
    s.post enc P f false true false false W args (.bool true) W' := by
  have hlt : ∀ x ∈ before, x.block < W.heap.size := fun x hx => hW.lt x hx
  have hW' := hW
  obtain ⟨p, q, hA, hV, rfl, hfz, hnd⟩ := hW
  refine ⟨ds, gs, p ++ q, [], p, q, hW', ?_, ?_, ?_, Below.frame hb _, fun h => by cases h⟩
  · rw [hs, hrt]
    exact trodAll_mk1 (shut_bool htb true)
  · rw [hs]
    exact trodAll_new hl hb _ _ _ _ hr hA (fun x hx => hlt x (by simp [hx]))
  · rw [hs]
    exact trodVars_new hl hb _ _ _ hv hV (fun x hx => hlt x (by simp [hx]))
end Go.Proofs.YteielmihlfakgaaGreatDoor
/- Closed facts of this seat's program. -/
namespace Go.Proofs.YteielmihlfakgaaGreatDoor
open Go Go.Proofs
theorem laidOut : laidOutB Tryz.prog = true := by kernel_rfl
theorem reads_of {l : List TypeId} (h : (l.all fun t => Tryz.prog.readableRec t && decide (t < Tryz.prog.types.size)) = true) : ∀ t ∈ l, Tryz.prog.readableRec t = true ∧ t < Tryz.prog.types.size := fun t ht => by
  have := List.all_eq_true.1 h t ht
  rw [Bool.and_eq_true, decide_eq_true_eq] at this
  exact this
end Go.Proofs.YteielmihlfakgaaGreatDoor
/- A law's code, opened; 'big'. -/
namespace Go.Proofs.YteielmihlfakgaaGreatDoor
open Go Go.Proofs Go.RowKit Go.ChangeShapes Go.WideShapes Go.ChangeAt
set_option linter.unusedVariables false
set_option linter.unusedSimpArgs false
set_option maxRecDepth 100000
theorem sh_code : Sh.of Tryz.prog 5 22 = some (.slice .byte) := by kernel_rfl
theorem openCode {H : Type} {enc : TypeId × Value → H} {W : World} {r : Reach} {base : Nat} {v : Value} {d : DataW H} {p : List MemPlace} (h : DataW.Trod enc Tryz.prog W 0 (fun _ => true) true 22 v d p) (o : Value.okWide Tryz.prog W r base 22 v) :
    ∃ bs : List Int, Rd W v bs.length (bs.map (Value.int .u8)) ∧ ∀ c ∈ bs, 0 ≤ c ∧ c ≤ 255 := by
  obtain ⟨a, n, cap, rfl⟩ := okWide_slice Tryz.underlying22 o
  exact rdBytes_of_sh (Sh.is_of_trod sh_code h)
theorem big_any (v : Value) (n : Nat) (cs : List Value) (w : World) (hv : Rd w v n cs) : Calls Tryz.prog 5 #[v] w fun e w' => e = .returned (.bool (decide (4096 < (n : Int)))) ∧ w = w' := by
  obtain ⟨a, cap, rfl, hn, h0, hc⟩ := hv
  clear hc
  go_enter Tryz.func5, Tryz.ntmps5
  go_wp2_with fail
  go_ret
  exact ⟨ret_bool (by simp), rfl⟩
end Go.Proofs.YteielmihlfakgaaGreatDoor
/- The keywords' table: what the row's list gives, and what a walk reads. -/
namespace Go.Proofs.YteielmihlfakgaaGreatDoor
open Go Go.RowKit Go.ChangeShapes Go.WideShapes Go.ChangeAt
set_option linter.unusedVariables false
set_option linter.unusedSimpArgs false
set_option maxRecDepth 100000
def kw (l : List UInt8) : ByteArray := ⟨l.toArray⟩
def keyData : List (List UInt8) := [[112, 114, 111, 103, 114, 97, 109], [105, 110], [118, 97, 114], [111, 117, 116], [103, 117, 97, 114, 100], [101, 110, 100], [97, 110, 100], [111, 114], [110, 111, 116], [116, 114, 117, 101], [102, 97, 108, 115, 101], [111, 110], [111, 102, 102], [114, 105, 115, 101], [108, 97, 116, 99, 104], [99, 111, 117, 110, 116], [112, 97, 105, 114]]
def keys : List ByteArray := keyData.map kw
theorem keys_len : keys.length = 17 := rfl
theorem cells_of_stab {H : Type} {enc : TypeId × Value → H} {P : Program} {w : World} {base : Nat} {sp : Nat → Bool} {held : Bool} {fuel : Nat} {t e : TypeId} {n : Nat} {cs : List Value} {zs : List (List UInt8)} {p : List MemPlace}
    (ht : P.underlying t = some (.array n e)) (he : P.underlying e = some .string) (hce : P.cellsOf e = 1) (hct : P.cellsOf t = n)
    (h : DataW.trod enc P w base sp held fuel t cs = some (.agg (zs.map fun z => .lit (.string z)), p)) : cs = zs.map fun z => Value.string (kw z) := by
  cases fuel with
  | zero => simp [DataW.trod] at h
  | succ fuel =>
    simp only [DataW.trod, ht, hce, hct, Nat.mul_one] at h
    split at h
    · rename_i hl
      obtain ⟨xs, hm, hx⟩ := Option.map_eq_some_iff.1 h
      have hxs : xs.map (·.1) = zs.map fun z => (DataW.lit (.string z) : DataW H) := by
        have := congrArg Prod.fst hx
        simpa using this
      have hxl : xs.length = n := by simpa using Lib.mapM_length hm
      have hzl : zs.length = n := by
        have := congrArg List.length hxs
        simp at this
        omega
      apply List.ext_getElem?
      intro i
      by_cases hi : i < n
      · obtain ⟨b, hb, hf⟩ := Lib.mapM_at hm i i (by simp [hi])
        obtain ⟨z, hc, rfl, _⟩ := DataW.trod_string he hf
        have h1 : cs[i]? = some (.string z) := by
          have := congrArg (·[0]?) hc
          simpa [List.getElem?_take, List.getElem?_drop] using this
        have h2 : (xs.map (·.1))[i]? = some (DataW.lit (.string z.data.toList) : DataW H) := by simp [hb]
        rw [hxs] at h2
        simp only [List.getElem?_map, Option.map_eq_some_iff, DataW.lit.injEq, Lit.string.injEq] at h2
        obtain ⟨z', hz', rfl⟩ := h2
        simp [h1, hz', kw]
      · rw [List.getElem?_eq_none (by omega), List.getElem?_eq_none (by simp; omega)]
    · cases h
theorem keys_of_head {P : Program} {W : World} {name : String} {rest : List (String × DataW Unit)} {g : Nat} {t e : TypeId} {n : Nat} {zs : List (List UInt8)}
    (hg : P.globalNamed name = some g) (hty : (P.globals[g]?).map (·.type) = some t) (ht : P.underlying t = some (.array n e)) (he : P.underlying e = some .string) (hce : P.cellsOf e = 1) (hct : P.cellsOf t = n)
    (h : laidMet P ((name, .agg (zs.map fun z => .lit (.string z))) :: rest) W) : W.var? P name = some (zs.map fun z => Value.string (kw z)).toArray := by
  obtain ⟨ps, ⟨g', t', cs, fuel, p, q, hg', ht', hvar, hd, _, _⟩, _⟩ := h
  obtain rfl := Option.some.inj (hg.symm.trans hg')
  obtain rfl := Option.some.inj (hty.symm.trans ht')
  rw [hvar, ← cells_of_stab ht he hce hct hd]
/-- The table lies in block 0. -/
def KW (w : World) : Prop := Rd w (.slice (some ⟨0, 0, none⟩) 17 17) 17 (keys.map Value.string)
theorem KW.new {w w' : World} (h : KW w) (hn : New w w') : KW w' := Rd.new h hn
theorem KW.of_var {W : World} (h : W.var? Tryz.prog "loop.example/g00916/impl.keywords" = some (keyData.map fun z => Value.string (kw z)).toArray) : KW W := by
  have hg : Tryz.prog.globalNamed "loop.example/g00916/impl.keywords" = some 0 := by kernel_rfl
  have hlt : 0 < W.heap.size := by
    unfold World.var? at h
    simp only [hg, Option.bind_some] at h
    rcases Nat.lt_or_ge 0 W.heap.size with hl | hl
    · exact hl
    · rw [Array.getElem?_eq_none hl] at h; cases h
  refine ⟨_, 17, rfl, by omega, ⟨(fun h => by cases h), Nat.le_refl _⟩, fun j u hu => ⟨0, 0, rfl, hlt, ?_⟩⟩
  have := World.var?_cell hg h j
  rw [Nat.zero_add]
  rw [this]
  simpa [keys, List.map_map] using hu
theorem keys_of_laid {W : World} (h : laidMetH Tryz.prog [("loop.example/g00916/impl.keywords", .agg (keyData.map fun z => .lit (.string z)))] W) : KW W :=
  KW.of_var (keys_of_head (g := 0) (rest := []) (by kernel_rfl) (by kernel_rfl) Tryz.underlying64 Tryz.underlying9 (by kernel_rfl) (by kernel_rfl) h)
end Go.Proofs.YteielmihlfakgaaGreatDoor
/- Reads through a new block. -/
namespace Go.Proofs.YteielmihlfakgaaGreatDoor
open Go Go.Proofs
theorem cell_alloc_old (w : World) (o : Obj) (b k : Nat) (h : b < w.heap.size) : (w.alloc o).cell? ⟨b, k, none⟩ = w.cell? ⟨b, k, none⟩ := (New.alloc (New.refl w) o).cell h
theorem cell_alloc_new (w : World) (cs : Array Value) (t : TypeId) (b k : Nat) (h : b = w.heap.size) : (w.alloc (.cells cs t)).cell? ⟨b, k, none⟩ = cs[k]? := by subst h; simp
theorem alloc_one {w : World} {b : Nat} {v : Value} {e : TypeId} (h : b = w.heap.size) : (w.alloc (.cells #[v] e)).cell? ⟨b, 0, none⟩ = some v := by subst h; simp
theorem own_empty {w : World} {base : Nat} {e : TypeId} {sz : Nat} (h : base ≤ w.heap.size) : (w.alloc (.cells #[] e)).ownsRow base e sz (.slice (some ⟨w.heap.size, 0, none⟩) 0 0) 0 [] := by
  refine ⟨by simp, .inr ⟨w.heap.size, 0, #[], rfl, h, Array.getElem?_push_size, Nat.le_refl _, Nat.zero_le _, by simp, by simp⟩⟩
end Go.Proofs.YteielmihlfakgaaGreatDoor
/- Drawn numbers: the source at block S, and worlds that differ by draws from it and by new blocks. No program in sight. -/
namespace Go.Proofs.YteielmihlfakgaaGreatDoor
open Go Go.RowKit
set_option linter.unusedVariables false
set_option linter.unusedSimpArgs false

/-- w' is w but for block S and new blocks. -/
structure DrO (S : Nat) (w w' : World) : Prop where
  os : w'.os = w.os
  tape : w'.tape = w.tape
  output : w'.output = w.output
  size : w.heap.size ≤ w'.heap.size
  other : ∀ k, k < w.heap.size → k ≠ S → w'.heap[k]? = w.heap[k]?
theorem DrO.refl (S : Nat) (w : World) : DrO S w w := ⟨rfl, rfl, rfl, Nat.le_refl _, fun _ _ _ => rfl⟩
theorem DrO.trans {S : Nat} {a b c : World} (h : DrO S a b) (k : DrO S b c) : DrO S a c :=
  ⟨k.os.trans h.os, k.tape.trans h.tape, k.output.trans h.output, Nat.le_trans h.size k.size, fun i hi hn => (k.other i (Nat.lt_of_lt_of_le hi h.size) hn).trans (h.other i hi hn)⟩
theorem DrO.of_new {S : Nat} {w w' : World} (h : New w w') : DrO S w w' := ⟨h.os, h.tape, h.output, h.size, fun k hk _ => h.block k hk⟩
theorem DrO.setS {S : Nat} {a w : World} (h : DrO S a w) (o : Nat) (u : Value) : DrO S a (w.setCell ⟨S, o, none⟩ u) :=
  h.trans ⟨rfl, rfl, rfl, by simp [World.setCell], fun k _ hn => Below.heap_setCell _ _ _ _ hn⟩

/-- A slice that reads below block B. -/
def RdB (B : Nat) (w : World) (v : Value) (n : Nat) (cs : List Value) : Prop :=
  ∃ (a : Option Addr) (cap : Nat), v = .slice a n cap ∧ n ≤ 9223372036854775807 ∧ ((a = none → n = 0) ∧ n ≤ cap) ∧
    ∀ j u, cs[j]? = some u → ∃ b off, a = some ⟨b, off, none⟩ ∧ b < B ∧ w.cell? ⟨b, off + j, none⟩ = some u
theorem Rd.toB {w : World} {v : Value} {n : Nat} {cs : List Value} (h : Rd w v n cs) : RdB w.heap.size w v n cs := h
theorem RdB.same {B : Nat} {w w' : World} {v : Value} {n : Nat} {cs : List Value} (h : RdB B w v n cs) (hk : ∀ k, k < B → w'.heap[k]? = w.heap[k]?) : RdB B w' v n cs := by
  obtain ⟨a, cap, rfl, hn, h0, hc⟩ := h
  refine ⟨a, cap, rfl, hn, h0, fun j u hu => ?_⟩
  obtain ⟨b, off, ha, hlt, hcell⟩ := hc j u hu
  exact ⟨b, off, ha, hlt, (World.cell?_of_block (hk b hlt)).trans hcell⟩
/-- The source: a code's bytes, read below B; how many are used; the seed. -/
structure SrcE (B S : Nat) (w : World) (cv : Value) (bs : List Int) (p : Nat) (sd : Int) : Prop where
  code : RdB B w cv bs.length (bs.map (Value.int .u8))
  below : B ≤ S
  bytes : ∀ c ∈ bs, 0 ≤ c ∧ c ≤ 255
  len : bs.length ≤ 4096
  place : p ≤ bs.length
  seed0 : 0 ≤ sd
  seed1 : sd ≤ 2147483646
  cells : ∃ T, w.heap[S]? = some (.cells #[cv, .int .i64 (p : Int), .int .i64 sd] T (0, 0))
def Src (B S : Nat) (w : World) : Prop := ∃ cv bs p sd, SrcE B S w cv bs p sd
theorem heap_lt {w : World} {S : Nat} {o : Obj} (h : w.heap[S]? = some o) : S < w.heap.size := (Array.getElem?_eq_some_iff.1 h).1
theorem SrcE.lt {B S : Nat} {w : World} {cv : Value} {bs : List Int} {p : Nat} {sd : Int} (h : SrcE B S w cv bs p sd) : S < w.heap.size := by
  obtain ⟨T, h⟩ := h.cells; exact heap_lt h
theorem Src.lt {B S : Nat} {w : World} (h : Src B S w) : S < w.heap.size := by
  obtain ⟨_, _, _, _, h⟩ := h; exact h.lt
theorem Src.le {B S : Nat} {w : World} (h : Src B S w) : B ≤ S := by
  obtain ⟨_, _, _, _, h⟩ := h; exact h.below
theorem SrcE.moved {B S : Nat} {w w' : World} {cv : Value} {bs : List Int} {p : Nat} {sd : Int} (h : SrcE B S w cv bs p sd) (hk : ∀ k, k < B → w'.heap[k]? = w.heap[k]?) (hs : w'.heap[S]? = w.heap[S]?) : SrcE B S w' cv bs p sd := by
  obtain ⟨hc, h0, hb, hl, hp, h4, h5, T, hT⟩ := h
  exact ⟨hc.same hk, h0, hb, hl, hp, h4, h5, T, hs.trans hT⟩
theorem SrcE.same {B S : Nat} {w w' : World} {cv : Value} {bs : List Int} {p : Nat} {sd : Int} (h : SrcE B S w cv bs p sd) (ho : DrO S w w') (hs : w'.heap[S]? = w.heap[S]?) : SrcE B S w' cv bs p sd :=
  h.moved (fun k hk => ho.other k (by have := h.lt; have := h.below; omega) (by have := h.below; omega)) hs
theorem heap_alloc_self (w : World) (o : Obj) : (w.alloc o).heap[w.heap.size]? = some o := by show (w.heap.push o)[w.heap.size]? = some o; simp
theorem heap_setCell_self {w : World} {S o : Nat} {c : Array Value} {T : TypeId} {f : Nat × Nat} (h : w.heap[S]? = some (.cells c T f)) (u : Value) : (w.setCell ⟨S, o, none⟩ u).heap[S]? = some (.cells (c.setIfInBounds o u) T f) := by
  simp [World.setCell, Array.getElem?_modify, h]
theorem SrcE.set1 {B S : Nat} {w : World} {cv : Value} {bs : List Int} {p q : Nat} {sd : Int} (h : SrcE B S w cv bs p sd) (hq : q ≤ bs.length) : SrcE B S (w.setCell ⟨S, 1, none⟩ (.int .i64 (q : Int))) cv bs q sd := by
  obtain ⟨T, hc⟩ := h.cells
  exact ⟨h.code.same (fun k hk => Below.heap_setCell _ _ _ _ (by have := h.below; show k ≠ S; omega)), h.below, h.bytes, h.len, hq, h.seed0, h.seed1, T, heap_setCell_self hc _⟩
theorem SrcE.set2 {B S : Nat} {w : World} {cv : Value} {bs : List Int} {p : Nat} {sd s' : Int} (h : SrcE B S w cv bs p sd) (h0 : 0 ≤ s') (h1 : s' ≤ 2147483646) : SrcE B S (w.setCell ⟨S, 2, none⟩ (.int .i64 s')) cv bs p s' := by
  obtain ⟨T, hc⟩ := h.cells
  exact ⟨h.code.same (fun k hk => Below.heap_setCell _ _ _ _ (by have := h.below; show k ≠ S; omega)), h.below, h.bytes, h.len, h.place, h0, h1, T, heap_setCell_self hc _⟩
theorem SrcE.new {B S : Nat} {w w' : World} {cv : Value} {bs : List Int} {p : Nat} {sd : Int} (h : SrcE B S w cv bs p sd) (hn : New w w') : SrcE B S w' cv bs p sd := h.same (DrO.of_new hn) (hn.block S h.lt)
/-- What a walk wants of the source. -/
theorem SrcE.open {B S : Nat} {w : World} {cv : Value} {bs : List Int} {p : Nat} {sd : Int} (h : SrcE B S w cv bs p sd) :
    w.cell? ⟨S, 0, none⟩ = some cv ∧ w.cell? ⟨S, 1, none⟩ = some (.int .i64 (p : Int)) ∧ w.cell? ⟨S, 2, none⟩ = some (.int .i64 sd) ∧ w.frozen? ⟨S, 1, none⟩ = false ∧ w.frozen? ⟨S, 2, none⟩ = false := by
  obtain ⟨T, hc⟩ := h.cells
  exact ⟨by simp [World.cell?, hc], by simp [World.cell?, hc], by simp [World.cell?, hc], by simp [World.frozen?, hc], by simp [World.frozen?, hc]⟩

/-- w' is w but for draws from the source at S, and new blocks. -/
structure Dr (S : Nat) (w w' : World) : Prop where
  o : DrO S w w'
  src : ∀ {B}, Src B S w → Src B S w'
theorem Dr.refl (S : Nat) (w : World) : Dr S w w := ⟨DrO.refl S w, id⟩
theorem Dr.trans {S : Nat} {a b c : World} (h : Dr S a b) (k : Dr S b c) : Dr S a c := ⟨h.o.trans k.o, fun s => k.src (h.src s)⟩
theorem Dr.of_new {S : Nat} {w w' : World} (h : New w w') : Dr S w w' := ⟨DrO.of_new h, fun ⟨cv, bs, p, sd, s⟩ => ⟨cv, bs, p, sd, s.same (DrO.of_new h) (h.block S s.lt)⟩⟩
theorem Dr.size {S : Nat} {w w' : World} (h : Dr S w w') : w.heap.size ≤ w'.heap.size := h.o.size
theorem Dr.alloc {S : Nat} {a w : World} (h : Dr S a w) (o : Obj) : Dr S a (w.alloc o) := h.trans (Dr.of_new ((New.refl w).alloc o))
theorem Dr.drew {S : Nat} {a w : World} (h : Dr S a w) : Dr S a w.drew := h.trans (Dr.of_new (New.refl w).drew)
theorem Dr.drewN {S : Nat} {a w : World} (h : Dr S a w) (n : Nat) : Dr S a (w.drewN n) := h.trans (Dr.of_new ((New.refl w).drewN n))
theorem Src.kept {B S : Nat} {a w w' : World} (s0 : Src B S a) (s : Src B S w) (hb : Below a.heap.size w w') : Src B S w' := by
  obtain ⟨cv, bs, p, sd, s⟩ := s
  have hl := s0.lt
  exact ⟨cv, bs, p, sd, s.moved (fun k hk => hb.block k (by have := s.below; omega)) (hb.block S hl)⟩
theorem Dr.below {S : Nat} {a w w' : World} (h : Dr S a w) (hb : Below a.heap.size w w') : Dr S a w' :=
  ⟨⟨hb.os.trans h.o.os, hb.tape.trans h.o.tape, hb.output.trans h.o.output, Nat.le_trans h.size hb.size, fun k hk hn => (hb.block k hk).trans (h.o.other k hk hn)⟩, fun s => Src.kept s (h.src s) hb⟩
theorem Dr.setCell {S : Nat} {a w : World} (h : Dr S a w) {p : Addr} (hp : a.heap.size ≤ p.block) (u : Value) : Dr S a (w.setCell p u) := h.below ((Below.refl _ _).setCell hp u)
theorem Dr.grown {S : Nat} {a w w' : World} {row : Option Nat} (h : Dr S a w) (hg : w.grownBy w' row) (hr : ∀ k, row = some k → a.heap.size ≤ k) : Dr S a w' := h.below ((Below.refl _ _).grown hg h.size hr)
theorem Dr.undrawN {S : Nat} {w w' : World} {n : Nat} (h : Dr S (w.drewN n) w') : Dr S w w' := ((Dr.refl S w).drewN n).trans h
theorem Dr.undraw {S : Nat} {w w' : World} (h : Dr S w.drew w') : Dr S w w' := (Dr.refl S w).drew.trans h
theorem Dr.rules {S : Nat} {w w' : World} (h : Dr S w w') : (∀ b o, b < S → b < w.heap.size → w'.cell? ⟨b, o, none⟩ = w.cell? ⟨b, o, none⟩) ∧ (∀ b o, S < b → b < w.heap.size → w'.cell? ⟨b, o, none⟩ = w.cell? ⟨b, o, none⟩) ∧
    (∀ b o, b < S → b < w.heap.size → w'.frozen? ⟨b, o, none⟩ = w.frozen? ⟨b, o, none⟩) ∧ (∀ b o, S < b → b < w.heap.size → w'.frozen? ⟨b, o, none⟩ = w.frozen? ⟨b, o, none⟩) :=
  ⟨fun b o h1 h2 => World.cell?_of_block (h.o.other b h2 (by omega)), fun b o h1 h2 => World.cell?_of_block (h.o.other b h2 (by omega)), fun b o h1 h2 => World.frozen?_of_block (h.o.other b h2 (by omega)), fun b o h1 h2 => World.frozen?_of_block (h.o.other b h2 (by omega))⟩
theorem SrcE.at {B B' S : Nat} {w : World} {cv cv' : Value} {bs bs' : List Int} {p p' : Nat} {sd sd' : Int} (h : SrcE B S w cv bs p sd) (h' : SrcE B' S w cv' bs' p' sd') : cv' = cv ∧ p' = p ∧ sd' = sd := by
  obtain ⟨T, hc⟩ := h.cells
  obtain ⟨T', hc'⟩ := h'.cells
  have := hc.symm.trans hc'
  simp at this
  exact ⟨this.1.1.symm, by omega, this.1.2.2.symm⟩
theorem SrcE.dr1 {B S : Nat} {w : World} {cv : Value} {bs : List Int} {p : Nat} {sd s' : Int} (h : SrcE B S w cv bs p sd) (h0 : 0 ≤ s') (h1 : s' < 2147483647) (n : Nat) : Dr S w ((w.setCell ⟨S, 2, none⟩ (.int .i64 s')).drewN n) :=
  ⟨((DrO.refl S w).setS _ _).trans (DrO.of_new ((New.refl _).drewN _)), fun ⟨_, _, _, _, k⟩ => ⟨_, _, _, _, (k.set2 h0 (by omega)).new ((New.refl _).drewN _)⟩⟩
theorem SrcE.dr2 {B S : Nat} {w : World} {cv : Value} {bs : List Int} {p : Nat} {sd s' : Int} (h : SrcE B S w cv bs p sd) (h0 : 0 ≤ s') (h1 : s' < 2147483647) (hp : p < bs.length) (n : Nat) :
    Dr S w (((w.setCell ⟨S, 2, none⟩ (.int .i64 s')).drewN n).setCell ⟨S, 1, none⟩ (.int .i64 ((p : Int) + 1))) := by
  refine ⟨(((DrO.refl S w).setS _ _).trans (DrO.of_new ((New.refl _).drewN _))).setS _ _, fun ⟨cv', bs', p', sd'', k⟩ => ?_⟩
  obtain ⟨e1, e2, e3⟩ := h.at k
  subst e2
  have hl : bs'.length = bs.length := by
    obtain ⟨a, c, q, _⟩ := h.code
    obtain ⟨a', c', q', _⟩ := k.code
    rw [e1, q] at q'
    simp at q'
    exact q'.2.1.symm
  exact ⟨_, _, _, _, ((k.set2 h0 (by omega)).new ((New.refl _).drewN n)).set1 (q := p' + 1) (by omega)⟩
/-- A block known whole. -/
def Blk (w : World) (b : Nat) (cs : Array Value) (T : TypeId) : Prop := w.heap[b]? = some (.cells cs T (0, 0))
theorem Blk.alloc_at {w : World} {cs : Array Value} {T : TypeId} {b : Nat} (h : b = w.heap.size) : Blk (w.alloc (.cells cs T)) b cs T := by subst h; exact heap_alloc_self _ _
theorem Blk.lt {w : World} {b : Nat} {cs : Array Value} {T : TypeId} (h : Blk w b cs T) : b < w.heap.size := heap_lt h
theorem Blk.dr {S : Nat} {w w' : World} {b : Nat} {cs : Array Value} {T : TypeId} (h : Blk w b cs T) (hd : Dr S w w') (hn : b ≠ S) : Blk w' b cs T := (hd.o.other b h.lt hn).trans h
theorem Blk.new {w w' : World} {b : Nat} {cs : Array Value} {T : TypeId} (h : Blk w b cs T) (hd : New w w') : Blk w' b cs T := (hd.block b h.lt).trans h
theorem Blk.alloc {w : World} {b : Nat} {cs : Array Value} {T : TypeId} (h : Blk w b cs T) (o : Obj) : Blk (w.alloc o) b cs T := h.new ((New.refl w).alloc o)
theorem Blk.drew {w : World} {b : Nat} {cs : Array Value} {T : TypeId} (h : Blk w b cs T) : Blk w.drew b cs T := h.new (New.refl w).drew
theorem Blk.drewN {w : World} {b : Nat} {cs : Array Value} {T : TypeId} (h : Blk w b cs T) (n : Nat) : Blk (w.drewN n) b cs T := h.new ((New.refl w).drewN n)
theorem Blk.set {w : World} {b : Nat} {cs : Array Value} {T : TypeId} (h : Blk w b cs T) (o : Nat) (u : Value) : Blk (w.setCell ⟨b, o, none⟩ u) b (cs.setIfInBounds o u) T := heap_setCell_self h u
theorem Blk.set_ne {w : World} {b g o : Nat} {cs : Array Value} {T : TypeId} (h : Blk w b cs T) (hn : b ≠ g) (u : Value) : Blk (w.setCell ⟨g, o, none⟩ u) b cs T := (Below.heap_setCell _ _ _ _ hn).trans h
theorem Blk.rules {w : World} {b : Nat} {cs : Array Value} {T : TypeId} (h : Blk w b cs T) : (∀ o, w.cell? ⟨b, o, none⟩ = cs[o]?) ∧ (∀ o, w.frozen? ⟨b, o, none⟩ = false) := by
  unfold Blk at h
  exact ⟨fun o => by simp [World.cell?, h], fun o => by simp [World.frozen?, h]⟩
theorem Blk.use {w : World} {b : Nat} {cs : Array Value} {T : TypeId} {G : Prop} (h : Blk w b cs T) (k : Blk w b cs T → G) : G := k h
theorem Blk.grown {w w' : World} {b : Nat} {cs : Array Value} {T : TypeId} {row : Option Nat} (h : Blk w b cs T) (hg : w.grownBy w' row) (hr : some b ≠ row) : Blk w' b cs T := (hg.block b h.lt hr).trans h
/-- A row of the call's own, behind draws. -/
theorem own_dr {S : Nat} {w w' : World} {base : Nat} {e : TypeId} {sz : Nat} {v : Value} {n : Nat} {cs : List Value} (h : w.ownsRow base e sz v n cs) (hb : Dr S w w') (hS : S < base) : w'.ownsRow base e sz v n cs := by
  refine ⟨h.1, ?_⟩
  rcases h.2 with hn | ⟨g, cap, cur, rfl, hg, hgg, rest⟩
  · exact .inl hn
  · exact .inr ⟨g, cap, cur, rfl, hg, (hb.o.other g (Array.getElem?_eq_some_iff.1 hgg).1 (by omega)).trans hgg, rest⟩
/-- The source is one of the call's own: seen from the world ahead of it, there are new blocks alone. -/
theorem Dr.new {S : Nat} {w0 w w' : World} (hn : New w0 w) (h : Dr S w w') (hS : w0.heap.size ≤ S) : New w0 w' :=
  ⟨h.o.os.trans hn.os, h.o.tape.trans hn.tape, h.o.output.trans hn.output, Nat.le_trans hn.size h.size, fun k hk => (h.o.other k (Nat.lt_of_lt_of_le hk hn.size) (by omega)).trans (hn.block k hk)⟩
/-- A slice that a draw does not touch. -/
def RdA (S : Nat) (w : World) (v : Value) (xs : List Int) : Prop := ∃ b n c, v = .slice (some ⟨b, 0, none⟩) n c ∧ S < b ∧ RdI w v xs
theorem RdA.dr {S : Nat} {w w' : World} {v : Value} {xs : List Int} (h : RdA S w v xs) (hb : Dr S w w') : RdA S w' v xs := by
  obtain ⟨b, n, c, rfl, hS, a, cap, e, hn, h0, hc⟩ := h
  refine ⟨b, n, c, rfl, hS, a, cap, e, hn, h0, fun j u hu => ?_⟩
  obtain ⟨b', o, ha, hlt, hcell⟩ := hc j u hu
  refine ⟨b', o, ha, Nat.lt_of_lt_of_le hlt hb.size, ?_⟩
  subst ha
  cases e
  exact (hb.rules.2.1 _ _ hS hlt).trans hcell
theorem rdA_lit {S : Nat} {w : World} (xs : List Int) {T : TypeId} (hS : S < w.heap.size) (hx : xs.length ≤ 1048576 := by simp) : RdA S (w.alloc (.cells (xs.map (Value.int .i64)).toArray T)) (.slice (some ⟨w.heap.size, 0, none⟩) xs.length xs.length) xs := by
  refine ⟨_, _, _, rfl, hS, _, _, rfl, by omega, ⟨(fun h => nomatch h), Nat.le_refl _⟩, fun j u hu => ⟨_, 0, rfl, by simp, ?_⟩⟩
  rw [cell_alloc_new _ _ _ _ _ rfl]
  simpa using hu
/-- Some number, behind draws. -/
def DrawN (S : Nat) (w : World) (e : Ending) (w' : World) : Prop := ∃ r : Int, e = .returned (.int .i64 r) ∧ Dr S w w'
/-- A draw of a number. -/
def DrawI (S : Nat) (n : Int) (w : World) (e : Ending) (w' : World) : Prop := ∃ r : Int, e = .returned (.int .i64 r) ∧ 0 ≤ r ∧ (r = 0 ∨ r < n) ∧ Dr S w w'
end Go.Proofs.YteielmihlfakgaaGreatDoor
/- Rows of the call's own beside a known block. -/
namespace Go.Proofs.YteielmihlfakgaaGreatDoor
open Go Go.Proofs Go.RowKit
set_option linter.unusedVariables false
set_option linter.unusedSimpArgs false
theorem blk_ne_ownK {w : World} {O base : Nat} {cs : Array Value} {T e : TypeId} {sz : Nat} {v : Value} {n : Nat} {ds : List Value} (hK : Blk w O cs T) (h : w.ownsRow base e sz v n ds) (hT : T ≠ e) : some O ≠ v.ownBlock := by
  intro he
  rcases h.2 with ⟨rfl, _⟩ | ⟨g, cap, cur, rfl, _, hg, _⟩
  · cases he
  · injection he with he
    subst he
    have := hK.symm.trans hg
    simp at this
    exact hT this.2
theorem own_ne_ownK {w : World} {b1 b2 : Nat} {e1 e2 : TypeId} {s1 s2 : Nat} {u v : Value} {n m : Nat} {cs ds : List Value} (h1 : w.ownsRow b1 e1 s1 u n cs) (h2 : w.ownsRow b2 e2 s2 v m ds) (hT : e1 ≠ e2) : ∀ i j, u.ownBlock = some i → v.ownBlock = some j → i ≠ j := by
  intro i j hi hj hij
  subst hij
  rcases h1.2 with ⟨rfl, _⟩ | ⟨g, cap, cur, rfl, _, hg, _⟩
  · cases hi
  · cases hi
    rcases h2.2 with ⟨rfl, _⟩ | ⟨g', cap', cur', rfl, _, hg', _⟩
    · cases hj
    · cases hj
      have := hg.symm.trans hg'
      simp at this
      exact hT this.2
theorem own_setK {w : World} {O o base : Nat} {e : TypeId} {sz : Nat} {v : Value} {n : Nat} {ds : List Value} (h : w.ownsRow base e sz v n ds) (hne : some O ≠ v.ownBlock) (u : Value) : (w.setCell ⟨O, o, none⟩ u).ownsRow base e sz v n ds := by
  have hg : w.grownBy (w.setCell ⟨O, o, none⟩ u) (some O) := ⟨rfl, rfl, rfl, by simp, fun q hq hne => heap_setCell_other w ⟨O, o, none⟩ q u (fun e => hne (by simp [e]))⟩
  refine h.kept hg ?_
  cases hb : v.ownBlock with
  | none => exact .inl rfl
  | some k => exact .inr (fun e => hne (by rw [hb, e]))
theorem own_grK {w w' : World} {r : Option Nat} {base : Nat} {e : TypeId} {sz : Nat} {v : Value} {n : Nat} {ds : List Value} (h : w.ownsRow base e sz v n ds) (hg : w.grownBy w' r) (hne : ∀ i j, r = some i → v.ownBlock = some j → i ≠ j) : w'.ownsRow base e sz v n ds := by
  refine h.kept hg ?_
  cases hb : v.ownBlock with
  | none => exact .inl rfl
  | some k => exact .inr (fun e => hne k k e.symm hb rfl)
end Go.Proofs.YteielmihlfakgaaGreatDoor
/- A row of cells that was laid just now. -/
namespace Go.Proofs.YteielmihlfakgaaGreatDoor
open Go Go.RowKit
set_option linter.unusedVariables false
set_option linter.unusedSimpArgs false
theorem alloc_row {w : World} {b : Nat} {cs : Array Value} {e : TypeId} (h : b = w.heap.size) (j : Nat) (u : Value) (hj : cs.toList[j]? = some u) : (w.alloc (.cells cs e)).cell? ((⟨b, 0, none⟩ : Addr).add j) = some u := by
  have : (⟨b, 0, none⟩ : Addr).add j = ⟨b, j, none⟩ := by unfold Addr.add; split <;> simp_all
  rw [this, cell_alloc_new _ _ _ _ _ h]; simpa using hj
end Go.Proofs.YteielmihlfakgaaGreatDoor
/- Contracts: numbers drawn from a code. -/
namespace Go.Proofs.YteielmihlfakgaaGreatDoor
open Go Go.Proofs Go.RowKit
set_option linter.unusedVariables false
set_option linter.unusedSimpArgs false
set_option maxRecDepth 100000
/-- The bytes of a slice, opened. -/
theorem rd_bytes {B : Nat} {w : World} {v : Value} {bs : List Int} (h : RdB B w v bs.length (bs.map (Value.int .u8))) : ∃ (a : Option Addr) (cap : Nat), v = .slice a bs.length cap ∧
    Hid (∀ k (hk : k < bs.length), ∃ b off, a = some ⟨b, off, none⟩ ∧ b < B ∧ w.cell? ⟨b, off + k, none⟩ = some (.int .u8 bs[k])) := by
  obtain ⟨a, cap, rfl, hn, h0, hc⟩ := h
  refine ⟨a, cap, rfl, Lib.hid fun k hk => ?_⟩
  obtain ⟨b, off, ha, hlt, hcell⟩ := hc k (.int .u8 bs[k]) (by simp [hk])
  exact ⟨b, off, ha, hlt, hcell⟩
theorem cell_setS {w : World} {S o b k : Nat} {u : Value} (h : b < S) : (w.setCell ⟨S, o, none⟩ u).cell? ⟨b, k, none⟩ = w.cell? ⟨b, k, none⟩ :=
  World.cell?_of_block (Below.heap_setCell _ _ _ _ (by show b ≠ S; omega))
set_option maxHeartbeats 2000000 in
theorem l01Next_any {B : Nat} (S : Nat) (n : Int) (w : World) (hs : Src B S w) : Calls Tryz.prog 32 #[.pointer (some ⟨S, 0, none⟩), .int .i64 n] w (DrawI S n w) := by
  by_cases hn : n ≤ 1
  · go_enter Tryz.func32, Tryz.ntmps32
    go_wp2_with fail
    go_ret
    exact ⟨0, rfl, by omega, .inl rfl, Dr.refl _ _⟩
  · obtain ⟨cv, bs, p, sd, hs⟩ := hs
    obtain ⟨k0, k1, k2, f1, f2⟩ := hs.open
    have h0 := hs.seed0
    have h1 := hs.seed1
    have hpl := hs.place
    have hln := hs.len
    have HB := Lib.hid hs.bytes
    have hlt := hs.lt
    have hBS := hs.below
    obtain ⟨ca, cc, rfl, HC⟩ := rd_bytes hs.code
    have HS := Lib.hid hs
    clear hs
    have m0 : 0 ≤ (sd * 48271 + 29) % 2147483647 := Int.emod_nonneg _ (by omega)
    have m1 : (sd * 48271 + 29) % 2147483647 < 2147483647 := Int.emod_lt_of_pos _ (by omega)
    by_cases hp : p < bs.length
    · obtain ⟨cb, co, rfl, hcb, hcell⟩ := HC.out p hp
      have hcS : cb < S := by omega
      have hne : cb ≠ S := by omega
      have hc9 : w.cell? ⟨cb, co + p, none⟩ = some (.int .u8 bs[p]) := hcell
      have hbb := HB.out bs[p] (List.getElem_mem hp)
      generalize bs[p] = x at *
      clear hcell
      obtain ⟨hb0, hb1⟩ := hbb
      go_enter Tryz.func32, Tryz.ntmps32
      go_wp2_with fail
      go_quiet (fail)
      go_wp2_with fail
      go_quiet (fail)
      go_wp2_with fail
      · go_quiet (fail)
        go_wp2_with fail
        go_ret
        exact ⟨_, rfl, Int.emod_nonneg _ (by omega), .inr (Int.emod_lt_of_pos _ (by omega)), (HS.out.dr2 m0 m1 hp _).drewN _⟩
      all_goals go_ret
      all_goals exact ⟨_, rfl, Int.emod_nonneg _ (by omega), .inr (Int.emod_lt_of_pos _ (by omega)), HS.out.dr2 m0 m1 hp _⟩
    · go_enter Tryz.func32, Tryz.ntmps32
      go_wp2_with fail
      go_quiet (fail)
      go_wp2_with fail
      all_goals go_ret
      exact ⟨_, rfl, Int.emod_nonneg _ (by omega), .inr (Int.emod_lt_of_pos _ (by omega)), HS.out.dr1 m0 m1 _⟩
/-- One of some numbers. -/
def DrawP (S : Nat) (xs : List Int) (w : World) (e : Ending) (w' : World) : Prop := ∃ r : Int, e = .returned (.int .i64 r) ∧ r ∈ xs ∧ Dr S w w'
set_option maxHeartbeats 1000000 in
theorem l01Pick_any {B : Nat} (S : Nat) (v : Value) (xs : List Int) (w : World) (hv : RdI w v xs) (hx : 1 ≤ xs.length) (hm : xs.length ≤ 1048576) (hb : ∀ b o n c, v = .slice (some ⟨b, o, none⟩) n c → S < b) (hs : Src B S w) :
    Calls Tryz.prog 64 #[.pointer (some ⟨S, 0, none⟩), v] w (DrawP S xs w) := by
  obtain ⟨a, cap, rfl, hl, HC⟩ := hv.open
  clear hv
  go_enter Tryz.func64, Tryz.ntmps64
  go_wp2_with fail
  refine (l01Next_any S xs.length _ hs).mono ?_
  rintro e w1 ⟨r, rfl, r0, r1, b1⟩
  obtain ⟨k, rfl⟩ := Int.eq_ofNat_of_zero_le r0; have hk : k < xs.length := (by omega); obtain ⟨b, o, rfl, hbl, hc⟩ := HC.out w (New.refl w) k hk; have hSb := hb b o _ _ rfl; have d1 := b1.rules.2.1
  have z1 := b1.size
  try simp only [World.size_alloc, World.size_drew, World.heap_drewN, World.size_setCell] at z1
  have y1 : S < w1.heap.size := by omega
  go_wp2_with fail
  go_ret
  exact ⟨_, rfl, List.getElem_mem hk, b1⟩
theorem l01Next_n {B : Nat} (S : Nat) (n : Int) (w : World) (hs : Src B S w) : Calls Tryz.prog 32 #[.pointer (some ⟨S, 0, none⟩), .int .i64 n] w (DrawN S w) := (l01Next_any S n w hs).mono fun e w' ⟨r, h, _, _, hb⟩ => ⟨r, h, hb⟩
theorem l01Pick_n {B : Nat} (S : Nat) (v : Value) (xs : List Int) (w : World) (hv : RdA S w v xs) (hs : Src B S w) (hx : 1 ≤ xs.length ∧ xs.length ≤ 1048576 := by simp) : Calls Tryz.prog 64 #[.pointer (some ⟨S, 0, none⟩), v] w (DrawN S w) := by
  obtain ⟨b, n, c, rfl, hS, hr⟩ := hv
  exact (l01Pick_any S _ xs w hr hx.1 hx.2 (by rintro b' o n' c' e; cases e; exact hS) hs).mono fun e w' ⟨r, h, _, hb⟩ => ⟨r, h, hb⟩
theorem l01PickL_n {B : Nat} (S : Nat) (xs : List Int) (w : World) (T : TypeId) (hs : Src B S w) (hx : 1 ≤ xs.length ∧ xs.length ≤ 1048576 := by simp) : Calls Tryz.prog 64 #[.pointer (some ⟨S, 0, none⟩), .slice (some ⟨w.heap.size, 0, none⟩) xs.length xs.length] (w.alloc (.cells (xs.map (Value.int .i64)).toArray T)) (DrawN S (w.alloc (.cells (xs.map (Value.int .i64)).toArray T))) :=
  l01Pick_n S _ xs _ (rdA_lit xs hs.lt hx.2) ((Dr.refl S w).alloc _ |>.src hs) hx
set_option maxHeartbeats 2000000 in
theorem l01From_any (B : Nat) (v : Value) (bs : List Int) (w : World) (hv : RdB B w v bs.length (bs.map (Value.int .u8))) (hBw : B ≤ w.heap.size) (hl : bs.length ≤ 4096) (hb : ∀ c ∈ bs, 0 ≤ c ∧ c ≤ 255) :
    Calls Tryz.prog 23 #[v] w (fun e w' => ∃ S, e = .returned (.pointer (some ⟨S, 0, none⟩)) ∧ w.heap.size ≤ S ∧ New w w' ∧ Src B S w') := by
  have HV := Lib.hid hv
  have HB := Lib.hid hb
  obtain ⟨a, cap, rfl, HC⟩ := rd_bytes hv
  clear hv hb
  go_enter Tryz.func23, Tryz.ntmps23
  go_wp2_with fail
  go_loopw [4] (fun i wr => ∃ (k : Nat) (sd : Int), k ≤ bs.length ∧ i = .int .i64 k ∧ 0 ≤ sd ∧ sd ≤ 2147483646 ∧ New w wr ∧ Hid (SrcE B w.heap.size wr (.slice a bs.length cap) bs 0 sd)) (fun i _ => bs.length - (intOf i).toNat)
  case atStart => exact ⟨0, 52021, Nat.zero_le _, rfl, by omega, by omega, (by repeat (first | with_reducible exact New.refl _ | with_reducible assumption | with_reducible refine New.drew ?_ | with_reducible refine New.drewN ?_ _ | with_reducible refine New.alloc ?_ _ | with_reducible refine New.setCell ?_ (by first | (simp; done) | (simp; omega) | omega) _ | with_reducible refine New.trans ?_ (by with_reducible assumption))), Lib.hid ⟨HV.out.same (fun k hk => Below.heap_alloc _ _ _ (by omega)), hBw, HB.out, hl, Nat.zero_le _, by omega, by omega, _, heap_alloc_self _ _⟩⟩
  case round =>
    obtain ⟨k, sd, hk, rfl, h0, h1, hb, hs⟩ := hrel
    by_cases hlt : k < bs.length
    · by_cases h64 : k < 64
      · obtain ⟨b, o, rfl, hbl, hc⟩ := HC.out k hlt
        have hc9 : wr.cell? ⟨b, o + k, none⟩ = some (.int .u8 bs[k]) := (hb.cell (by omega)).trans hc
        obtain ⟨k0, k1, k2, f1, f2⟩ := hs.out.open
        have hbb := HB.out bs[k] (List.getElem_mem hlt)
        generalize bs[k] = x at *
        clear hc k0 k1
        obtain ⟨hb0, hb1⟩ := hbb
        have m0 : 0 ≤ (sd * 59 + x) % 2147483647 := Int.emod_nonneg _ (by omega)
        have m1 : (sd * 59 + x) % 2147483647 < 2147483647 := Int.emod_lt_of_pos _ (by omega)
        go_wp2_with fail
        have e1 : IntKind.i64.wrap (sd * 59) = sd * 59 := IntWalk.i64_in _ (by omega)
        have e2 : IntKind.i64.wrap (sd * 59 + x) = sd * 59 + x := IntWalk.i64_in _ (by omega)
        have e3 : (sd * 59 + x).tmod 2147483647 = (sd * 59 + x) % 2147483647 := Int.tmod_eq_emod_of_nonneg (by omega)
        refine wp_region_still_tail 15 (by kernel_rfl) (by kernel_rfl) ?_
        simp only [World.drew_eq, List.take_succ_cons, List.take_zero, List.drop_succ_cons, List.drop_zero]
        repeat (first | still_step)
        refine wpStill_nil ?_
        go_wp2_with fail
        go_roundw
        case rel => exact ⟨k + 1, _, by omega, by go_num, m0, by omega, (hb.drewN _).setCell (by simp) _, Lib.hid ((hs.out.new ((New.refl _).drewN _)).set2 m0 (by omega))⟩
        case measure => simp [intOf]; omega
      · go_wp2_with fail
        go_ret
        exact ⟨_, rfl, Nat.le_refl _, hb, _, _, _, _, hs.out⟩
    · go_wp2_with fail
      go_ret
      exact ⟨_, rfl, Nat.le_refl _, hb, _, _, _, _, hs.out⟩
end Go.Proofs.YteielmihlfakgaaGreatDoor
