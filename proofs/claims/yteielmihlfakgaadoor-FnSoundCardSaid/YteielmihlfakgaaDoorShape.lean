/- How an argument of plain type reads, said once for all plain types: 'Sh.of' reckons a type's shape, 'Sh.Is' says what cells of that shape hold, 'Sh.is_of_trod' draws the second from the form's own reading. -/
import Derived.ProofKit
import Derived.OpenShut
import Derived.Deep.Slices
import Derived.Test.YteielmihlfakgaaDoorBase
namespace Go.Proofs.YteielmihlfakgaaDoor
open Go Go.RowKit Go.ChangeShapes Go.WideShapes Go.ChangeAt
set_option linter.unusedVariables false
set_option linter.unusedSimpArgs false

inductive Sh where
  | int | str | bool | byte | nil
  | pair (a b : Sh)
  | slice (e : Sh)

def Sh.size : Sh → Nat
  | .int => 1
  | .str => 1
  | .bool => 1
  | .byte => 1
  | .nil => 0
  | .pair a b => a.size + b.size
  | .slice _ => 1

def Sh.fields (P : Program) (one : TypeId → Option Sh) : List Field → Nat → Option Sh
  | [], _ => some .nil
  | f :: r, off => match one f.type, Sh.fields P one r (off + P.cellsOf f.type) with
    | some a, some b => if f.offset = off ∧ P.cellsOf f.type = a.size then some (.pair a b) else none
    | _, _ => none

def Sh.of (P : Program) : Nat → TypeId → Option Sh
  | 0, _ => none
  | n + 1, t => match P.underlying t with
    | some (.int .i64) => some .int
    | some (.int .u8) => some .byte
    | some .string => some .str
    | some .bool => some .bool
    | some (.slice e) => match Sh.of P n e with
      | some s => if P.cellsOf e = s.size ∧ 0 < s.size then some (.slice s) else none
      | none => none
    | some (.struct fs) => match Sh.fields P (Sh.of P n) fs.toList 0 with
      | some s => if P.cellsOf t = s.size then some s else none
      | none => none
    | _ => none

def Sh.Is (w : World) : Sh → List Value → Prop
  | .int, cs => ∃ n : Int, cs = [.int .i64 n] ∧ (Lit.int .i64 n).wf = true
  | .str, cs => ∃ s : ByteArray, cs = [.string s] ∧ s.size ≤ 9223372036854775807
  | .bool, cs => ∃ b : Bool, cs = [.bool b]
  | .byte, cs => ∃ n : Int, cs = [.int .u8 n] ∧ (Lit.int .u8 n).wf = true
  | .nil, cs => cs = []
  | .pair a b, cs => ∃ xs ys, cs = xs ++ ys ∧ a.Is w xs ∧ b.Is w ys
  | .slice e, cs => ∃ (a : Option Addr) (n cap : Nat), cs = [.slice a n cap] ∧ n ≤ 9223372036854775807 ∧ ((a = none → n = 0) ∧ n ≤ cap) ∧
      ∀ k, k < n → ∃ es, e.Is w es ∧ ∃ b off, a = some ⟨b, off, none⟩ ∧ b < w.heap.size ∧ ∀ j u, es[j]? = some u → w.cell? ⟨b, off + (k * e.size + j), none⟩ = some u

theorem Sh.Is.length {w : World} : ∀ {s : Sh} {cs : List Value}, s.Is w cs → cs.length = s.size
  | .int, _, h => by obtain ⟨n, rfl, _⟩ := h; rfl
  | .str, _, h => by obtain ⟨n, rfl, _⟩ := h; rfl
  | .bool, _, h => by obtain ⟨n, rfl⟩ := h; rfl
  | .byte, _, h => by obtain ⟨n, rfl, _⟩ := h; rfl
  | .nil, _, h => by rw [show _ = [] from h]; rfl
  | .pair a b, _, h => by obtain ⟨xs, ys, rfl, h1, h2⟩ := h; simp [Sh.size, h1.length, h2.length]
  | .slice e, _, h => by obtain ⟨a, n, cap, rfl, _⟩ := h; rfl

section
variable {H : Type} {enc : TypeId × Value → H} {P : Program} {w : World} {spare : Nat → Bool} {held : Bool}

/-- A type's reading gives its shape: as a statement on the fuel. -/
def Sh.Gives (enc : TypeId × Value → H) (P : Program) (w : World) (spare : Nat → Bool) (held : Bool) (t : TypeId) (s : Sh) : Prop :=
  ∀ fuel cs x, DataW.trod enc P w 0 spare held fuel t cs = some x → s.Is w cs

theorem Sh.fields_is (one : TypeId → Option Sh) (hone : ∀ t s, one t = some s → Sh.Gives enc P w spare held t s) (n : Nat) (cs : List Value) :
    ∀ (fs : List Field) (off : Nat) (s : Sh) (xs : List (DataW H × List MemPlace)), Sh.fields P one fs off = some s →
      (∀ (i : Nat) (f : Field), fs[i]? = some f → DataW.trod enc P w 0 spare held n f.type ((cs.drop f.offset).take (P.cellsOf f.type)) = xs[i]?) → xs.length = fs.length →
      cs.length = off + s.size → s.Is w (cs.drop off)
  | [], off, s, xs, h, hx, hl, hc => by
    simp only [Sh.fields, Option.some.injEq] at h
    subst h
    simp only [Sh.size, Nat.add_zero] at hc
    show cs.drop off = []
    rw [← hc]; simp
  | f :: r, off, s, xs, h, hx, hl, hc => by
    simp only [Sh.fields] at h
    split at h
    · rename_i a b ha hb
      split at h
      · rename_i hoff
        obtain ⟨rfl, hsz⟩ := hoff
        cases h
        match xs, hl with
        | y :: ys, hl =>
          have h0 := hx 0 f rfl
          have i0 := hone _ _ ha _ _ _ (by simpa using h0)
          simp only [Sh.size] at hc
          have i1 := Sh.fields_is one hone n cs r (f.offset + P.cellsOf f.type) b ys hb (fun i g hg => by simpa using hx (i + 1) g (by simpa using hg)) (by simpa using hl) (by omega)
          refine ⟨_, _, ?_, i0, i1⟩
          rw [← List.drop_drop, List.take_append_drop]
      · cases h
    · cases h

theorem cells?_cell {base : Nat} {a : Addr} {n : Nat} {cs : List Value} (h : w.cells? base a n = some cs) : cs.length = n ∧ ∀ j u, cs[j]? = some u → w.cell? (a.add j) = some u := by
  obtain ⟨h0, h1, h2⟩ := World.cells?_some h
  refine ⟨h1, fun j u hu => ?_⟩
  have hj : j < n := by rw [← h1]; exact (List.getElem?_eq_some_iff.1 hu).1
  rw [h2 j hj]; exact hu

theorem addr_plain {a : Addr} {j : Nat} {u : Value} (h : w.cell? (a.add j) = some u) : ∃ b off, a = ⟨b, off, none⟩ ∨ 0 < j := by
  obtain ⟨b, off, spot⟩ := a
  by_cases hj : j = 0
  · subst hj
    cases spot with
    | none => exact ⟨b, off, .inl rfl⟩
    | some q =>
      simp only [Addr.add, ↓reduceIte] at h
      unfold World.cell? at h
      split at h <;> simp at h
  · exact ⟨b, off, .inr (by omega)⟩

theorem Sh.gives_of : ∀ (n : Nat) (t : TypeId) (s : Sh), Sh.of P n t = some s → Sh.Gives enc P w spare held t s
  | 0, _, _, h => by simp [Sh.of] at h
  | n + 1, t, s, h => by
    intro fuel cs x hx
    simp only [Sh.of] at h
    split at h
    · rename_i hu; cases h
      obtain ⟨k, rfl, _, hw⟩ := DataW.trod_int hu hx
      exact ⟨k, rfl, hw⟩
    · rename_i hu; cases h
      obtain ⟨k, rfl, _, hw⟩ := DataW.trod_int hu hx
      exact ⟨k, rfl, hw⟩
    · rename_i hu; cases h
      obtain ⟨k, rfl, _, hw⟩ := DataW.trod_string hu hx
      exact ⟨k, rfl, by simpa [maxLen] using hw⟩
    · rename_i hu; cases h
      cases fuel with
      | zero => simp [DataW.trod] at hx
      | succ m =>
        unfold DataW.trod at hx
        rw [hu] at hx
        split at hx <;> simp_all [Sh.Is]
    · rename_i e hu
      split at h
      · rename_i se hse
        split at h
        · rename_i hsz
          cases h
          rcases DataW.trod_slice hu hx with ⟨rfl, _⟩ | ⟨a, len, cap, elems, rest, m, _, rfl, _, hb, hl, hm, hlen, hel, _⟩
          · exact ⟨none, 0, 0, rfl, by omega, ⟨fun _ => rfl, Nat.le_refl _⟩, fun k hk => by omega⟩
          · refine ⟨some a, len, cap, rfl, by simp only [maxLen] at hm; omega, ⟨(fun h => by cases h), by omega⟩, fun k hk => ?_⟩
            have h1 := hel k hk
            rw [List.getElem?_eq_getElem (by omega), Option.bind_eq_some_iff] at h1
            obtain ⟨es, hes, hy⟩ := h1
            have hi := Sh.gives_of n e se hse _ _ _ hy
            obtain ⟨hlen2, hcell⟩ := cells?_cell hes
            have hsp : 0 < es.length := by rw [hlen2, hsz.1]; exact hsz.2
            have h00 := hcell 0 es[0] (by simp [hsp])
            -- the first element's first cell tells that the address is plain
            have ha : ∃ b off, a = ⟨b, off, none⟩ ∧ b < w.heap.size := by
              have hk0 := hel 0 (by omega)
              rw [List.getElem?_eq_getElem (by omega), Option.bind_eq_some_iff] at hk0
              obtain ⟨es0, hes0, hy0⟩ := hk0
              obtain ⟨hlen0, hcell0⟩ := cells?_cell hes0
              have hsp0 : 0 < es0.length := by rw [hlen0, hsz.1]; exact hsz.2
              have q := hcell0 0 es0[0] (by simp [hsp0])
              have q2 := World.block_lt_of_cell? w _ q
              obtain ⟨b, off, hh⟩ := addr_plain (a := a) (j := 0) (by simpa [Addr.add] using q)
              rcases hh with rfl | hh
              · refine ⟨b, off, rfl, ?_⟩
                simpa [Addr.add] using q2
              · omega
            obtain ⟨b, off, rfl, hbs⟩ := ha
            refine ⟨es, hi, b, off, rfl, hbs, fun j u hu => ?_⟩
            have := hcell j u hu
            rw [hsz.1] at this
            have e1 : ((⟨b, off, none⟩ : Addr).add (k * se.size)).add j = ⟨b, off + (k * se.size + j), none⟩ := by
              unfold Addr.add
              by_cases h1 : k * se.size = 0 <;> by_cases h2 : j = 0 <;> simp [h1, h2, Nat.add_assoc]
            rw [e1] at this
            exact this
        · cases h
      · cases h
    · rename_i fs hu
      split at h
      · rename_i sf hsf
        split at h
        · rename_i hsz
          cases h
          obtain ⟨xs, m, _, _, hcl, hxl, hxs⟩ := DataW.trod_struct hu hx
          have := Sh.fields_is (Sh.of P n) (fun t s hs => Sh.gives_of n t s hs) m cs fs.toList 0 _ xs hsf (fun i f hf => hxs i f (by simpa using hf)) (by simpa using hxl) (by rw [hcl, hsz]; omega)
          simpa using this
        · cases h
      · cases h
    · cases h

theorem Sh.is_of_trod {t : TypeId} {v : Value} {d : DataW H} {p : List MemPlace} {n : Nat} {s : Sh} (hs : Sh.of P n t = some s) (h : DataW.Trod enc P w 0 spare held t v d p) : s.Is w v.cells.toList := by
  obtain ⟨fuel, hf⟩ := h
  exact Sh.gives_of n t s hs _ _ _ hf
end

/-- A slice whose elements are flat: one list of them. -/
theorem rd_of_slice {α : Type} {w : World} {e : Sh} {v : Value} (enc : α → List Value) (dec : ∀ cs, e.Is w cs → ∃ x, cs = enc x) (hs : ∀ x, (enc x).length = e.size) (h : (Sh.slice e).Is w [v]) :
    ∃ xs : List α, Rd w v xs.length (xs.flatMap enc) := by
  obtain ⟨a, n, cap, he, hn, h0, hel⟩ := h
  have hv : v = .slice a n cap := by simpa using he
  subst hv
  have key : ∀ m, m ≤ n → ∃ xs : List α, xs.length = m ∧ ∀ k (hk : k < xs.length), ∃ b off, a = some ⟨b, off, none⟩ ∧ b < w.heap.size ∧ ∀ j u, (enc xs[k])[j]? = some u → w.cell? ⟨b, off + (k * e.size + j), none⟩ = some u := by
    intro m
    induction m with
    | zero => exact fun _ => ⟨[], rfl, fun k hk => by simp at hk⟩
    | succ m ih =>
      intro hm
      obtain ⟨xs, hl, hx⟩ := ih (by omega)
      obtain ⟨es, hes, b, off, ha, hb, hc⟩ := hel m (by omega)
      obtain ⟨x, rfl⟩ := dec es hes
      refine ⟨xs ++ [x], by simp [hl], fun k hk => ?_⟩
      by_cases hkm : k < m
      · obtain ⟨b', off', h1, h2, h3⟩ := hx k (by omega)
        refine ⟨b', off', h1, h2, fun j u hu => h3 j u ?_⟩
        rwa [List.getElem_append_left (by omega)] at hu
      · have hkm' : k = m := by simp [hl] at hk; omega
        subst hkm'
        refine ⟨b, off, ha, hb, fun j u hu => hc j u ?_⟩
        rw [List.getElem_append_right (by omega)] at hu
        simpa [hl] using hu
  obtain ⟨xs, hl, hx⟩ := key n (Nat.le_refl _)
  refine ⟨xs, a, cap, by rw [hl], by rw [hl]; exact hn, by rw [hl]; exact h0, fun j u hu => ?_⟩
  obtain ⟨k, hk, i, hi, rfl, hu'⟩ := flat_get enc e.size hs xs j u hu
  obtain ⟨b, off, h1, h2, h3⟩ := hx k hk
  exact ⟨b, off, h1, h2, h3 i u hu'⟩
theorem rdI_of_sh {w : World} {v : Value} (h : (Sh.slice .int).Is w [v]) : ∃ xs : List Int, RdI w v xs := by
  obtain ⟨xs, hx⟩ := rd_of_slice (w := w) (e := .int) (v := v) (fun x : Int => [.int .i64 x]) (fun cs hh => by obtain ⟨n, hn, _⟩ := hh; exact ⟨n, hn⟩) (fun _ => rfl) h
  rw [flat_one] at hx
  exact ⟨xs, hx⟩
theorem one_of_slice {w : World} {e : Sh} {cs : List Value} (h : (Sh.slice e).Is w cs) : ∃ v, cs = [v] := by
  obtain ⟨a, n, cap, rfl, _⟩ := h; exact ⟨_, rfl⟩

/-- A slice of bytes. -/
theorem rdBytes_of_sh {w : World} {v : Value} (h : (Sh.slice .byte).Is w [v]) : ∃ bs : List Int, Rd w v bs.length (bs.map (Value.int .u8)) ∧ ∀ c ∈ bs, 0 ≤ c ∧ c ≤ 255 := by
  obtain ⟨xs, hx⟩ := rd_of_slice (w := w) (e := .byte) (v := v) (fun x : {x : Int // 0 ≤ x ∧ x ≤ 255} => [.int .u8 x.val]) (fun cs hh => by
    obtain ⟨n, hn, hw⟩ := hh
    refine ⟨⟨n, ?_⟩, hn⟩
    simp [Lit.wf] at hw
    have e1 : IntKind.u8.min = 0 := by decide
    have e2 : IntKind.u8.max = 255 := by decide
    exact ⟨by omega, by omega⟩) (fun _ => rfl) h
  refine ⟨xs.map Subtype.val, ?_, ?_⟩
  · rw [flat_one] at hx
    rw [List.length_map, List.map_map]
    exact hx
  · intro c hc
    obtain ⟨y, _, rfl⟩ := List.mem_map.1 hc
    exact y.property
/-- A struct's value is written out by its cells. -/
theorem agg_of_okWide {P : Program} {w : World} {r : Reach} {b0 : Nat} {t : TypeId} {fs : Array Field} {v : Value} (ht : P.underlying t = some (.struct fs)) (h : Value.okWide P w r b0 t v) : v = .agg v.cells := by
  obtain ⟨cs, rfl, _⟩ := okWide_struct ht h
  rfl
end Go.Proofs.YteielmihlfakgaaDoor
