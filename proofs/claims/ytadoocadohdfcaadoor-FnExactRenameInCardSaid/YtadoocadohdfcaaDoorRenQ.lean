/- A program with a name replaced: words for the walks. -/
import Derived.Test.YtadoocadohdfcaaDoorProg
import Derived.Test.YtadoocadohdfcaaDoorMrgC
import Derived.Test.YtadoocadohdfcaaDoorSound6
import Derived.Test.YtadoocadohdfcaaDoorMrgE
import Derived.Test.YtadoocadohdfcaaDoorAppRd
import Derived.Test.YtadoocadohdfcaaDoorBlocksP
namespace Go.Proofs.YtadoocadohdfcaaDoor
open Go Go.Proofs Go.RowKit
set_option linter.unusedVariables false
set_option linter.unusedSimpArgs false
set_option maxRecDepth 100000
theorem infoLineQ : (Tryd.prog.info? 55).map (fun i => (i.zero, i.size, i.bytes)) = some (some (Value.agg #[.string ⟨#[]⟩, .slice none 0 0]), 2, 40) := by kernel_rfl
/-- Terms of which the first ones are renamed. -/
def mixR (f t : ByteArray) (xs : List ETerm) (j : Nat) : List ETerm := (xs.take j).map (renT f t) ++ xs.drop j
theorem mixR_len {f t : ByteArray} {xs : List ETerm} {j : Nat} (h : j ≤ xs.length) : (mixR f t xs j).length = xs.length := by simp [mixR]; omega
theorem mixR_at {f t : ByteArray} {xs : List ETerm} {j : Nat} (h : j < xs.length) : (mixR f t xs j)[j]'(by rw [mixR_len (by omega)]; exact h) = xs[j] := by
  have hl : ((xs.take j).map (renT f t)).length = j := by simp; omega
  unfold mixR
  rw [List.getElem_append_right (by omega)]
  simp only [List.getElem_drop]
  congr 1; omega
theorem mixR_set {f t : ByteArray} {xs : List ETerm} {j : Nat} (h : j < xs.length) : (mixR f t xs j).set j (renT f t xs[j]) = mixR f t xs (j + 1) := by
  have hl : ((xs.take j).map (renT f t)).length = j := by simp; omega
  rw [mixR, mixR, List.set_append, if_neg (by omega), hl, Nat.sub_self, List.drop_eq_getElem_cons h, List.set_cons_zero, List.take_succ_eq_append_getElem h, List.map_append, List.append_assoc]; rfl
theorem set_name : ∀ (xs : List ETerm) (j : Nat) (h : j < xs.length) (s : ByteArray), (xs.flatMap encTerm).set (j * 3 + 1) (.string s) = (xs.set j ⟨xs[j].kind, s, xs[j].num⟩).flatMap encTerm
  | x :: xs, 0, _, s => rfl
  | x :: xs, j + 1, h, s => by
    have := set_name xs j (by simpa using h) s
    rw [List.flatMap_cons, List.set_append, if_neg (by rw [encTerm_len]; omega), encTerm_len, show (j + 1) * 3 + 1 - 3 = j * 3 + 1 by omega, this]
    rfl
theorem mixR_name {f t : ByteArray} {xs : List ETerm} {j : Nat} (h : j < xs.length) : ((mixR f t xs j).flatMap encTerm).set (j * 3 + 1) (.string (swp f t xs[j].name)) = (mixR f t xs (j + 1)).flatMap encTerm := by
  rw [set_name _ j (by rw [mixR_len (by omega)]; exact h), mixR_at h, ← mixR_set h]; rfl
theorem mixR_zero (f t : ByteArray) (xs : List ETerm) : mixR f t xs 0 = xs := by simp [mixR]
theorem mixR_all (f t : ByteArray) (xs : List ETerm) : mixR f t xs xs.length = xs.map (renT f t) := by simp [mixR]
theorem mixR_cell {f t : ByteArray} {xs : List ETerm} {j : Nat} (h : j < xs.length) : ((mixR f t xs j).flatMap encTerm)[j * 3 + 1]? = some (.string xs[j].name) := by
  rw [flat_at encTerm 3 encTerm_len _ j (by rw [mixR_len (by omega)]; exact h) 1 (by omega), mixR_at h]; rfl
theorem flatL_app (xs : List LV) (x : LV) : (xs ++ [x]).flatMap encLV = xs.flatMap encLV ++ [.string x.1.target, x.2] := by rw [List.flatMap_append]; rfl
theorem ren_next {f t : ByteArray} {ls : List LineD} {k : Nat} (h : k < ls.length) : (ls.take (k + 1)).map (renL f t) = (ls.take k).map (renL f t) ++ [renL f t ls[k]] := by
  rw [List.take_succ_eq_append_getElem h, List.map_append]; rfl
def RetRP (w : World) (R : ProgD × Int) (e : Ending) (w' : World) : Prop := ∃ i v o l, e = .returned (.tuple #[valP R.1 i v o l, .int .i64 R.2]) ∧ New w w' ∧ RdP w' R.1 i v o l
theorem rdLn_nil {w : World} : RdLn w (.slice none 0 0) [] := ⟨[], rfl, ⟨none, 0, rfl, by simp, ⟨fun _ => rfl, by simp⟩, fun j u hu => by simp at hu⟩, fun p hp => by cases hp⟩
theorem rdS_nil {w : World} : RdS w (.slice none 0 0) [] := ⟨none, 0, rfl, by simp, ⟨fun _ => rfl, by simp⟩, fun j u hu => by simp at hu⟩
theorem retRP_no {fn : Func} {w0 w : World} {a : Act} {c : Int} (hd : a.defers = []) (hn : New w0 w) (hr : (results fn a.tmps).run Tryd.prog w = .ok (.tuple #[.agg #[.string ⟨#[]⟩, .slice none 0 0, .slice none 0 0, .slice none 0 0, .string ⟨#[]⟩, .slice none 0 0], .int .i64 c]) w) : bodyPost Tryd.prog fn (RetRP w0 (noP, c)) .ret a w :=
  ⟨hd, _, hr, _, _, _, _, rfl, hn, rdS_nil, rdS_nil, rdS_nil, rdLn_nil⟩
theorem own_rd1 {w : World} {base : Nat} {r : Value} {xs : List ByteArray} (h : w.ownsRow base 9 1 r xs.length (xs.map Value.string)) : RdS w r xs := own_rd h
theorem one_form {w : World} {base : Nat} {e : TypeId} {sz : Nat} {a : Option Addr} {n c : Nat} {cs : List Value} (h : w.ownsRow base e sz (.slice a n c) n cs) (hn : 0 < n) : ∃ g, a = some ⟨g, 0, none⟩ ∧ base ≤ g ∧ g < w.heap.size := by
  rcases h.2 with ⟨_, h0⟩ | ⟨g, cap, cur, hv, _⟩
  · omega
  · cases hv
    exact ⟨g, rfl, own_block_lt h g rfl⟩
end Go.Proofs.YtadoocadohdfcaaDoor
