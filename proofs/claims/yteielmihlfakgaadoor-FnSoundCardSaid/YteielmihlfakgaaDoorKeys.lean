/- The keywords' table: what the row's list gives, and what a walk reads. -/
import Derived.Lib.LaidTab
import Derived.Deep.DeepHandedRow
import Derived.Test.YteielmihlfakgaaDoorProg
import Derived.Test.YteielmihlfakgaaDoorRows
import Derived.Test.YteielmihlfakgaaDoorBase
namespace Go.Proofs.YteielmihlfakgaaDoor
open Go Go.RowKit Go.ChangeShapes Go.WideShapes Go.ChangeAt
set_option linter.unusedVariables false
set_option linter.unusedSimpArgs false
set_option maxRecDepth 100000
def kw (l : List UInt8) : ByteArray := ⟨l.toArray⟩
def keyData : List (List UInt8) := [[112, 114, 111, 103, 114, 97, 109], [105, 110], [118, 97, 114], [111, 117, 116], [103, 117, 97, 114, 100], [101, 110, 100], [97, 110, 100], [111, 114], [110, 111, 116], [116, 114, 117, 101], [102, 97, 108, 115, 101], [111, 110], [111, 102, 102], [114, 105, 115, 101], [108, 97, 116, 99, 104], [99, 111, 117, 110, 116], [112, 97, 105, 114]]
def keys : List ByteArray := keyData.map kw
theorem keys_len : keys.length = 17 := rfl
theorem cells_of_stab {H : Type} {enc : TypeId × Value → H} {P : Program} {w : World} {base : Nat} {sp : Nat → Bool} {held : Bool} {fuel : Nat} {t e : TypeId} {n : Nat} {cs : List Value} {zs : List (List UInt8)} {p : List MemPlace}
    (ht : P.underlying t = some (.array n e)) (he : P.underlying e = some .string) (hce : P.cellsOf e = 1) (hct : P.cellsOf t = n)
    (h : DataW.trod enc P w base sp held fuel t cs = some (.agg (zs.map fun z => .lit (.string z)), p)) : cs = zs.map fun z => Value.string (kw z) := by
  cases fuel with
  | zero => simp [DataW.trod] at h
  | succ fuel =>
    simp only [DataW.trod, ht, hce, hct, Nat.mul_one] at h
    split at h
    · rename_i hl
      obtain ⟨xs, hm, hx⟩ := Option.map_eq_some_iff.1 h
      have hxs : xs.map (·.1) = zs.map fun z => (DataW.lit (.string z) : DataW H) := by
        have := congrArg Prod.fst hx
        simpa using this
      have hxl : xs.length = n := by simpa using Lib.mapM_length hm
      have hzl : zs.length = n := by
        have := congrArg List.length hxs
        simp at this
        omega
      apply List.ext_getElem?
      intro i
      by_cases hi : i < n
      · obtain ⟨b, hb, hf⟩ := Lib.mapM_at hm i i (by simp [hi])
        obtain ⟨z, hc, rfl, _⟩ := DataW.trod_string he hf
        have h1 : cs[i]? = some (.string z) := by
          have := congrArg (·[0]?) hc
          simpa [List.getElem?_take, List.getElem?_drop] using this
        have h2 : (xs.map (·.1))[i]? = some (DataW.lit (.string z.data.toList) : DataW H) := by simp [hb]
        rw [hxs] at h2
        simp only [List.getElem?_map, Option.map_eq_some_iff, DataW.lit.injEq, Lit.string.injEq] at h2
        obtain ⟨z', hz', rfl⟩ := h2
        simp [h1, hz', kw]
      · rw [List.getElem?_eq_none (by omega), List.getElem?_eq_none (by simp; omega)]
    · cases h
theorem keys_of_head {P : Program} {W : World} {name : String} {rest : List (String × DataW Unit)} {g : Nat} {t e : TypeId} {n : Nat} {zs : List (List UInt8)}
    (hg : P.globalNamed name = some g) (hty : (P.globals[g]?).map (·.type) = some t) (ht : P.underlying t = some (.array n e)) (he : P.underlying e = some .string) (hce : P.cellsOf e = 1) (hct : P.cellsOf t = n)
    (h : laidMet P ((name, .agg (zs.map fun z => .lit (.string z))) :: rest) W) : W.var? P name = some (zs.map fun z => Value.string (kw z)).toArray := by
  obtain ⟨ps, ⟨g', t', cs, fuel, p, q, hg', ht', hvar, hd, _, _⟩, _⟩ := h
  obtain rfl := Option.some.inj (hg.symm.trans hg')
  obtain rfl := Option.some.inj (hty.symm.trans ht')
  rw [hvar, ← cells_of_stab ht he hce hct hd]
/-- The table lies in block 0. -/
def KW (w : World) : Prop := Rd w (.slice (some ⟨0, 0, none⟩) 17 17) 17 (keys.map Value.string)
theorem KW.new {w w' : World} (h : KW w) (hn : New w w') : KW w' := Rd.new h hn
theorem KW.of_var {W : World} (h : W.var? Tryd.prog "loop.example/g00916/impl.keywords" = some (keyData.map fun z => Value.string (kw z)).toArray) : KW W := by
  have hg : Tryd.prog.globalNamed "loop.example/g00916/impl.keywords" = some 0 := by kernel_rfl
  have hlt : 0 < W.heap.size := by
    unfold World.var? at h
    simp only [hg, Option.bind_some] at h
    rcases Nat.lt_or_ge 0 W.heap.size with hl | hl
    · exact hl
    · rw [Array.getElem?_eq_none hl] at h; cases h
  refine ⟨_, 17, rfl, by omega, ⟨(fun h => by cases h), Nat.le_refl _⟩, fun j u hu => ⟨0, 0, rfl, hlt, ?_⟩⟩
  have := World.var?_cell hg h j
  rw [Nat.zero_add]
  rw [this]
  simpa [keys, List.map_map] using hu
theorem keys_of_laid {W : World} (h : laidMetH Tryd.prog [("loop.example/g00916/impl.keywords", .agg (keyData.map fun z => .lit (.string z)))] W) : KW W :=
  KW.of_var (keys_of_head (g := 0) (rest := []) (by kernel_rfl) (by kernel_rfl) Tryd.underlying164 Tryd.underlying9 (by kernel_rfl) (by kernel_rfl) h)
end Go.Proofs.YteielmihlfakgaaDoor
