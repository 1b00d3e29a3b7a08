/- The laws' arguments: lists of tokens, opened. -/
import Derived.Test.YtflhdijlhdckoaaDoorProg
import Derived.Test.YtflhdijlhdckoaaDoorShape
import Derived.Test.YtflhdijlhdckoaaDoorTokS
namespace Go.Proofs.YtflhdijlhdckoaaDoor
open Go Go.Proofs Go.RowKit Go.ChangeShapes Go.WideShapes Go.ChangeAt
set_option linter.unusedVariables false
set_option linter.unusedSimpArgs false
set_option maxRecDepth 100000
theorem sh_TokenS : Sh.of Tryd.prog 5 56 = some (.slice (.pair .int (.pair .str .nil))) := by kernel_rfl
theorem dec_Token {w : World} (cs : List Value) (h : Sh.Is w (.pair .int (.pair .str .nil)) cs) : ∃ x : {x : EToken // okToken x}, cs = encToken x.val := by
  obtain ⟨_, _, rfl, ⟨kind, rfl, _⟩, ⟨_, _, rfl, ⟨text, rfl, otext⟩, rfl⟩⟩ := h
  exact ⟨⟨⟨kind, text⟩, by first | exact ⟨otext⟩ | (simp only [okToken]; assumption)⟩, rfl⟩
theorem rdToken_of_sh {w : World} {v : Value} (h : (Sh.slice (.pair .int (.pair .str .nil))).Is w [v]) : ∃ xs : List EToken, Rd w v xs.length (xs.flatMap encToken) ∧ ∀ x ∈ xs, okToken x := by
  obtain ⟨xs, hx⟩ := rd_of_slice (w := w) (fun x : {x : EToken // okToken x} => encToken x.val) dec_Token (fun x => encToken_len x.val) h
  refine ⟨xs.map Subtype.val, ?_, ?_⟩
  · rw [List.length_map, List.flatMap_map]; exact hx
  · intro x hx
    obtain ⟨y, _, rfl⟩ := List.mem_map.1 hx
    exact y.property
theorem openTokenS {H : Type} {enc : TypeId × Value → H} {W : World} {r : Reach} {base : Nat} {v : Value} {d : DataW H} {p : List MemPlace} (h : DataW.Trod enc Tryd.prog W 0 (fun _ => true) true 56 v d p) (o : Value.okWide Tryd.prog W r base 56 v) :
    ∃ xs : List EToken, Rd W v xs.length (xs.flatMap encToken) ∧ ∀ x ∈ xs, okToken x := by
  obtain ⟨a, n, cap, rfl⟩ := okWide_slice Tryd.underlying56 o
  exact rdToken_of_sh (Sh.is_of_trod sh_TokenS h)
end Go.Proofs.YtflhdijlhdckoaaDoor
