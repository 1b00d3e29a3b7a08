/- The laws' arguments: lists of terms, opened. -/
import Derived.Test.YteielmihlfakgaaGreatDoorProg
import Derived.Test.YteielmihlfakgaaGreatDoorVA
import Derived.Test.YteielmihlfakgaaGreatDoorVB
namespace Go.Proofs.YteielmihlfakgaaGreatDoor
open Go Go.Proofs Go.RowKit Go.ChangeShapes Go.WideShapes Go.ChangeAt
set_option linter.unusedVariables false
set_option linter.unusedSimpArgs false
set_option maxRecDepth 100000
theorem sh_TermS : Sh.of Tryz.prog 5 126 = some (.slice (.pair .int (.pair .str (.pair .int .nil)))) := by kernel_rfl
theorem dec_Term {w : World} (cs : List Value) (h : Sh.Is w (.pair .int (.pair .str (.pair .int .nil))) cs) : ∃ x : {x : ETerm // okTerm x}, cs = encTerm x.val := by
  obtain ⟨_, _, rfl, ⟨kind, rfl, _⟩, ⟨_, _, rfl, ⟨name, rfl, oname⟩, ⟨_, _, rfl, ⟨num, rfl, _⟩, rfl⟩⟩⟩ := h
  exact ⟨⟨⟨kind, name, num⟩, by first | exact ⟨oname⟩ | (simp only [okTerm]; assumption)⟩, rfl⟩
theorem rdTerm_of_sh {w : World} {v : Value} (h : (Sh.slice (.pair .int (.pair .str (.pair .int .nil)))).Is w [v]) : ∃ xs : List ETerm, Rd w v xs.length (xs.flatMap encTerm) ∧ ∀ x ∈ xs, okTerm x := by
  obtain ⟨xs, hx⟩ := rd_of_slice (w := w) (fun x : {x : ETerm // okTerm x} => encTerm x.val) dec_Term (fun x => encTerm_len x.val) h
  refine ⟨xs.map Subtype.val, ?_, ?_⟩
  · rw [List.length_map, List.flatMap_map]; exact hx
  · intro x hx
    obtain ⟨y, _, rfl⟩ := List.mem_map.1 hx
    exact y.property
theorem openTermS {H : Type} {enc : TypeId × Value → H} {W : World} {r : Reach} {base : Nat} {v : Value} {d : DataW H} {p : List MemPlace} (h : DataW.Trod enc Tryz.prog W 0 (fun _ => true) true 126 v d p) (o : Value.okWide Tryz.prog W r base 126 v) :
    ∃ xs : List ETerm, Rd W v xs.length (xs.flatMap encTerm) ∧ ∀ x ∈ xs, okTerm x := by
  obtain ⟨a, n, cap, rfl⟩ := okWide_slice Tryz.underlying126 o
  exact rdTerm_of_sh (Sh.is_of_trod sh_TermS h)
end Go.Proofs.YteielmihlfakgaaGreatDoor
