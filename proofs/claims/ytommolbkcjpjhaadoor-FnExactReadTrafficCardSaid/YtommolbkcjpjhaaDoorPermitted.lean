/- Contracts: the trains whose moves are permitted. -/
import Derived.Test.YtommolbkcjpjhaaDoorProg
import Derived.Test.YtommolbkcjpjhaaDoorPermits
namespace Go.Proofs.YtommolbkcjpjhaaDoor
open Go Go.Proofs Go.RowKit
set_option linter.unusedVariables false
set_option linter.unusedSimpArgs false
set_option maxRecDepth 100000
def permOf (b : Int) (ps f s : List Int) : List Int × Int := if isTraf b ps then if isRep b f s then (picked (permP b ps f s) ps.length, 0) else ([], 2) else ([], 1)
theorem isTraf_bd {b : Int} {ps : List Int} (h : isTraf b ps = true) : (2 ≤ b ∧ b ≤ 8) ∧ (1 ≤ ps.length ∧ ps.length ≤ 4) ∧ ∀ k (hk : k < ps.length), 0 ≤ ps[k] ∧ ps[k] ≤ 3 * b - 1 := by
  simp only [isTraf, Bool.and_eq_true, Bool.not_eq_true'] at h
  obtain ⟨⟨h1, h2⟩, h3⟩ := h
  have h2' := inB_iff.1 h2
  refine ⟨inB_iff.1 h1, by omega, fun k hk => ?_⟩
  rw [List.any_eq_false] at h3
  have := h3 ps[k] (List.getElem_mem hk)
  simp at this
  exact inB_iff.1 this
theorem markTraffic_any (b : Int) (u : Value) (f : List Int) (B E k : Nat) (w : World) (hu : w.ownsRow B 2 1 u f.length (f.map (Value.int .i64)))
    (hk : k ≤ 100000000) (hf : f.length ≤ 1048576) (huE : ∀ k, u.ownBlock = some k → k < E) (hB : B ≤ w.heap.size) :
    Calls Tryd.prog 14 #[.agg #[.int .i64 b, u], .int .i64 k] w fun e w' => e = .returned (.int .i64 ((k + f.length : Nat) : Int)) ∧ Turned B E w w' := by
  have hub := own_block_lt hu
  go_enter Tryd.func14, Tryd.ntmps14
  go_wp2_with fail
  refine (markInt64S_any _ f B k _ (hu.alloc _) hf (by omega)).mono ?_
  rintro e w1 ⟨rfl, on1, own1⟩
  have t1 : Turned B E _ w1 := Turned.of_only on1 (by simp; omega) (fun k hk => ⟨(hub k hk).1, huE k hk⟩)
  go_wp2_with fail
  go_ret
  exact ⟨rfl, (Turned.of_new hB ((New.refl w).alloc _)).trans t1⟩
end Go.Proofs.YtommolbkcjpjhaaDoor
