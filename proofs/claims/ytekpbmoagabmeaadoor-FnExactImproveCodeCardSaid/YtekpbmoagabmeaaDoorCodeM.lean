/- Contracts: the laws' marks on codes. -/
import Derived.Test.YtekpbmoagabmeaaDoorProg
import Derived.Test.YtekpbmoagabmeaaDoorCodeS
import Derived.Test.YtekpbmoagabmeaaDoorTermM
namespace Go.Proofs.YtekpbmoagabmeaaDoor
open Go Go.Proofs Go.RowKit
set_option linter.unusedVariables false
set_option linter.unusedSimpArgs false
set_option maxRecDepth 100000
theorem markCode_any (c : CodeD) (bv sv : Value) (B B2 E k : Nat) (w : World) (hb : w.ownsRow B 56 3 bv c.blocks.length (c.blocks.flatMap encTerm)) (hs : w.ownsRow B2 58 2 sv c.steps.length (c.steps.flatMap encInstruction)) (hBB : B ≤ B2)
    (hk : k ≤ 100000000) (h1 : c.blocks.length ≤ 1048576) (h2 : c.steps.length ≤ 1048576) (hbE : ∀ k, bv.ownBlock = some k → k < E ∧ k < B2) (hsE : ∀ k, sv.ownBlock = some k → k < E) (hB : B ≤ w.heap.size) (hE : E ≤ w.heap.size) :
    Calls Tryd.prog 11 #[valC c bv sv, .int .i64 k] w fun e w' => e = .returned (.int .i64 ((k + c.blocks.length * 3 + c.steps.length * 2 : Nat) : Int)) ∧ Turned B E w w' := by
  have hbb := own_block_lt hb
  have hsb := own_block_lt hs
  go_enter Tryd.func11, Tryd.ntmps11
  go_wp2_with fail
  refine (markTermS_any _ c.blocks B k _ (hb.alloc _) h1 (by omega)).mono ?_
  rintro e w1 ⟨rfl, on1, own1⟩
  have t1 : Turned B E _ w1 := Turned.of_onlyG on1 (by simp; omega) (fun k hk => ⟨(hbb k hk).1, (hbE k hk).1⟩)
  have s1 := onlyG_own on1 (hs.alloc (.cells #[.int .i64 c.ins, .int .i64 c.vars, .int .i64 c.outs, bv, sv] 30)) (fun k hk => (hbE k hk).2)
  have d1 := t1.abv (b := w.heap.size) (o := 4) hE (by simp)
  simp at d1
  go_wp2_with fail
  refine (markInstructionS_any _ c.steps B2 (k + c.blocks.length * 3) _ s1 h2 (by omega)).mono ?_
  rintro e w2 ⟨rfl, on2, own2⟩
  have t2 : Turned B E _ w2 := Turned.of_only on2 (by have := Below.size t1.1; simp at this; omega) (fun k hk => ⟨by have := (hsb k hk).1; omega, hsE k hk⟩)
  go_wp2_with fail
  go_ret
  exact ⟨rfl, ((Turned.of_new hB ((New.refl w).alloc _)).trans t1).trans t2⟩
end Go.Proofs.YtekpbmoagabmeaaDoor
