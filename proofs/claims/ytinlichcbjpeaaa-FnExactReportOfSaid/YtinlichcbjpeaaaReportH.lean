/- Contracts: reports marked and held, their contents told. -/
import Derived.Test.YtinlichcbjpeaaaProg
import Derived.Test.YtinlichcbjpeaaaReport
import Derived.Test.YtinlichcbjpeaaaInts
import Derived.Test.YtinlichcbjpeaaaRegion
namespace Go.Proofs.Ytinlichcbjpeaaa
open Go Go.Proofs Go.RowKit
set_option linter.unusedVariables false
set_option linter.unusedSimpArgs false
set_option maxRecDepth 100000
set_option maxHeartbeats 400000 in
theorem markReport2_any (u v : Value) (f s : List Int) (B B2 E k : Nat) (w : World) (hu : w.ownsRow B 2 1 u f.length (f.map (Value.int .i64))) (hv : w.ownsRow B2 2 1 v s.length (s.map (Value.int .i64))) (hBB : B ≤ B2)
    (hk : k ≤ 100000000) (hf : f.length ≤ 1048576) (hs : s.length ≤ 1048576) (huE : ∀ k, u.ownBlock = some k → k < E ∧ k < B2) (hvE : ∀ k, v.ownBlock = some k → k < E) (hB : B ≤ w.heap.size) (hE : E ≤ w.heap.size) :
    Calls Try.prog 49 #[.agg #[u, v], .int .i64 k] w fun e w' => e = .returned (.int .i64 ((k + f.length + s.length : Nat) : Int)) ∧ Turned B E w w' ∧ RdI w' u (marks k f.length) ∧ RdI w' v (marks (k + f.length) s.length) := by
  have hub := own_block_lt hu
  have hvb := own_block_lt hv
  go_enter Try.func49, Try.ntmps49
  go_wp2_with fail
  refine (markInt64S_any _ f B k _ (hu.alloc _) hf (by omega)).mono ?_
  rintro e w1 ⟨rfl, on1, own1⟩
  have t1 : Turned B E _ w1 := Turned.of_only on1 (by simp; omega) (fun k hk => ⟨(hub k hk).1, (huE k hk).1⟩)
  have c1 := t1.rules.1
  have hv1 := only_own on1 (hv.alloc (.cells #[u, v] 26)) (fun k hk => (huE k hk).2)
  have d1 := t1.above (b := w.heap.size) (o := 1) hE (by simp)
  simp at d1
  go_wp2_with fail
  refine (markInt64S_any _ s B2 (k + f.length) _ hv1 hs (by omega)).mono ?_
  rintro e w2 ⟨rfl, on2, own2⟩
  have t2 : Turned B E _ w2 := Turned.of_only on2 (by have := Below.size t1.1; simp at this; omega) (fun k hk => ⟨by have := (hvb k hk).1; omega, hvE k hk⟩)
  have own1' := own1.kept on2.2 (by
    cases hb : u.ownBlock with
    | none => exact .inl rfl
    | some q => exact .inr (fun e => by have h1 := (huE q hb).2; have h2 := (hvb q e.symm).1; omega))
  go_wp2_with fail
  go_ret
  refine ⟨rfl, ((Turned.of_new hB ((New.refl w).alloc _)).trans t1).trans t2, ?_, ?_⟩
  · have := own_rd own1'; rwa [RdI, marks_length]
  · have := own_rd own2; rwa [RdI, marks_length]
set_option maxHeartbeats 400000 in
theorem heldReport_any (u v : Value) (k n m : Nat) (w : World) (hu : RdI w u (marks k n)) (hv : RdI w v (marks (k + n) m)) (hk : k ≤ 100000000) (hn : n ≤ 1048576) (hm : m ≤ 1048576) :
    Calls Try.prog 50 #[.agg #[u, v], .int .i64 k] w fun e w' => e = .returned (.int .i64 ((k + n + m : Nat) : Int)) ∧ New w w' := by
  have HU := Lib.hid hu
  have HV := Lib.hid hv
  clear hu hv
  go_enter Try.func50, Try.ntmps50
  go_wp2_with fail
  refine (heldInt64S_any _ k n _ (HU.out.new (by repeat (first | with_reducible exact New.refl _ | with_reducible assumption | with_reducible refine New.drew ?_ | with_reducible refine New.drewN ?_ _ | with_reducible refine New.alloc ?_ _ | with_reducible refine New.setCell ?_ (by first | (simp; done) | (simp; omega) | omega) _ | with_reducible refine New.trans ?_ (by with_reducible assumption)))) hn (by omega)).mono ?_; rintro e w1 ⟨rfl, rfl⟩
  go_wp2_with fail
  refine (heldInt64S_any _ (k + n) m _ (HV.out.new (by repeat (first | with_reducible exact New.refl _ | with_reducible assumption | with_reducible refine New.drew ?_ | with_reducible refine New.drewN ?_ _ | with_reducible refine New.alloc ?_ _ | with_reducible refine New.setCell ?_ (by first | (simp; done) | (simp; omega) | omega) _ | with_reducible refine New.trans ?_ (by with_reducible assumption)))) hm (by omega)).mono ?_; rintro e w1 ⟨rfl, rfl⟩
  go_wp2_with fail
  go_ret
  exact ⟨rfl, (by repeat (first | with_reducible exact New.refl _ | with_reducible assumption | with_reducible refine New.drew ?_ | with_reducible refine New.drewN ?_ _ | with_reducible refine New.alloc ?_ _ | with_reducible refine New.setCell ?_ (by first | (simp; done) | (simp; omega) | omega) _ | with_reducible refine New.trans ?_ (by with_reducible assumption)))⟩
end Go.Proofs.Ytinlichcbjpeaaa
