/- Contracts: the laws' helpers on reports. -/
import Derived.Test.YtinlichcbjpeaaaProg
import Derived.Test.YtinlichcbjpeaaaNum
import Derived.Test.YtinlichcbjpeaaaInts
import Derived.Test.YtinlichcbjpeaaaFunc
import Derived.Test.YtinlichcbjpeaaaFaults
namespace Go.Proofs.Ytinlichcbjpeaaa
open Go Go.Proofs Go.RowKit
set_option linter.unusedVariables false
set_option linter.unusedSimpArgs false
set_option maxRecDepth 100000
def sz2 (n m : Nat) (left : Int) : Int := if szL n left < 0 then -1 else szL m (szL n left)
theorem sz2_bd {n m : Nat} {left : Int} (h : 0 ≤ sz2 n m left) : (n : Int) ≤ left ∧ (m : Int) ≤ left - n ∧ sz2 n m left = left - n - m := by
  unfold sz2 at *
  split at h
  · omega
  · rename_i h1
    have a := szL_bd (Int.not_lt.1 h1)
    have b := szL_bd h
    rw [a.2] at b
    rw [if_neg h1, a.2]
    exact ⟨a.1, b.1, b.2⟩
theorem sz2_range {n m : Nat} {left : Int} (h0 : 0 ≤ left) (h : left ≤ 1048576) : -1 ≤ sz2 n m left ∧ sz2 n m left ≤ 1048576 := by
  unfold sz2
  have a := szL_range (n := n) h0 h
  split
  · omega
  · exact szL_range (by omega) (by omega)
theorem Turned.above {B E : Nat} {w w' : World} (h : Turned B E w w') {b o : Nat} (hb : E ≤ b) (hl : b < w.heap.size) : w'.cell? ⟨b, o, none⟩ = w.cell? ⟨b, o, none⟩ := World.cell?_of_block (h.2 b hb hl)
theorem eqReport_any (u v u' v' : Value) (f s f' s' : List Int) (w : World) (hu : RdI w u f) (hv : RdI w v s) (hu' : RdI w u' f') (hv' : RdI w v' s') :
    Calls Try.prog 46 #[.agg #[u, v], .agg #[u', v']] w fun e w' => e = .returned (.bool (decide (f = f' ∧ s = s'))) ∧ New w w' := by
  by_cases hne : f = f'
  · go_enter Try.func46, Try.ntmps46
    go_wp2_with fail
    refine (eqInt64S_any _ _ f f' _ (hu.new (by repeat (first | with_reducible exact New.refl _ | with_reducible assumption | with_reducible refine New.drew ?_ | with_reducible refine New.drewN ?_ _ | with_reducible refine New.alloc ?_ _ | with_reducible refine New.setCell ?_ (by first | (simp; done) | (simp; omega) | omega) _ | with_reducible refine New.trans ?_ (by with_reducible assumption)))) (hu'.new (by repeat (first | with_reducible exact New.refl _ | with_reducible assumption | with_reducible refine New.drew ?_ | with_reducible refine New.drewN ?_ _ | with_reducible refine New.alloc ?_ _ | with_reducible refine New.setCell ?_ (by first | (simp; done) | (simp; omega) | omega) _ | with_reducible refine New.trans ?_ (by with_reducible assumption))))).mono ?_
    rintro e w1 ⟨rfl, n, rfl⟩
    go_wp2_with fail
    refine (eqInt64S_any _ _ s s' _ (hv.new (by repeat (first | with_reducible exact New.refl _ | with_reducible assumption | with_reducible refine New.drew ?_ | with_reducible refine New.drewN ?_ _ | with_reducible refine New.alloc ?_ _ | with_reducible refine New.setCell ?_ (by first | (simp; done) | (simp; omega) | omega) _ | with_reducible refine New.trans ?_ (by with_reducible assumption)))) (hv'.new (by repeat (first | with_reducible exact New.refl _ | with_reducible assumption | with_reducible refine New.drew ?_ | with_reducible refine New.drewN ?_ _ | with_reducible refine New.alloc ?_ _ | with_reducible refine New.setCell ?_ (by first | (simp; done) | (simp; omega) | omega) _ | with_reducible refine New.trans ?_ (by with_reducible assumption))))).mono ?_
    rintro e w2 ⟨rfl, n2, rfl⟩
    go_wp2_with fail
    all_goals (go_ret; exact ⟨ret_bool (by simp_all), (by repeat (first | with_reducible exact New.refl _ | with_reducible assumption | with_reducible refine New.drew ?_ | with_reducible refine New.drewN ?_ _ | with_reducible refine New.alloc ?_ _ | with_reducible refine New.setCell ?_ (by first | (simp; done) | (simp; omega) | omega) _ | with_reducible refine New.trans ?_ (by with_reducible assumption)))⟩)
  · go_enter Try.func46, Try.ntmps46
    go_wp2_with fail
    refine (eqInt64S_any _ _ f f' _ (hu.new (by repeat (first | with_reducible exact New.refl _ | with_reducible assumption | with_reducible refine New.drew ?_ | with_reducible refine New.drewN ?_ _ | with_reducible refine New.alloc ?_ _ | with_reducible refine New.setCell ?_ (by first | (simp; done) | (simp; omega) | omega) _ | with_reducible refine New.trans ?_ (by with_reducible assumption)))) (hu'.new (by repeat (first | with_reducible exact New.refl _ | with_reducible assumption | with_reducible refine New.drew ?_ | with_reducible refine New.drewN ?_ _ | with_reducible refine New.alloc ?_ _ | with_reducible refine New.setCell ?_ (by first | (simp; done) | (simp; omega) | omega) _ | with_reducible refine New.trans ?_ (by with_reducible assumption))))).mono ?_
    rintro e w1 ⟨rfl, n, rfl⟩
    go_wp2_with fail
    go_ret; exact ⟨ret_bool (by simp_all), (by repeat (first | with_reducible exact New.refl _ | with_reducible assumption | with_reducible refine New.drew ?_ | with_reducible refine New.drewN ?_ _ | with_reducible refine New.alloc ?_ _ | with_reducible refine New.setCell ?_ (by first | (simp; done) | (simp; omega) | omega) _ | with_reducible refine New.trans ?_ (by with_reducible assumption)))⟩
set_option maxHeartbeats 400000 in
theorem markReport_any (u v : Value) (f s : List Int) (B B2 E k : Nat) (w : World) (hu : w.ownsRow B 2 1 u f.length (f.map (Value.int .i64))) (hv : w.ownsRow B2 2 1 v s.length (s.map (Value.int .i64))) (hBB : B ≤ B2)
    (hk : k ≤ 100000000) (hf : f.length ≤ 1048576) (hs : s.length ≤ 1048576) (huE : ∀ k, u.ownBlock = some k → k < E ∧ k < B2) (hvE : ∀ k, v.ownBlock = some k → k < E) (hB : B ≤ w.heap.size) (hE : E ≤ w.heap.size) :
    Calls Try.prog 49 #[.agg #[u, v], .int .i64 k] w fun e w' => e = .returned (.int .i64 ((k + f.length + s.length : Nat) : Int)) ∧ Turned B E w w' := by
  have hub := own_block_lt hu
  have hvb := own_block_lt hv
  go_enter Try.func49, Try.ntmps49
  go_wp2_with fail
  refine (markInt64S_any _ f B k _ (hu.alloc _) hf (by omega)).mono ?_
  rintro e w1 ⟨rfl, on1, own1⟩
  have t1 : Turned B E _ w1 := Turned.of_only on1 (by simp; omega) (fun k hk => ⟨(hub k hk).1, (huE k hk).1⟩)
  have c1 := t1.rules.1
  have hv1 := only_own on1 (hv.alloc (.cells #[u, v] 26)) (fun k hk => (huE k hk).2)
  have d1 := t1.above (b := w.heap.size) (o := 1) hE (by simp)
  simp at d1
  go_wp2_with fail
  refine (markInt64S_any _ s B2 (k + f.length) _ hv1 hs (by omega)).mono ?_
  rintro e w2 ⟨rfl, on2, own2⟩
  have t2 : Turned B E _ w2 := Turned.of_only on2 (by have := Below.size t1.1; simp at this; omega) (fun k hk => ⟨by have := (hvb k hk).1; omega, hvE k hk⟩)
  go_wp2_with fail
  go_ret
  exact ⟨rfl, ((Turned.of_new hB ((New.refl w).alloc _)).trans t1).trans t2⟩
end Go.Proofs.Ytinlichcbjpeaaa
