/- Contracts: memories marked, and held. -/
import Derived.Test.YtflhdijlhdckoaaGreatDoorProg
import Derived.Test.YtflhdijlhdckoaaGreatDoorMemF
import Derived.Test.YtflhdijlhdckoaaGreatDoorGrew
namespace Go.Proofs.YtflhdijlhdckoaaGreatDoor
open Go Go.Proofs Go.RowKit
set_option linter.unusedVariables false
set_option linter.unusedSimpArgs false
set_option maxRecDepth 100000
/-- Rows of different types lie in different blocks. -/
theorem own_apartT {w w' : World} {base s1 s2 n m : Nat} {e1 e2 : TypeId} {a b : Value} {xs ys : List Value} (on : Only a w w') (ha : w.ownsRow base e1 s1 a n xs) (hb : w.ownsRow base e2 s2 b m ys) (hne : e1 ≠ e2) : w'.ownsRow base e2 s2 b m ys := by
  refine ⟨hb.1, ?_⟩
  rcases hb.2 with hn | ⟨g, cap, cur, rfl, hg, hgg, rest⟩
  · exact .inl hn
  · refine .inr ⟨g, cap, cur, rfl, hg, (on.2.block g (Array.getElem?_eq_some_iff.1 hgg).1 (fun e => ?_)).trans hgg, rest⟩
    rcases ha.2 with ⟨rfl, _⟩ | ⟨g', cap', cur', rfl, _, hgg', _⟩
    · cases e
    · have : g = g' := by simpa [Value.ownBlock] using e
      subst this
      rw [hgg] at hgg'
      cases hgg'
      exact hne rfl
set_option maxHeartbeats 1000000 in
theorem markMemory_any (m : MemD) (a b : Value) (base E k : Nat) (w : World) (h1 : w.ownsRow base 2 1 a m.vals.length (m.vals.map (Value.int .i64))) (h2 : w.ownsRow base 143 3 b m.blocks.length (m.blocks.flatMap encBlockState)) (hb : base ≤ w.heap.size) (hE : E ≤ w.heap.size) (hE1 : ∀ q, a.ownBlock = some q → q < E) (hE2 : ∀ q, b.ownBlock = some q → q < E) (hn1 : m.vals.length ≤ 1048576) (hn2 : m.blocks.length ≤ 1048576) (hk : k ≤ 1048576) :
    Calls Tryz.prog 20 #[.agg #[a, b], .int .i64 k] w fun e w' => e = .returned (.int .i64 ((k + m.vals.length + m.blocks.length * 3 : Nat) : Int)) ∧ Turned base E w w' ∧ RdI w' a (marks k m.vals.length) ∧ Rd w' b m.blocks.length ((marksE (mkBlockState (k + m.vals.length)) m.blocks.length).flatMap encBlockState) := by
  have g1 : (w.alloc (.cells #[a, b] 39)).ownsRow base 2 1 a m.vals.length (m.vals.map (Value.int .i64)) := own_new h1 (by repeat (first | with_reducible exact New.refl _ | with_reducible assumption | with_reducible refine New.drew ?_ | with_reducible refine New.drewN ?_ _ | with_reducible refine New.alloc ?_ _ | with_reducible refine New.setCell ?_ (by first | (simp; done) | (simp; omega) | omega) _ | with_reducible refine New.trans ?_ (by with_reducible assumption)))
  have g2 : (w.alloc (.cells #[a, b] 39)).ownsRow base 143 3 b m.blocks.length (m.blocks.flatMap encBlockState) := own_new h2 (by repeat (first | with_reducible exact New.refl _ | with_reducible assumption | with_reducible refine New.drew ?_ | with_reducible refine New.drewN ?_ _ | with_reducible refine New.alloc ?_ _ | with_reducible refine New.setCell ?_ (by first | (simp; done) | (simp; omega) | omega) _ | with_reducible refine New.trans ?_ (by with_reducible assumption)))
  have l1 := fun q (hq : a.ownBlock = some q) => And.intro (own_block_lt h1 q hq).1 (hE1 q hq)
  have l2 := fun q (hq : b.ownBlock = some q) => And.intro (own_block_lt h2 q hq).1 (hE2 q hq)
  have hbs : base ≤ (w.alloc (.cells #[a, b] 39)).heap.size := by simp; omega
  go_enter Tryz.func20, Tryz.ntmps20
  go_wp2_with fail
  refine (markInt64S_any a m.vals base k _ g1 hn1 (by omega)).mono ?_
  rintro e w1 ⟨rfl, on1, own1⟩
  have t1 : Turned base E _ w1 := Turned.of_only on1 hbs l1
  have g2' := own_apartT on1 g1 g2 (by decide)
  have k1 : w1.cell? ⟨w.heap.size, 1, none⟩ = some b := (t1.abv hE (by simp)).trans (by rw [cell_alloc_new _ _ _ _ _ rfl]; rfl)
  have hs1 : w1.heap.size = w.heap.size + 1 := by have := on1.1; simpa using this
  go_wp2_with fail
  refine (markBlockStateS_any b m.blocks base (k + m.vals.length) _ g2' hn2 (by omega)).mono ?_
  rintro e w2 ⟨rfl, on2, own2⟩
  have t2 : Turned base E w1 w2 := Turned.of_only on2 (by omega) l2
  have own1' := own_apartT on2 g2' own1 (by decide)
  go_wp2_with fail
  go_ret
  refine ⟨rfl, ((Turned.of_new hb (by repeat (first | with_reducible exact New.refl _ | with_reducible assumption | with_reducible refine New.drew ?_ | with_reducible refine New.drewN ?_ _ | with_reducible refine New.alloc ?_ _ | with_reducible refine New.setCell ?_ (by first | (simp; done) | (simp; omega) | omega) _ | with_reducible refine New.trans ?_ (by with_reducible assumption)))).trans t1).trans t2, ?_, own_rd own2⟩
  have := own_rd own1'
  rw [RdI, marks_length]
  exact this
set_option maxHeartbeats 1000000 in
theorem heldMemory_any (a b : Value) (k n nb : Nat) (w : World) (h1 : RdI w a (marks k n)) (h2 : Rd w b nb ((marksE (mkBlockState (k + n)) nb).flatMap encBlockState)) (hn1 : n ≤ 1048576) (hn2 : nb ≤ 1048576) (hk : k ≤ 1048576) :
    Calls Tryz.prog 21 #[.agg #[a, b], .int .i64 k] w fun e w' => e = .returned (.int .i64 ((k + n + nb * 3 : Nat) : Int)) ∧ New w w' := by
  have H1 := Lib.hid h1
  have H2 := Lib.hid h2
  clear h1 h2
  go_enter Tryz.func21, Tryz.ntmps21
  go_wp2_with fail
  refine (heldInt64S_any a k n _ (RdI.new H1.out (by repeat (first | with_reducible exact New.refl _ | with_reducible assumption | with_reducible refine New.drew ?_ | with_reducible refine New.drewN ?_ _ | with_reducible refine New.alloc ?_ _ | with_reducible refine New.setCell ?_ (by first | (simp; done) | (simp; omega) | omega) _ | with_reducible refine New.trans ?_ (by with_reducible assumption)))) hn1 (by omega)).mono ?_; rintro e w1 ⟨rfl, rfl⟩
  go_wp2_with fail
  refine (heldBlockStateS_any b (k + n) nb _ (Rd.new H2.out (by repeat (first | with_reducible exact New.refl _ | with_reducible assumption | with_reducible refine New.drew ?_ | with_reducible refine New.drewN ?_ _ | with_reducible refine New.alloc ?_ _ | with_reducible refine New.setCell ?_ (by first | (simp; done) | (simp; omega) | omega) _ | with_reducible refine New.trans ?_ (by with_reducible assumption)))) hn2 (by omega)).mono ?_; rintro e w2 ⟨rfl, rfl⟩
  go_wp2_with fail
  go_ret
  exact ⟨rfl, (by repeat (first | with_reducible exact New.refl _ | with_reducible assumption | with_reducible refine New.drew ?_ | with_reducible refine New.drewN ?_ _ | with_reducible refine New.alloc ?_ _ | with_reducible refine New.setCell ?_ (by first | (simp; done) | (simp; omega) | omega) _ | with_reducible refine New.trans ?_ (by with_reducible assumption)))⟩
end Go.Proofs.YtflhdijlhdckoaaGreatDoor
