/- Contracts: slices.Clone at instructions and at terms. -/
import Derived.WalkSpells
import Derived.Test.YteielmihlfakgaaDoorProg
import Derived.Test.YteielmihlfakgaaDoorAppRd
import Derived.Test.YteielmihlfakgaaDoorUC
import Derived.Test.YteielmihlfakgaaDoorTermS
import Derived.Test.YteielmihlfakgaaDoorCells
namespace Go.Proofs.YteielmihlfakgaaDoor
open Go Go.Proofs Go.RowKit
set_option linter.unusedVariables false
set_option linter.unusedSimpArgs false
set_option maxRecDepth 100000
theorem encI_one (xs : List EInstruction) : ∀ u ∈ xs.flatMap encInstruction, u.oneCell' = true := by
  intro u hu
  obtain ⟨x, _, hx⟩ := List.mem_flatMap.1 hu
  simp [encInstruction] at hx
  rcases hx with rfl | rfl <;> rfl
theorem encT_one (xs : List ETerm) : ∀ u ∈ xs.flatMap encTerm, u.oneCell' = true := by
  intro u hu
  obtain ⟨x, _, hx⟩ := List.mem_flatMap.1 hu
  simp [encTerm] at hx
  rcases hx with rfl | rfl | rfl <;> rfl
set_option maxHeartbeats 1000000 in
theorem cloneI_any (v : Value) (xs : List EInstruction) (w : World) (hv : RdN w v xs) (hn : xs.length ≤ 1048576) :
    Calls Tryd.prog 73 #[v] w fun e w' => ∃ r, e = .returned r ∧ New w w' ∧ w'.ownsRow w.heap.size 94 2 r xs.length (xs.flatMap encInstruction) := by
  obtain ⟨i0, hi, hz0, hz1, hz2⟩ := info_parts infoInstruction
  have HV := Lib.hid hv
  obtain ⟨a, cap, rfl, hm, ⟨hno, _⟩, _⟩ := hv
  have hnil := fun (w : World) (a : Option Addr) (n c : Nat) => Lib.run_eql_slice_nil (P := Tryd.prog) w 57 94 a n c 0 0 Tryd.underlying57
  cases a with
  | none =>
    have hx : xs = [] := List.eq_nil_of_length_eq_zero (hno rfl)
    subst hx
    go_enter Tryd.func73, Tryd.ntmps73
    go_wp2_with fail
    go_ret
    exact ⟨_, rfl, (by repeat (first | with_reducible exact New.refl _ | with_reducible assumption | with_reducible refine New.drew ?_ | with_reducible refine New.drewN ?_ _ | with_reducible refine New.alloc ?_ _ | with_reducible refine New.setCell ?_ (by first | (simp; done) | (simp; omega) | omega) _ | with_reducible refine New.trans ?_ (by with_reducible assumption))), ⟨rfl, .inl ⟨rfl, rfl⟩⟩⟩
  | some ad =>
    have own0 : (w.alloc (.cells #[] 94)).ownsRow w.heap.size 94 2 (.slice (some ⟨w.heap.size, 0, none⟩) 0 0) 0 [] := own_empty (Nat.le_refl _)
    go_enter Tryd.func73, Tryd.ntmps73
    go_wp2_with (first | (at_builtin; refine wpList_append_rd rfl _ _ 57 rfl (w.heap.size) 94 i0 (Value.agg #[.int .i64 0, .int .i64 0]) 2 16 Tryd.underlying57 hi hz0 hz1 hz2 rfl (by decide) _ _ _ rfl (own0) _ _ ((xs).flatMap encInstruction) rfl (Rd.new HV.out (by repeat (first | with_reducible exact New.refl _ | with_reducible assumption | with_reducible refine New.drew ?_ | with_reducible refine New.drewN ?_ _ | with_reducible refine New.alloc ?_ _ | with_reducible refine New.setCell ?_ (by first | (simp; done) | (simp; omega) | omega) _ | with_reducible refine New.trans ?_ (by with_reducible assumption)))) (flat_length encInstruction 2 encInstruction_len _) (encI_one _) (by unfold maxLen; omega) (by omega) (by first | (simp; done) | (simp; omega) | omega) ?_; intro va wa howna hgra))
    have ba := New.grown (show New w _ by exact (by repeat (first | with_reducible exact New.refl _ | with_reducible assumption | with_reducible refine New.drew ?_ | with_reducible refine New.drewN ?_ _ | with_reducible refine New.alloc ?_ _ | with_reducible refine New.setCell ?_ (by first | (simp; done) | (simp; omega) | omega) _ | with_reducible refine New.trans ?_ (by with_reducible assumption)))) hgra (fun q hq => by have := (own_block_lt own0 q hq).1; simpa using this)
    go_ret
    exact ⟨_, rfl, ba, by simpa using howna⟩
set_option maxHeartbeats 1000000 in
theorem cloneT_any (v : Value) (xs : List ETerm) (w : World) (hv : RdT w v xs) (hn : xs.length ≤ 1048576) :
    Calls Tryd.prog 72 #[v] w fun e w' => ∃ r, e = .returned r ∧ New w w' ∧ w'.ownsRow w.heap.size 43 3 r xs.length (xs.flatMap encTerm) := by
  obtain ⟨i0, hi, hz0, hz1, hz2⟩ := info_parts infoTerm
  have HV := Lib.hid hv
  obtain ⟨a, cap, rfl, hm, ⟨hno, _⟩, _⟩ := hv
  have hnil := fun (w : World) (a : Option Addr) (n c : Nat) => Lib.run_eql_slice_nil (P := Tryd.prog) w 36 43 a n c 0 0 Tryd.underlying36
  cases a with
  | none =>
    have hx : xs = [] := List.eq_nil_of_length_eq_zero (hno rfl)
    subst hx
    go_enter Tryd.func72, Tryd.ntmps72
    go_wp2_with fail
    go_ret
    exact ⟨_, rfl, (by repeat (first | with_reducible exact New.refl _ | with_reducible assumption | with_reducible refine New.drew ?_ | with_reducible refine New.drewN ?_ _ | with_reducible refine New.alloc ?_ _ | with_reducible refine New.setCell ?_ (by first | (simp; done) | (simp; omega) | omega) _ | with_reducible refine New.trans ?_ (by with_reducible assumption))), ⟨rfl, .inl ⟨rfl, rfl⟩⟩⟩
  | some ad =>
    have own0 : (w.alloc (.cells #[] 43)).ownsRow w.heap.size 43 3 (.slice (some ⟨w.heap.size, 0, none⟩) 0 0) 0 [] := own_empty (Nat.le_refl _)
    go_enter Tryd.func72, Tryd.ntmps72
    go_wp2_with (first | (at_builtin; refine wpList_append_rd rfl _ _ 36 rfl (w.heap.size) 43 i0 (Value.agg #[.int .i64 0, .string ⟨#[]⟩, .int .i64 0]) 3 32 Tryd.underlying36 hi hz0 hz1 hz2 rfl (by decide) _ _ _ rfl (own0) _ _ ((xs).flatMap encTerm) rfl (Rd.new HV.out (by repeat (first | with_reducible exact New.refl _ | with_reducible assumption | with_reducible refine New.drew ?_ | with_reducible refine New.drewN ?_ _ | with_reducible refine New.alloc ?_ _ | with_reducible refine New.setCell ?_ (by first | (simp; done) | (simp; omega) | omega) _ | with_reducible refine New.trans ?_ (by with_reducible assumption)))) (flat_length encTerm 3 encTerm_len _) (encT_one _) (by unfold maxLen; omega) (by omega) (by first | (simp; done) | (simp; omega) | omega) ?_; intro va wa howna hgra))
    have ba := New.grown (show New w _ by exact (by repeat (first | with_reducible exact New.refl _ | with_reducible assumption | with_reducible refine New.drew ?_ | with_reducible refine New.drewN ?_ _ | with_reducible refine New.alloc ?_ _ | with_reducible refine New.setCell ?_ (by first | (simp; done) | (simp; omega) | omega) _ | with_reducible refine New.trans ?_ (by with_reducible assumption)))) hgra (fun q hq => by have := (own_block_lt own0 q hq).1; simpa using this)
    go_ret
    exact ⟨_, rfl, ba, by simpa using howna⟩
end Go.Proofs.YteielmihlfakgaaDoor
