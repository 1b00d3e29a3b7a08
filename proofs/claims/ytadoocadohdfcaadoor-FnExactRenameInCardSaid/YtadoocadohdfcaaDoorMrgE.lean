/- InstrS, Codes, CloneW: several texts in one. -/
import Derived.Test.YtadoocadohdfcaaDoorProg
import Derived.Test.YtadoocadohdfcaaDoorInts
import Derived.Test.YtadoocadohdfcaaDoorTermS
import Derived.Test.YtadoocadohdfcaaDoorHeights
import Derived.WalkSpells
import Derived.Test.YtadoocadohdfcaaDoorAppRd
import Derived.Test.YtadoocadohdfcaaDoorCells
namespace Go.Proofs.YtadoocadohdfcaaDoor
open Go Go.Proofs Go.RowKit
set_option linter.unusedVariables false
set_option linter.unusedSimpArgs false
set_option maxRecDepth 100000
structure EInstruction where (op : Int) (arg : Int)
  deriving DecidableEq
def encInstruction (x : EInstruction) : List Value := [.int .i64 x.op, .int .i64 x.arg]
theorem encInstruction_len (x : EInstruction) : (encInstruction x).length = 2 := rfl
def valInstruction (x : EInstruction) : Value := .agg #[.int .i64 x.op, .int .i64 x.arg]
def mkInstruction (k : Nat) (j : Nat) : EInstruction := ⟨((k + j * 2 : Nat) : Int), ((k + j * 2 + 1 : Nat) : Int)⟩
end Go.Proofs.YtadoocadohdfcaaDoor

namespace Go.Proofs.YtadoocadohdfcaaDoor
open Go Go.Proofs Go.RowKit
set_option linter.unusedVariables false
set_option linter.unusedSimpArgs false
set_option maxRecDepth 100000
structure CodeD where
  ins : Int
  vars : Int
  outs : Int
  blocks : List ETerm
  steps : List EInstruction
abbrev RdT (w : World) (v : Value) (xs : List ETerm) : Prop := Rd w v xs.length (xs.flatMap encTerm)
abbrev RdN (w : World) (v : Value) (xs : List EInstruction) : Prop := Rd w v xs.length (xs.flatMap encInstruction)
def manyOf (c : CodeD) (op : Int) : Int :=
  if op = 1 then 2 else if op = 2 ∨ op = 10 then c.ins else if op = 3 ∨ op = 8 ∨ op = 11 then c.vars else if op = 4 ∨ op = 5 ∨ op = 6 then 1 else if op = 7 then c.blocks.length else if op = 9 then c.outs else 0
def fitsC (c : CodeD) (x : EInstruction) : Bool := decide (0 ≤ x.arg) && decide (x.arg < manyOf c x.op)
def kindAt (c : CodeD) (x : EInstruction) : Int := (c.blocks.getD x.arg.toNat ⟨0, ⟨#[]⟩, 0⟩).kind
def takesI (c : CodeD) (x : EInstruction) : Int :=
  if x.op = 1 ∨ x.op = 2 ∨ x.op = 3 then 0 else if x.op = 4 then 1 else if x.op = 5 ∨ x.op = 6 then 2 else if x.op = 7 then takes (kindAt c x) else if x.op = 8 ∨ x.op = 9 then 1 else 0
def givesI (x : EInstruction) : Int := if 1 ≤ x.op ∧ x.op ≤ 7 then 1 else 0
theorem takesI_bd (c : CodeD) (x : EInstruction) : 0 ≤ takesI c x ∧ takesI c x ≤ 2 := by
  unfold takesI; have := takes_bd (kindAt c x); repeat' split
  all_goals omega
theorem givesI_bd (x : EInstruction) : 0 ≤ givesI x ∧ givesI x ≤ 1 := by unfold givesI; split <;> omega
/-- The code's numbers are small. -/
structure SmallC (c : CodeD) : Prop where
  i0 : 0 ≤ c.ins
  i1 : c.ins ≤ 20
  v0 : 0 ≤ c.vars
  v1 : c.vars ≤ 20
  o0 : 0 ≤ c.outs
  o1 : c.outs ≤ 20
  b1 : c.blocks.length ≤ 2000
  s1 : c.steps.length ≤ 2000
theorem fits_op {c : CodeD} {x : EInstruction} (h : fitsC c x = true) : 1 ≤ x.op ∧ x.op ≤ 11 ∧ 0 ≤ x.arg ∧ (x.op = 7 → x.arg < c.blocks.length) := by
  rw [fitsC] at h; simp at h
  obtain ⟨h1, h2⟩ := h
  unfold manyOf at h2
  refine ⟨?_, ?_, h1, fun e => ?_⟩
  · repeat' split at h2
    all_goals omega
  · repeat' split at h2
    all_goals omega
  · rw [e] at h2; simpa using h2
end Go.Proofs.YtadoocadohdfcaaDoor

namespace Go.Proofs.YtadoocadohdfcaaDoor
open Go Go.Proofs Go.RowKit
set_option linter.unusedVariables false
set_option linter.unusedSimpArgs false
set_option maxRecDepth 100000
theorem encI_one (xs : List EInstruction) : ∀ u ∈ xs.flatMap encInstruction, u.oneCell' = true := by
  intro u hu
  obtain ⟨x, _, hx⟩ := List.mem_flatMap.1 hu
  simp [encInstruction] at hx
  rcases hx with rfl | rfl <;> rfl
theorem encT_one (xs : List ETerm) : ∀ u ∈ xs.flatMap encTerm, u.oneCell' = true := by
  intro u hu
  obtain ⟨x, _, hx⟩ := List.mem_flatMap.1 hu
  simp [encTerm] at hx
  rcases hx with rfl | rfl | rfl <;> rfl
set_option maxHeartbeats 1000000 in
theorem cloneT_any (v : Value) (xs : List ETerm) (w : World) (hv : RdT w v xs) (hn : xs.length ≤ 1048576) :
    Calls Tryd.prog 80 #[v] w fun e w' => ∃ r, e = .returned r ∧ New w w' ∧ w'.ownsRow w.heap.size 53 3 r xs.length (xs.flatMap encTerm) := by
  obtain ⟨i0, hi, hz0, hz1, hz2⟩ := info_parts infoTerm
  have HV := Lib.hid hv
  obtain ⟨a, cap, rfl, hm, ⟨hno, _⟩, _⟩ := hv
  have hnil := fun (w : World) (a : Option Addr) (n c : Nat) => Lib.run_eql_slice_nil (P := Tryd.prog) w 46 53 a n c 0 0 Tryd.underlying46
  cases a with
  | none =>
    have hx : xs = [] := List.eq_nil_of_length_eq_zero (hno rfl)
    subst hx
    go_enter Tryd.func80, Tryd.ntmps80
    go_wp2_with fail
    go_ret
    exact ⟨_, rfl, (by repeat (first | with_reducible exact New.refl _ | with_reducible assumption | with_reducible refine New.drew ?_ | with_reducible refine New.drewN ?_ _ | with_reducible refine New.alloc ?_ _ | with_reducible refine New.setCell ?_ (by first | (simp; done) | (simp; omega) | omega) _ | with_reducible refine New.trans ?_ (by with_reducible assumption))), ⟨rfl, .inl ⟨rfl, rfl⟩⟩⟩
  | some ad =>
    have own0 : (w.alloc (.cells #[] 53)).ownsRow w.heap.size 53 3 (.slice (some ⟨w.heap.size, 0, none⟩) 0 0) 0 [] := own_empty (Nat.le_refl _)
    go_enter Tryd.func80, Tryd.ntmps80
    go_wp2_with (first | (at_builtin; refine wpList_append_rd rfl _ _ 46 rfl (w.heap.size) 53 i0 (Value.agg #[.int .i64 0, .string ⟨#[]⟩, .int .i64 0]) 3 32 Tryd.underlying46 hi hz0 hz1 hz2 rfl (by decide) _ _ _ rfl (own0) _ _ ((xs).flatMap encTerm) rfl (Rd.new HV.out (by repeat (first | with_reducible exact New.refl _ | with_reducible assumption | with_reducible refine New.drew ?_ | with_reducible refine New.drewN ?_ _ | with_reducible refine New.alloc ?_ _ | with_reducible refine New.setCell ?_ (by first | (simp; done) | (simp; omega) | omega) _ | with_reducible refine New.trans ?_ (by with_reducible assumption)))) (flat_length encTerm 3 encTerm_len _) (encT_one _) (by unfold maxLen; omega) (by omega) (by first | (simp; done) | (simp; omega) | omega) ?_; intro va wa howna hgra))
    have ba := New.grown (show New w _ by exact (by repeat (first | with_reducible exact New.refl _ | with_reducible assumption | with_reducible refine New.drew ?_ | with_reducible refine New.drewN ?_ _ | with_reducible refine New.alloc ?_ _ | with_reducible refine New.setCell ?_ (by first | (simp; done) | (simp; omega) | omega) _ | with_reducible refine New.trans ?_ (by with_reducible assumption)))) hgra (fun q hq => by have := (own_block_lt own0 q hq).1; simpa using this)
    go_ret
    exact ⟨_, rfl, ba, by simpa using howna⟩
end Go.Proofs.YtadoocadohdfcaaDoor
