/- Contracts: the laws' helpers on lists of instructions. -/
import Derived.Test.YteielmihlfakgaaGreatDoorProg
import Derived.Test.YteielmihlfakgaaGreatDoorVB
namespace Go.Proofs.YteielmihlfakgaaGreatDoor
open Go Go.Proofs Go.RowKit
set_option linter.unusedVariables false
set_option linter.unusedSimpArgs false
set_option maxRecDepth 100000
structure EInstruction where (op : Int) (arg : Int)
  deriving DecidableEq
def encInstruction (x : EInstruction) : List Value := [.int .i64 x.op, .int .i64 x.arg]
theorem encInstruction_len (x : EInstruction) : (encInstruction x).length = 2 := rfl
def valInstruction (x : EInstruction) : Value := .agg #[.int .i64 x.op, .int .i64 x.arg]
def mkInstruction (k : Nat) (j : Nat) : EInstruction := ⟨((k + j * 2 : Nat) : Int), ((k + j * 2 + 1 : Nat) : Int)⟩
theorem infoInstruction : (Tryz.prog.info? 70).map (fun i => (i.zero, i.size, i.bytes)) = some (some (Value.agg #[Value.int .i64 0, Value.int .i64 0]), 2, 16) := by kernel_rfl
end Go.Proofs.YteielmihlfakgaaGreatDoor
/- Contracts: codes. -/
namespace Go.Proofs.YteielmihlfakgaaGreatDoor
open Go Go.Proofs Go.RowKit
set_option linter.unusedVariables false
set_option linter.unusedSimpArgs false
set_option maxRecDepth 100000
structure CodeD where
  ins : Int
  vars : Int
  outs : Int
  blocks : List ETerm
  steps : List EInstruction
abbrev RdT (w : World) (v : Value) (xs : List ETerm) : Prop := Rd w v xs.length (xs.flatMap encTerm)
abbrev RdN (w : World) (v : Value) (xs : List EInstruction) : Prop := Rd w v xs.length (xs.flatMap encInstruction)
def manyOf (c : CodeD) (op : Int) : Int :=
  if op = 1 then 2 else if op = 2 ∨ op = 10 then c.ins else if op = 3 ∨ op = 8 ∨ op = 11 then c.vars else if op = 4 ∨ op = 5 ∨ op = 6 then 1 else if op = 7 then c.blocks.length else if op = 9 then c.outs else 0
def fitsC (c : CodeD) (x : EInstruction) : Bool := decide (0 ≤ x.arg) && decide (x.arg < manyOf c x.op)
def kindAt (c : CodeD) (x : EInstruction) : Int := (c.blocks.getD x.arg.toNat ⟨0, ⟨#[]⟩, 0⟩).kind
def takesI (c : CodeD) (x : EInstruction) : Int :=
  if x.op = 1 ∨ x.op = 2 ∨ x.op = 3 then 0 else if x.op = 4 then 1 else if x.op = 5 ∨ x.op = 6 then 2 else if x.op = 7 then takes (kindAt c x) else if x.op = 8 ∨ x.op = 9 then 1 else 0
def givesI (x : EInstruction) : Int := if 1 ≤ x.op ∧ x.op ≤ 7 then 1 else 0
theorem takesI_bd (c : CodeD) (x : EInstruction) : 0 ≤ takesI c x ∧ takesI c x ≤ 2 := by
  unfold takesI; have := takes_bd (kindAt c x); repeat' split
  all_goals omega
theorem givesI_bd (x : EInstruction) : 0 ≤ givesI x ∧ givesI x ≤ 1 := by unfold givesI; split <;> omega
/-- The code's numbers are small. -/
structure SmallC (c : CodeD) : Prop where
  i0 : 0 ≤ c.ins
  i1 : c.ins ≤ 20
  v0 : 0 ≤ c.vars
  v1 : c.vars ≤ 20
  o0 : 0 ≤ c.outs
  o1 : c.outs ≤ 20
  b1 : c.blocks.length ≤ 2000
  s1 : c.steps.length ≤ 2000
theorem fits_op {c : CodeD} {x : EInstruction} (h : fitsC c x = true) : 1 ≤ x.op ∧ x.op ≤ 11 ∧ 0 ≤ x.arg ∧ (x.op = 7 → x.arg < c.blocks.length) := by
  rw [fitsC] at h; simp at h
  obtain ⟨h1, h2⟩ := h
  unfold manyOf at h2
  refine ⟨?_, ?_, h1, fun e => ?_⟩
  · repeat' split at h2
    all_goals omega
  · repeat' split at h2
    all_goals omega
  · rw [e] at h2; simpa using h2
theorem lengthT_any (v : Value) (xs : List ETerm) (w : World) (hv : RdT w v xs) : Calls Tryz.prog 125 #[v] w fun e w' => e = .returned (.int .i64 xs.length) ∧ w = w' := by
  obtain ⟨a, cap, rfl, hn, _⟩ := hv
  go_enter Tryz.func125, Tryz.ntmps125
  go_wp2_with fail
  go_ret
  exact ⟨rfl, rfl⟩
set_option maxHeartbeats 1000000 in
theorem many_any (c : CodeD) (bv sv : Value) (op : Int) (w : World) (hb : RdT w bv c.blocks) :
    Calls Tryz.prog 82 #[.agg #[.int .i64 c.ins, .int .i64 c.vars, .int .i64 c.outs, bv, sv], .int .i64 op] w fun e w' => e = .returned (.int .i64 (manyOf c op)) ∧ New w w' := by
  have HB := Lib.hid hb; clear hb
  have H := Lib.hid (fun w' (h : New w w') => lengthT_any bv c.blocks w' (HB.out.new h))
  go_enter Tryz.func82, Tryz.ntmps82
  go_wp2_with (first | (go_at_call 125; refine (H.out _ (by repeat (first | with_reducible exact New.refl _ | with_reducible assumption | with_reducible refine New.drew ?_ | with_reducible refine New.drewN ?_ _ | with_reducible refine New.alloc ?_ _ | with_reducible refine New.setCell ?_ (by first | (simp; done) | (simp; omega) | omega) _ | with_reducible refine New.trans ?_ (by with_reducible assumption)))).mono ?_; rintro e _ ⟨rfl, rfl⟩))
  all_goals go_ret
  all_goals refine ⟨ret_int ?_, (by repeat (first | with_reducible exact New.refl _ | with_reducible assumption | with_reducible refine New.drew ?_ | with_reducible refine New.drewN ?_ _ | with_reducible refine New.alloc ?_ _ | with_reducible refine New.setCell ?_ (by first | (simp; done) | (simp; omega) | omega) _ | with_reducible refine New.trans ?_ (by with_reducible assumption)))⟩
  all_goals unfold manyOf
  all_goals (simp_all; try omega)
set_option maxHeartbeats 1000000 in
theorem effect_any (c : CodeD) (x : EInstruction) (bv sv : Value) (w : World) (hb : RdT w bv c.blocks) (hx : fitsC c x = true) :
    Calls Tryz.prog 83 #[.agg #[.int .i64 c.ins, .int .i64 c.vars, .int .i64 c.outs, bv, sv], .agg #[.int .i64 x.op, .int .i64 x.arg]] w fun e w' => e = .returned (.tuple #[.int .i64 (takesI c x), .int .i64 (givesI x)]) ∧ New w w' := by
  obtain ⟨h1, h2, h3, h4⟩ := fits_op hx
  obtain ⟨op, arg⟩ := x
  dsimp only at h1 h2 h3 h4
  obtain ⟨a, cap, rfl, hm, HC⟩ := Rd.flat encTerm_len (by omega) hb
  clear hb hx
  have zz : w.heap.size < w.heap.size + 1 + 1 := by omega
  by_cases h7 : op = 7
  · subst h7
    obtain ⟨j, rfl⟩ := Int.eq_ofNat_of_zero_le h3
    have hlt : j < c.blocks.length := by have := h4 rfl; omega
    obtain ⟨b, off, rfl, hbl, hx⟩ := HC.out j hlt
    have x0 := hx 0 _ (by omega) rfl
    rw [Nat.add_zero] at x0
    replace hx := Lib.hid hx
    have hk : kindAt c ⟨7, (j : Int)⟩ = c.blocks[j].kind := by simp [kindAt, List.getD, hlt]
    have hbz : b < w.heap.size + 1 + 1 := by omega
    have hbz' : b < w.heap.size + 1 := by omega
    go_enter Tryz.func83, Tryz.ntmps83
    go_wp2_with (first | (go_at_call 126; refine (iArguments_any _ _).mono ?_; rintro e _ ⟨rfl, rfl⟩))
    go_ret2
    refine ⟨?_, (by repeat (first | with_reducible exact New.refl _ | with_reducible assumption | with_reducible refine New.drew ?_ | with_reducible refine New.drewN ?_ _ | with_reducible refine New.alloc ?_ _ | with_reducible refine New.setCell ?_ (by first | (simp; done) | (simp; omega) | omega) _ | with_reducible refine New.trans ?_ (by with_reducible assumption)))⟩
    have e1 : takesI c ⟨7, (j : Int)⟩ = takes c.blocks[j].kind := by rw [takesI, hk]; simp
    have e2 : givesI ⟨7, (j : Int)⟩ = 1 := by simp [givesI]
    rw [e1, e2]; rfl
  · go_enter Tryz.func83, Tryz.ntmps83
    go_wp2_with fail
    all_goals go_ret2
    all_goals refine ⟨?_, (by repeat (first | with_reducible exact New.refl _ | with_reducible assumption | with_reducible refine New.drew ?_ | with_reducible refine New.drewN ?_ _ | with_reducible refine New.alloc ?_ _ | with_reducible refine New.setCell ?_ (by first | (simp; done) | (simp; omega) | omega) _ | with_reducible refine New.trans ?_ (by with_reducible assumption)))⟩
    all_goals (rw [takesI, givesI]; simp_all; try omega)
set_option maxHeartbeats 1000000 in
theorem sTakesC_any (c : CodeD) (x : EInstruction) (bv sv : Value) (w : World) (hb : RdT w bv c.blocks) (hx : fitsC c x = true) :
    Calls Tryz.prog 123 #[.agg #[.int .i64 c.ins, .int .i64 c.vars, .int .i64 c.outs, bv, sv], .agg #[.int .i64 x.op, .int .i64 x.arg]] w fun e w' => e = .returned (.tuple #[.int .i64 (takesI c x), .int .i64 (givesI x)]) ∧ New w w' := by
  obtain ⟨h1, h2, h3, h4⟩ := fits_op hx
  obtain ⟨op, arg⟩ := x
  dsimp only at h1 h2 h3 h4
  obtain ⟨a, cap, rfl, hm, HC⟩ := Rd.flat encTerm_len (by omega) hb
  clear hb hx
  have zz : w.heap.size < w.heap.size + 1 + 1 := by omega
  by_cases h7 : op = 7
  · subst h7
    obtain ⟨j, rfl⟩ := Int.eq_ofNat_of_zero_le h3
    have hlt : j < c.blocks.length := by have := h4 rfl; omega
    obtain ⟨b, off, rfl, hbl, hx⟩ := HC.out j hlt
    have x0 := hx 0 _ (by omega) rfl
    rw [Nat.add_zero] at x0
    replace hx := Lib.hid hx
    have hk : kindAt c ⟨7, (j : Int)⟩ = c.blocks[j].kind := by simp [kindAt, List.getD, hlt]
    have hbz : b < w.heap.size + 1 + 1 := by omega
    have hbz' : b < w.heap.size + 1 := by omega
    go_enter Tryz.func123, Tryz.ntmps123
    go_wp2_with (first | (go_at_call 90; refine (sTakes_any _ _).mono ?_; rintro e _ ⟨rfl, rfl⟩))
    go_ret2
    refine ⟨?_, (by repeat (first | with_reducible exact New.refl _ | with_reducible assumption | with_reducible refine New.drew ?_ | with_reducible refine New.drewN ?_ _ | with_reducible refine New.alloc ?_ _ | with_reducible refine New.setCell ?_ (by first | (simp; done) | (simp; omega) | omega) _ | with_reducible refine New.trans ?_ (by with_reducible assumption)))⟩
    have e1 : takesI c ⟨7, (j : Int)⟩ = takes c.blocks[j].kind := by rw [takesI, hk]; simp
    have e2 : givesI ⟨7, (j : Int)⟩ = 1 := by simp [givesI]
    rw [e1, e2]; rfl
  · go_enter Tryz.func123, Tryz.ntmps123
    go_wp2_with fail
    all_goals go_ret2
    all_goals refine ⟨?_, (by repeat (first | with_reducible exact New.refl _ | with_reducible assumption | with_reducible refine New.drew ?_ | with_reducible refine New.drewN ?_ _ | with_reducible refine New.alloc ?_ _ | with_reducible refine New.setCell ?_ (by first | (simp; done) | (simp; omega) | omega) _ | with_reducible refine New.trans ?_ (by with_reducible assumption)))⟩
    all_goals (rw [takesI, givesI]; simp_all; try omega)
set_option maxHeartbeats 2000000 in
theorem sFits_any (c : CodeD) (x : EInstruction) (bv sv : Value) (w : World) (hs : SmallC c) (hb : RdT w bv c.blocks) :
    Calls Tryz.prog 122 #[.agg #[.int .i64 c.ins, .int .i64 c.vars, .int .i64 c.outs, bv, sv], .agg #[.int .i64 x.op, .int .i64 x.arg]] w fun e w' => e = .returned (.bool (fitsC c x)) ∧ New w w' := by
  obtain ⟨hi0, hi1, hv0, hv1, ho0, ho1, hbl, _⟩ := hs
  obtain ⟨op, arg⟩ := x
  obtain ⟨a, cap, rfl, _⟩ := hb
  have zz : w.heap.size < w.heap.size + 1 + 1 := by omega
  go_enter Tryz.func122, Tryz.ntmps122
  go_wp2_with (first | (go_at_call 40; refine (l01In_any _ _ _ _).mono ?_; rintro e _ ⟨rfl, rfl⟩))
  all_goals go_ret
  all_goals refine ⟨ret_bool ?_, (by repeat (first | with_reducible exact New.refl _ | with_reducible assumption | with_reducible refine New.drew ?_ | with_reducible refine New.drewN ?_ _ | with_reducible refine New.alloc ?_ _ | with_reducible refine New.setCell ?_ (by first | (simp; done) | (simp; omega) | omega) _ | with_reducible refine New.trans ?_ (by with_reducible assumption)))⟩
  all_goals (rw [fitsC, manyOf, Bool.eq_iff_iff]; simp_all [inB]; try omega)
end Go.Proofs.YteielmihlfakgaaGreatDoor
