/- Contracts: the laws' helpers on programs. -/
import Derived.Test.YtadoocadohdfcaaDoorProg
import Derived.Test.YtadoocadohdfcaaDoorLineS
import Derived.Test.YtadoocadohdfcaaDoorCells
namespace Go.Proofs.YtadoocadohdfcaaDoor
open Go Go.Proofs Go.RowKit
set_option linter.unusedVariables false
set_option linter.unusedSimpArgs false
set_option maxRecDepth 100000
structure ProgD where
  name : ByteArray
  inputs : List ByteArray
  vars : List ByteArray
  outputs : List ByteArray
  guard : ByteArray
  lines : List LineD
abbrev valP (p : ProgD) (iv vv ov lv : Value) : Value := .agg #[.string p.name, iv, vv, ov, .string p.guard, lv]
structure RdP (w : World) (p : ProgD) (iv vv ov lv : Value) : Prop where
  ins : RdS w iv p.inputs
  vars : RdS w vv p.vars
  outs : RdS w ov p.outputs
  lines : RdLn w lv p.lines
theorem RdP.new {w w' : World} {p : ProgD} {iv vv ov lv : Value} (h : RdP w p iv vv ov lv) (n : New w w') : RdP w' p iv vv ov lv :=
  ⟨Rd.new h.ins n, Rd.new h.vars n, Rd.new h.outs n, h.lines.new n⟩
theorem RdLn.slice {w : World} {v : Value} {ls : List LineD} (h : RdLn w v ls) : ∃ a c, v = .slice a ls.length c := by
  obtain ⟨ps, rfl, ⟨a, c, rfl, _⟩, _⟩ := h
  exact ⟨a, c, by rw [List.length_map]⟩
structure OkP (p : ProgD) : Prop where
  name : okS p.name
  ins : ∀ x ∈ p.inputs, okS x
  vars : ∀ x ∈ p.vars, okS x
  outs : ∀ x ∈ p.outputs, okS x
  guard : okS p.guard
  lines : ∀ x ∈ p.lines, okLn x
structure FitP (p : ProgD) : Prop where
  name : fitS p.name
  ins : ∀ x ∈ p.inputs, fitS x
  insl : p.inputs.length ≤ 1048576
  vars : ∀ x ∈ p.vars, fitS x
  varsl : p.vars.length ≤ 1048576
  outs : ∀ x ∈ p.outputs, fitS x
  outsl : p.outputs.length ≤ 1048576
  guard : fitS p.guard
  lines : ∀ x ∈ p.lines, fitLn x
  linesl : p.lines.length ≤ 1048576
def szCh : List (Int → Int) → Int → Int
  | [], l => l
  | f :: fs, l => if f l < 0 then -1 else szCh fs (f l)
def szSteps (p : ProgD) : List (Int → Int) := [szT p.name, szSl szT p.inputs, szSl szT p.vars, szSl szT p.outputs, szT p.guard, szSl szLn p.lines]
def szP (p : ProgD) (left : Int) : Int := szCh (szSteps p) left
theorem szCh_bd : ∀ (fs : List (Int → Int)), (∀ f ∈ fs, ∀ l, 0 ≤ l → -1 ≤ f l ∧ f l ≤ l) → ∀ l, 0 ≤ l → -1 ≤ szCh fs l ∧ szCh fs l ≤ l
  | [], _, l, h => by simp [szCh]; omega
  | f :: fs, hf, l, h => by
    have h1 := hf f (by simp) l h
    rw [szCh]; split
    · omega
    · have := szCh_bd fs (fun g hg => hf g (by simp [hg])) (f l) (by omega); omega
theorem szCh_cons {f : Int → Int} {fs : List (Int → Int)} {l : Int} (h : 0 ≤ szCh (f :: fs) l) : 0 ≤ f l ∧ 0 ≤ szCh fs (f l) := by
  rw [szCh] at h; split at h
  · omega
  · exact ⟨by omega, h⟩
theorem szSteps_bd (p : ProgD) : ∀ f ∈ szSteps p, ∀ l, 0 ≤ l → -1 ≤ f l ∧ f l ≤ l := by
  intro f hf l hl
  simp only [szSteps, List.mem_cons, List.not_mem_nil, or_false] at hf
  rcases hf with rfl | rfl | rfl | rfl | rfl | rfl
  · exact szT_bd _ l hl
  · have := szSl_bd szT_bd p.inputs l hl; omega
  · have := szSl_bd szT_bd p.vars l hl; omega
  · have := szSl_bd szT_bd p.outputs l hl; omega
  · exact szT_bd _ l hl
  · have := szSl_bd szLn_bd p.lines l hl; omega
theorem szP_bd (p : ProgD) (left : Int) (h : 0 ≤ left) : -1 ≤ szP p left ∧ szP p left ≤ left := szCh_bd _ (szSteps_bd p) left h
theorem szP_fit (p : ProgD) (left : Int) (h : 0 ≤ left) (h' : left ≤ 1048576) (h2 : 0 ≤ szP p left) : FitP p := by
  rw [szP, szSteps] at h2
  obtain ⟨a1, h2⟩ := szCh_cons h2
  have b1 := szT_bd p.name left h
  obtain ⟨a2, h2⟩ := szCh_cons h2
  have b2 := szSl_bd szT_bd p.inputs _ a1
  obtain ⟨a3, h2⟩ := szCh_cons h2
  have b3 := szSl_bd szT_bd p.vars _ a2
  obtain ⟨a4, h2⟩ := szCh_cons h2
  have b4 := szSl_bd szT_bd p.outputs _ a3
  obtain ⟨a5, h2⟩ := szCh_cons h2
  have b5 := szT_bd p.guard _ a4
  obtain ⟨a6, h2⟩ := szCh_cons h2
  have b6 := szSl_bd szLn_bd p.lines _ a5
  refine ⟨szT_fit p.name left h h' a1, szSl_fit szT_bd szT_fit p.inputs _ a1 (by omega) a2, ?_, szSl_fit szT_bd szT_fit p.vars _ a2 (by omega) a3, ?_, szSl_fit szT_bd szT_fit p.outputs _ a3 (by omega) a4, ?_, szT_fit p.guard _ a4 (by omega) a5, szSl_fit szLn_bd szLn_fit p.lines _ a5 (by omega) a6, ?_⟩
  · have := b2.2.2 a2; omega
  · have := b3.2.2 a3; omega
  · have := b4.2.2 a4; omega
  · have := b6.2.2 a6; omega
set_option maxHeartbeats 2000000 in
theorem szProgram_any (p : ProgD) (iv vv ov lv : Value) (left : Int) (w : World) (hp : RdP w p iv vv ov lv) (hl : 0 ≤ left) (hl' : left ≤ 1048576) (ho : OkP p) :
    Calls Tryd.prog 6 #[valP p iv vv ov lv, .int .i64 left] w fun e w' => e = .returned (.int .i64 (szP p left)) ∧ New w w' := by
  have HP := Lib.hid hp; clear hp
  obtain ⟨ho1, ho2, ho3, ho4, ho5, ho6⟩ := ho
  have hs1 : p.name.size ≤ 9223372036854775807 := ho1
  have hs5 : p.guard.size ≤ 9223372036854775807 := ho5
  have HO2 := Lib.hid ho2; have HO3 := Lib.hid ho3; have HO4 := Lib.hid ho4; have HO6 := Lib.hid ho6
  clear ho1 ho2 ho3 ho4 ho5 ho6
  have e0 : szP p left = szCh (szSteps p) left := rfl
  rw [e0, szSteps]; clear e0
  by_cases h1 : left - (p.name.size : Int) < 0
  · have t1 : szT p.name left = -1 := by rw [szT, if_pos h1]
    rw [szCh, t1, if_pos (by omega)]
    go_enter Tryd.func6, Tryd.ntmps6
    go_wp2_with fail
    go_ret
    exact ⟨rfl, (by repeat (first | with_reducible exact New.refl _ | with_reducible assumption | with_reducible refine New.drew ?_ | with_reducible refine New.drewN ?_ _ | with_reducible refine New.alloc ?_ _ | with_reducible refine New.setCell ?_ (by first | (simp; done) | (simp; omega) | omega) _ | with_reducible refine New.trans ?_ (by with_reducible assumption)))⟩
  have t1 : szT p.name left = left - p.name.size := by rw [szT, if_neg h1]
  rw [szCh, t1, if_neg h1]; clear t1
  generalize hL1 : left - (p.name.size : Int) = l1 at *
  have hl1 : 0 ≤ l1 ∧ l1 ≤ 1048576 := by omega
  have b2 := szSl_bd szT_bd p.inputs l1 hl1.1
  have C2 := Lib.hid (fun (w0 : World) (n : New w w0) => szStringS_any iv p.inputs l1 w0 (Rd.new HP.out.ins n) hl1.1 hl1.2 HO2.out)
  rw [szCh]
  generalize szSl szT p.inputs l1 = l2 at *
  by_cases h2 : l2 < 0
  · rw [if_pos h2]
    go_enter Tryd.func6, Tryd.ntmps6
    go_wp2_with fail
    refine (C2.out _ (by repeat (first | with_reducible exact New.refl _ | with_reducible assumption | with_reducible refine New.drew ?_ | with_reducible refine New.drewN ?_ _ | with_reducible refine New.alloc ?_ _ | with_reducible refine New.setCell ?_ (by first | (simp; done) | (simp; omega) | omega) _ | with_reducible refine New.trans ?_ (by with_reducible assumption)))).mono ?_; rintro e _ ⟨rfl, rfl⟩
    go_wp2_with fail
    go_ret
    exact ⟨rfl, (by repeat (first | with_reducible exact New.refl _ | with_reducible assumption | with_reducible refine New.drew ?_ | with_reducible refine New.drewN ?_ _ | with_reducible refine New.alloc ?_ _ | with_reducible refine New.setCell ?_ (by first | (simp; done) | (simp; omega) | omega) _ | with_reducible refine New.trans ?_ (by with_reducible assumption)))⟩
  rw [if_neg h2]
  have b3 := szSl_bd szT_bd p.vars l2 (by omega)
  have C3 := Lib.hid (fun (w0 : World) (n : New w w0) => szStringS_any vv p.vars l2 w0 (Rd.new HP.out.vars n) (by omega) (by omega) HO3.out)
  rw [szCh]
  generalize szSl szT p.vars l2 = l3 at *
  by_cases h3 : l3 < 0
  · rw [if_pos h3]
    go_enter Tryd.func6, Tryd.ntmps6
    go_wp2_with fail
    refine (C2.out _ (by repeat (first | with_reducible exact New.refl _ | with_reducible assumption | with_reducible refine New.drew ?_ | with_reducible refine New.drewN ?_ _ | with_reducible refine New.alloc ?_ _ | with_reducible refine New.setCell ?_ (by first | (simp; done) | (simp; omega) | omega) _ | with_reducible refine New.trans ?_ (by with_reducible assumption)))).mono ?_; rintro e _ ⟨rfl, rfl⟩
    go_wp2_with fail
    refine (C3.out _ (by repeat (first | with_reducible exact New.refl _ | with_reducible assumption | with_reducible refine New.drew ?_ | with_reducible refine New.drewN ?_ _ | with_reducible refine New.alloc ?_ _ | with_reducible refine New.setCell ?_ (by first | (simp; done) | (simp; omega) | omega) _ | with_reducible refine New.trans ?_ (by with_reducible assumption)))).mono ?_; rintro e _ ⟨rfl, rfl⟩
    go_wp2_with fail
    go_ret
    exact ⟨rfl, (by repeat (first | with_reducible exact New.refl _ | with_reducible assumption | with_reducible refine New.drew ?_ | with_reducible refine New.drewN ?_ _ | with_reducible refine New.alloc ?_ _ | with_reducible refine New.setCell ?_ (by first | (simp; done) | (simp; omega) | omega) _ | with_reducible refine New.trans ?_ (by with_reducible assumption)))⟩
  rw [if_neg h3]
  have b4 := szSl_bd szT_bd p.outputs l3 (by omega)
  have C4 := Lib.hid (fun (w0 : World) (n : New w w0) => szStringS_any ov p.outputs l3 w0 (Rd.new HP.out.outs n) (by omega) (by omega) HO4.out)
  rw [szCh]
  generalize szSl szT p.outputs l3 = l4 at *
  by_cases h4 : l4 < 0
  · rw [if_pos h4]
    go_enter Tryd.func6, Tryd.ntmps6
    go_wp2_with fail
    refine (C2.out _ (by repeat (first | with_reducible exact New.refl _ | with_reducible assumption | with_reducible refine New.drew ?_ | with_reducible refine New.drewN ?_ _ | with_reducible refine New.alloc ?_ _ | with_reducible refine New.setCell ?_ (by first | (simp; done) | (simp; omega) | omega) _ | with_reducible refine New.trans ?_ (by with_reducible assumption)))).mono ?_; rintro e _ ⟨rfl, rfl⟩
    go_wp2_with fail
    refine (C3.out _ (by repeat (first | with_reducible exact New.refl _ | with_reducible assumption | with_reducible refine New.drew ?_ | with_reducible refine New.drewN ?_ _ | with_reducible refine New.alloc ?_ _ | with_reducible refine New.setCell ?_ (by first | (simp; done) | (simp; omega) | omega) _ | with_reducible refine New.trans ?_ (by with_reducible assumption)))).mono ?_; rintro e _ ⟨rfl, rfl⟩
    go_wp2_with fail
    refine (C4.out _ (by repeat (first | with_reducible exact New.refl _ | with_reducible assumption | with_reducible refine New.drew ?_ | with_reducible refine New.drewN ?_ _ | with_reducible refine New.alloc ?_ _ | with_reducible refine New.setCell ?_ (by first | (simp; done) | (simp; omega) | omega) _ | with_reducible refine New.trans ?_ (by with_reducible assumption)))).mono ?_; rintro e _ ⟨rfl, rfl⟩
    go_wp2_with fail
    go_ret
    exact ⟨rfl, (by repeat (first | with_reducible exact New.refl _ | with_reducible assumption | with_reducible refine New.drew ?_ | with_reducible refine New.drewN ?_ _ | with_reducible refine New.alloc ?_ _ | with_reducible refine New.setCell ?_ (by first | (simp; done) | (simp; omega) | omega) _ | with_reducible refine New.trans ?_ (by with_reducible assumption)))⟩
  rw [if_neg h4]
  by_cases h5 : l4 - (p.guard.size : Int) < 0
  · have t1 : szT p.guard l4 = -1 := by rw [szT, if_pos h5]
    rw [szCh, t1, if_pos (by omega)]
    go_enter Tryd.func6, Tryd.ntmps6
    go_wp2_with fail
    refine (C2.out _ (by repeat (first | with_reducible exact New.refl _ | with_reducible assumption | with_reducible refine New.drew ?_ | with_reducible refine New.drewN ?_ _ | with_reducible refine New.alloc ?_ _ | with_reducible refine New.setCell ?_ (by first | (simp; done) | (simp; omega) | omega) _ | with_reducible refine New.trans ?_ (by with_reducible assumption)))).mono ?_; rintro e _ ⟨rfl, rfl⟩
    go_wp2_with fail
    refine (C3.out _ (by repeat (first | with_reducible exact New.refl _ | with_reducible assumption | with_reducible refine New.drew ?_ | with_reducible refine New.drewN ?_ _ | with_reducible refine New.alloc ?_ _ | with_reducible refine New.setCell ?_ (by first | (simp; done) | (simp; omega) | omega) _ | with_reducible refine New.trans ?_ (by with_reducible assumption)))).mono ?_; rintro e _ ⟨rfl, rfl⟩
    go_wp2_with fail
    refine (C4.out _ (by repeat (first | with_reducible exact New.refl _ | with_reducible assumption | with_reducible refine New.drew ?_ | with_reducible refine New.drewN ?_ _ | with_reducible refine New.alloc ?_ _ | with_reducible refine New.setCell ?_ (by first | (simp; done) | (simp; omega) | omega) _ | with_reducible refine New.trans ?_ (by with_reducible assumption)))).mono ?_; rintro e _ ⟨rfl, rfl⟩
    go_wp2_with fail
    go_ret
    exact ⟨rfl, (by repeat (first | with_reducible exact New.refl _ | with_reducible assumption | with_reducible refine New.drew ?_ | with_reducible refine New.drewN ?_ _ | with_reducible refine New.alloc ?_ _ | with_reducible refine New.setCell ?_ (by first | (simp; done) | (simp; omega) | omega) _ | with_reducible refine New.trans ?_ (by with_reducible assumption)))⟩
  have t5 : szT p.guard l4 = l4 - p.guard.size := by rw [szT, if_neg h5]
  rw [szCh, t5, if_neg h5]; clear t5
  have b6 := szSl_bd szLn_bd p.lines (l4 - p.guard.size) (by omega)
  have C6 := Lib.hid (fun (w0 : World) (n : New w w0) => szLineS_any lv p.lines (l4 - p.guard.size) w0 (HP.out.lines.new n) (by omega) (by omega) HO6.out)
  rw [szCh]
  generalize szSl szLn p.lines (l4 - p.guard.size) = l6 at *
  by_cases h6 : l6 < 0
  · rw [if_pos h6]
    go_enter Tryd.func6, Tryd.ntmps6
    go_wp2_with fail
    refine (C2.out _ (by repeat (first | with_reducible exact New.refl _ | with_reducible assumption | with_reducible refine New.drew ?_ | with_reducible refine New.drewN ?_ _ | with_reducible refine New.alloc ?_ _ | with_reducible refine New.setCell ?_ (by first | (simp; done) | (simp; omega) | omega) _ | with_reducible refine New.trans ?_ (by with_reducible assumption)))).mono ?_; rintro e _ ⟨rfl, rfl⟩
    go_wp2_with fail
    refine (C3.out _ (by repeat (first | with_reducible exact New.refl _ | with_reducible assumption | with_reducible refine New.drew ?_ | with_reducible refine New.drewN ?_ _ | with_reducible refine New.alloc ?_ _ | with_reducible refine New.setCell ?_ (by first | (simp; done) | (simp; omega) | omega) _ | with_reducible refine New.trans ?_ (by with_reducible assumption)))).mono ?_; rintro e _ ⟨rfl, rfl⟩
    go_wp2_with fail
    refine (C4.out _ (by repeat (first | with_reducible exact New.refl _ | with_reducible assumption | with_reducible refine New.drew ?_ | with_reducible refine New.drewN ?_ _ | with_reducible refine New.alloc ?_ _ | with_reducible refine New.setCell ?_ (by first | (simp; done) | (simp; omega) | omega) _ | with_reducible refine New.trans ?_ (by with_reducible assumption)))).mono ?_; rintro e _ ⟨rfl, rfl⟩
    go_wp2_with fail
    refine (C6.out _ (by repeat (first | with_reducible exact New.refl _ | with_reducible assumption | with_reducible refine New.drew ?_ | with_reducible refine New.drewN ?_ _ | with_reducible refine New.alloc ?_ _ | with_reducible refine New.setCell ?_ (by first | (simp; done) | (simp; omega) | omega) _ | with_reducible refine New.trans ?_ (by with_reducible assumption)))).mono ?_; rintro e w6 ⟨rfl, b6⟩
    try with_reducible replace b6 := New.undrawN b6
    try with_reducible replace b6 := New.undraw b6
    obtain ⟨c6, f6⟩ := b6.rules
    have z6 := b6.size
    try simp only [World.size_alloc, World.size_drew, World.heap_drewN, World.size_setCell] at z6
    go_wp2_with fail
    go_ret
    exact ⟨rfl, (by repeat (first | with_reducible exact New.refl _ | with_reducible assumption | with_reducible refine New.drew ?_ | with_reducible refine New.drewN ?_ _ | with_reducible refine New.alloc ?_ _ | with_reducible refine New.setCell ?_ (by first | (simp; done) | (simp; omega) | omega) _ | with_reducible refine New.trans ?_ (by with_reducible assumption)))⟩
  · rw [if_neg h6, szCh]
    go_enter Tryd.func6, Tryd.ntmps6
    go_wp2_with fail
    refine (C2.out _ (by repeat (first | with_reducible exact New.refl _ | with_reducible assumption | with_reducible refine New.drew ?_ | with_reducible refine New.drewN ?_ _ | with_reducible refine New.alloc ?_ _ | with_reducible refine New.setCell ?_ (by first | (simp; done) | (simp; omega) | omega) _ | with_reducible refine New.trans ?_ (by with_reducible assumption)))).mono ?_; rintro e _ ⟨rfl, rfl⟩
    go_wp2_with fail
    refine (C3.out _ (by repeat (first | with_reducible exact New.refl _ | with_reducible assumption | with_reducible refine New.drew ?_ | with_reducible refine New.drewN ?_ _ | with_reducible refine New.alloc ?_ _ | with_reducible refine New.setCell ?_ (by first | (simp; done) | (simp; omega) | omega) _ | with_reducible refine New.trans ?_ (by with_reducible assumption)))).mono ?_; rintro e _ ⟨rfl, rfl⟩
    go_wp2_with fail
    refine (C4.out _ (by repeat (first | with_reducible exact New.refl _ | with_reducible assumption | with_reducible refine New.drew ?_ | with_reducible refine New.drewN ?_ _ | with_reducible refine New.alloc ?_ _ | with_reducible refine New.setCell ?_ (by first | (simp; done) | (simp; omega) | omega) _ | with_reducible refine New.trans ?_ (by with_reducible assumption)))).mono ?_; rintro e _ ⟨rfl, rfl⟩
    go_wp2_with fail
    refine (C6.out _ (by repeat (first | with_reducible exact New.refl _ | with_reducible assumption | with_reducible refine New.drew ?_ | with_reducible refine New.drewN ?_ _ | with_reducible refine New.alloc ?_ _ | with_reducible refine New.setCell ?_ (by first | (simp; done) | (simp; omega) | omega) _ | with_reducible refine New.trans ?_ (by with_reducible assumption)))).mono ?_; rintro e w6 ⟨rfl, b6⟩
    try with_reducible replace b6 := New.undrawN b6
    try with_reducible replace b6 := New.undraw b6
    obtain ⟨c6, f6⟩ := b6.rules
    have z6 := b6.size
    try simp only [World.size_alloc, World.size_drew, World.heap_drewN, World.size_setCell] at z6
    go_wp2_with fail
    go_ret
    exact ⟨rfl, (by repeat (first | with_reducible exact New.refl _ | with_reducible assumption | with_reducible refine New.drew ?_ | with_reducible refine New.drewN ?_ _ | with_reducible refine New.alloc ?_ _ | with_reducible refine New.setCell ?_ (by first | (simp; done) | (simp; omega) | omega) _ | with_reducible refine New.trans ?_ (by with_reducible assumption)))⟩
/-- A program in memory of the call's own, list by list. -/
structure OwnP (w : World) (b0 b1 b2 b3 : Nat) (p : ProgD) (iv vv ov lv : Value) : Prop where
  ins : w.ownsRow b0 9 1 iv p.inputs.length (p.inputs.map Value.string)
  insE : ∀ k, iv.ownBlock = some k → k < b1
  vars : w.ownsRow b1 9 1 vv p.vars.length (p.vars.map Value.string)
  varsE : ∀ k, vv.ownBlock = some k → k < b2
  outs : w.ownsRow b2 9 1 ov p.outputs.length (p.outputs.map Value.string)
  outsE : ∀ k, ov.ownBlock = some k → k < b3
  lines : OwnLn w b3 lv p.lines
  o1 : b0 ≤ b1
  o2 : b1 ≤ b2
  o3 : b2 ≤ b3
  o4 : b3 ≤ w.heap.size
theorem OwnP.rd {w : World} {b0 b1 b2 b3 : Nat} {p : ProgD} {iv vv ov lv : Value} (h : OwnP w b0 b1 b2 b3 p iv vv ov lv) : RdP w p iv vv ov lv := ⟨own_rd h.ins, own_rd h.vars, own_rd h.outs, h.lines.rd⟩
theorem OwnP.new {w w' : World} {b0 b1 b2 b3 : Nat} {p : ProgD} {iv vv ov lv : Value} (h : OwnP w b0 b1 b2 b3 p iv vv ov lv) (n : New w w') : OwnP w' b0 b1 b2 b3 p iv vv ov lv :=
  ⟨own_new h.ins n, h.insE, own_new h.vars n, h.varsE, own_new h.outs n, h.outsE, h.lines.new n, h.o1, h.o2, h.o3, Nat.le_trans h.o4 n.size⟩
def RetPO (w : World) (p : ProgD) (e : Ending) (w' : World) : Prop := ∃ iv vv ov lv b1 b2 b3, e = .returned (valP p iv vv ov lv) ∧ New w w' ∧ OwnP w' w.heap.size b1 b2 b3 p iv vv ov lv
def RetP (w : World) (p : ProgD) (e : Ending) (w' : World) : Prop := ∃ iv vv ov lv, e = .returned (valP p iv vv ov lv) ∧ New w w' ∧ RdP w' p iv vv ov lv
set_option maxHeartbeats 2000000 in
theorem toProgramO_any (p : ProgD) (iv vv ov lv : Value) (w : World) (hp : RdP w p iv vv ov lv) (hf : FitP p) :
    Calls Tryd.prog 8 #[valP p iv vv ov lv] w (RetPO w p) := by
  have HP := Lib.hid hp; clear hp
  have hfl : ∀ x ∈ p.lines, x.terms.length ≤ 1048576 := fun x hx => (hf.lines x hx).2.2
  go_enter Tryd.func8, Tryd.ntmps8
  go_wp2_with fail
  refine (toStringS_any _ p.inputs _ (Rd.new HP.out.ins (by repeat (first | with_reducible exact New.refl _ | with_reducible assumption | with_reducible refine New.drew ?_ | with_reducible refine New.drewN ?_ _ | with_reducible refine New.alloc ?_ _ | with_reducible refine New.setCell ?_ (by first | (simp; done) | (simp; omega) | omega) _ | with_reducible refine New.trans ?_ (by with_reducible assumption)))) hf.insl).mono ?_; rintro e w1 ⟨r1, rfl, b1, own1⟩
  obtain ⟨a1, k1, rfl⟩ := own_slice own1; simp only [World.size_alloc, World.size_setCell] at own1
  obtain ⟨c1, f1⟩ := b1.rules
  have z1 := b1.size
  try simp only [World.size_alloc, World.size_drew, World.heap_drewN, World.size_setCell] at z1
  have z1_0 : w.heap.size < w1.heap.size := by omega
  have z1_1 : w.heap.size + 1 < w1.heap.size := by omega
  have z1_2 : w.heap.size + 1 + 1 < w1.heap.size := by omega
  go_wp2_with fail
  refine (toStringS_any _ p.vars _ (Rd.new HP.out.vars (by repeat (first | with_reducible exact New.refl _ | with_reducible assumption | with_reducible refine New.drew ?_ | with_reducible refine New.drewN ?_ _ | with_reducible refine New.alloc ?_ _ | with_reducible refine New.setCell ?_ (by first | (simp; done) | (simp; omega) | omega) _ | with_reducible refine New.trans ?_ (by with_reducible assumption)))) hf.varsl).mono ?_; rintro e w2 ⟨r2, rfl, b2, own2⟩
  obtain ⟨a2, k2, rfl⟩ := own_slice own2; simp only [World.size_alloc, World.size_setCell] at own2
  obtain ⟨c2, f2⟩ := b2.rules
  have z2 := b2.size
  try simp only [World.size_alloc, World.size_drew, World.heap_drewN, World.size_setCell] at z2
  have z2_0 : w.heap.size < w2.heap.size := by omega
  have z2_1 : w.heap.size + 1 < w2.heap.size := by omega
  have z2_2 : w.heap.size + 1 + 1 < w2.heap.size := by omega
  go_wp2_with fail
  refine (toStringS_any _ p.outputs _ (Rd.new HP.out.outs (by repeat (first | with_reducible exact New.refl _ | with_reducible assumption | with_reducible refine New.drew ?_ | with_reducible refine New.drewN ?_ _ | with_reducible refine New.alloc ?_ _ | with_reducible refine New.setCell ?_ (by first | (simp; done) | (simp; omega) | omega) _ | with_reducible refine New.trans ?_ (by with_reducible assumption)))) hf.outsl).mono ?_; rintro e w3 ⟨r3, rfl, b3, own3⟩
  obtain ⟨a3, k3, rfl⟩ := own_slice own3; simp only [World.size_alloc, World.size_setCell] at own3
  obtain ⟨c3, f3⟩ := b3.rules
  have z3 := b3.size
  try simp only [World.size_alloc, World.size_drew, World.heap_drewN, World.size_setCell] at z3
  have z3_0 : w.heap.size < w3.heap.size := by omega
  have z3_1 : w.heap.size + 1 < w3.heap.size := by omega
  have z3_2 : w.heap.size + 1 + 1 < w3.heap.size := by omega
  go_wp2_with fail
  refine (toLineS_any _ p.lines _ (HP.out.lines.new (by repeat (first | with_reducible exact New.refl _ | with_reducible assumption | with_reducible refine New.drew ?_ | with_reducible refine New.drewN ?_ _ | with_reducible refine New.alloc ?_ _ | with_reducible refine New.setCell ?_ (by first | (simp; done) | (simp; omega) | omega) _ | with_reducible refine New.trans ?_ (by with_reducible assumption)))) hf.linesl hfl).mono ?_; rintro e w4 ⟨r4, rfl, b4, ⟨a4, k4, rfl⟩, own4⟩
  simp only [World.size_alloc, World.size_setCell] at own4
  obtain ⟨c4, f4⟩ := b4.rules
  have z4 := b4.size
  try simp only [World.size_alloc, World.size_drew, World.heap_drewN, World.size_setCell] at z4
  have z4_0 : w.heap.size < w4.heap.size := by omega
  have z4_1 : w.heap.size + 1 < w4.heap.size := by omega
  have z4_2 : w.heap.size + 1 + 1 < w4.heap.size := by omega
  go_wp2_with fail
  refine bodyPost_ret (v := valP p (.slice a1 p.inputs.length k1) (.slice a2 p.vars.length k2) (.slice a3 p.outputs.length k3) (.slice a4 p.lines.length k4)) (by simp [results, Tryd.results8, go_sem, c4, f4, c3, f3, c2, f2, c1, f1, z1_0, z1_1, z1_2, z2_0, z2_1, z2_2, z3_0, z3_1, z3_2, z4_0, z4_1, z4_2]) rfl ⟨_, _, _, _, w1.heap.size, w2.heap.size, w3.heap.size, rfl, ?_, ⟨own_base (base := w.heap.size + 1 + 1 + 1) ?_ (by omega), fun k hk => (own_block_lt own1 k hk).2, ?_, fun k hk => (own_block_lt own2 k hk).2, ?_, fun k hk => (own_block_lt own3 k hk).2, ?_, by omega, by omega, by omega, by simp only [World.size_setCell]; omega⟩⟩
  · exact (by repeat (first | with_reducible exact New.refl _ | with_reducible assumption | with_reducible refine New.drew ?_ | with_reducible refine New.drewN ?_ _ | with_reducible refine New.alloc ?_ _ | with_reducible refine New.setCell ?_ (by first | (simp; done) | (simp; omega) | omega) _ | with_reducible refine New.trans ?_ (by with_reducible assumption)))
  · iterate 7 apply ownsRow_setCell_below
    refine own_new ?_ b4
    iterate 2 apply ownsRow_setCell_below
    refine own_new ?_ b3
    apply ownsRow_setCell_below
    refine own_new ?_ b2
    apply ownsRow_setCell_below
    exact own1
    all_goals (dsimp; omega)
  · iterate 7 apply ownsRow_setCell_below
    refine own_new ?_ b4
    iterate 2 apply ownsRow_setCell_below
    refine own_new ?_ b3
    apply ownsRow_setCell_below
    exact own2
    all_goals (dsimp; omega)
  · iterate 7 apply ownsRow_setCell_below
    refine own_new ?_ b4
    iterate 2 apply ownsRow_setCell_below
    exact own3
    all_goals (dsimp; omega)
  · iterate 7 apply OwnLn.setBelow
    exact own4
    all_goals (dsimp; omega)
theorem toProgram_any (p : ProgD) (iv vv ov lv : Value) (w : World) (hp : RdP w p iv vv ov lv) (hf : FitP p) :
    Calls Tryd.prog 8 #[valP p iv vv ov lv] w (RetP w p) := by
  refine (toProgramO_any p iv vv ov lv w hp hf).mono ?_
  rintro e w' ⟨i, v, o, l, b1, b2, b3, rfl, n, h⟩
  exact ⟨i, v, o, l, rfl, n, h.rd⟩
set_option maxHeartbeats 1000000 in
theorem eqProgram_any (p : ProgD) (iv vv ov lv iv' vv' ov' lv' : Value) (w : World) (hp : RdP w p iv vv ov lv) (hp' : RdP w p iv' vv' ov' lv') :
    Calls Tryd.prog 10 #[valP p iv vv ov lv, valP p iv' vv' ov' lv'] w fun e w' => e = .returned (.bool true) ∧ New w w' := by
  have HP := Lib.hid hp; clear hp
  have HP' := Lib.hid hp'; clear hp'
  have zz : w.heap.size < w.heap.size + 1 + 1 := by omega
  have e1 : (p.name.toList == p.name.toList) = true := by simp
  have e2 : (p.guard.toList == p.guard.toList) = true := by simp
  go_enter Tryd.func10, Tryd.ntmps10
  go_wp2_with fail
  refine (eqStringS_any _ _ p.inputs _ (Rd.new HP.out.ins (by repeat (first | with_reducible exact New.refl _ | with_reducible assumption | with_reducible refine New.drew ?_ | with_reducible refine New.drewN ?_ _ | with_reducible refine New.alloc ?_ _ | with_reducible refine New.setCell ?_ (by first | (simp; done) | (simp; omega) | omega) _ | with_reducible refine New.trans ?_ (by with_reducible assumption)))) (Rd.new HP'.out.ins (by repeat (first | with_reducible exact New.refl _ | with_reducible assumption | with_reducible refine New.drew ?_ | with_reducible refine New.drewN ?_ _ | with_reducible refine New.alloc ?_ _ | with_reducible refine New.setCell ?_ (by first | (simp; done) | (simp; omega) | omega) _ | with_reducible refine New.trans ?_ (by with_reducible assumption))))).mono ?_; rintro e w1 ⟨rfl, b1⟩
  try with_reducible replace b1 := New.undrawN b1
  try with_reducible replace b1 := New.undraw b1
  obtain ⟨c1, f1⟩ := b1.rules
  have z1 := b1.size
  try simp only [World.size_alloc, World.size_drew, World.heap_drewN, World.size_setCell] at z1
  have z1_0 : w.heap.size < w1.heap.size := by omega
  have z1_1 : w.heap.size + 1 < w1.heap.size := by omega
  go_wp2_with fail
  refine (eqStringS_any _ _ p.vars _ (Rd.new HP.out.vars (by repeat (first | with_reducible exact New.refl _ | with_reducible assumption | with_reducible refine New.drew ?_ | with_reducible refine New.drewN ?_ _ | with_reducible refine New.alloc ?_ _ | with_reducible refine New.setCell ?_ (by first | (simp; done) | (simp; omega) | omega) _ | with_reducible refine New.trans ?_ (by with_reducible assumption)))) (Rd.new HP'.out.vars (by repeat (first | with_reducible exact New.refl _ | with_reducible assumption | with_reducible refine New.drew ?_ | with_reducible refine New.drewN ?_ _ | with_reducible refine New.alloc ?_ _ | with_reducible refine New.setCell ?_ (by first | (simp; done) | (simp; omega) | omega) _ | with_reducible refine New.trans ?_ (by with_reducible assumption))))).mono ?_; rintro e w2 ⟨rfl, b2⟩
  try with_reducible replace b2 := New.undrawN b2
  try with_reducible replace b2 := New.undraw b2
  obtain ⟨c2, f2⟩ := b2.rules
  have z2 := b2.size
  try simp only [World.size_alloc, World.size_drew, World.heap_drewN, World.size_setCell] at z2
  have z2_0 : w.heap.size < w2.heap.size := by omega
  have z2_1 : w.heap.size + 1 < w2.heap.size := by omega
  go_wp2_with fail
  refine (eqStringS_any _ _ p.outputs _ (Rd.new HP.out.outs (by repeat (first | with_reducible exact New.refl _ | with_reducible assumption | with_reducible refine New.drew ?_ | with_reducible refine New.drewN ?_ _ | with_reducible refine New.alloc ?_ _ | with_reducible refine New.setCell ?_ (by first | (simp; done) | (simp; omega) | omega) _ | with_reducible refine New.trans ?_ (by with_reducible assumption)))) (Rd.new HP'.out.outs (by repeat (first | with_reducible exact New.refl _ | with_reducible assumption | with_reducible refine New.drew ?_ | with_reducible refine New.drewN ?_ _ | with_reducible refine New.alloc ?_ _ | with_reducible refine New.setCell ?_ (by first | (simp; done) | (simp; omega) | omega) _ | with_reducible refine New.trans ?_ (by with_reducible assumption))))).mono ?_; rintro e w3 ⟨rfl, b3⟩
  try with_reducible replace b3 := New.undrawN b3
  try with_reducible replace b3 := New.undraw b3
  obtain ⟨c3, f3⟩ := b3.rules
  have z3 := b3.size
  try simp only [World.size_alloc, World.size_drew, World.heap_drewN, World.size_setCell] at z3
  have z3_0 : w.heap.size < w3.heap.size := by omega
  have z3_1 : w.heap.size + 1 < w3.heap.size := by omega
  go_wp2_with fail
  refine (eqLineS_any _ _ p.lines _ (HP.out.lines.new (by repeat (first | with_reducible exact New.refl _ | with_reducible assumption | with_reducible refine New.drew ?_ | with_reducible refine New.drewN ?_ _ | with_reducible refine New.alloc ?_ _ | with_reducible refine New.setCell ?_ (by first | (simp; done) | (simp; omega) | omega) _ | with_reducible refine New.trans ?_ (by with_reducible assumption)))) (HP'.out.lines.new (by repeat (first | with_reducible exact New.refl _ | with_reducible assumption | with_reducible refine New.drew ?_ | with_reducible refine New.drewN ?_ _ | with_reducible refine New.alloc ?_ _ | with_reducible refine New.setCell ?_ (by first | (simp; done) | (simp; omega) | omega) _ | with_reducible refine New.trans ?_ (by with_reducible assumption))))).mono ?_; rintro e w4 ⟨rfl, b4⟩
  try with_reducible replace b4 := New.undrawN b4
  try with_reducible replace b4 := New.undraw b4
  obtain ⟨c4, f4⟩ := b4.rules
  have z4 := b4.size
  try simp only [World.size_alloc, World.size_drew, World.heap_drewN, World.size_setCell] at z4
  go_wp2_with fail
  go_ret
  exact ⟨rfl, (by repeat (first | with_reducible exact New.refl _ | with_reducible assumption | with_reducible refine New.drew ?_ | with_reducible refine New.drewN ?_ _ | with_reducible refine New.alloc ?_ _ | with_reducible refine New.setCell ?_ (by first | (simp; done) | (simp; omega) | omega) _ | with_reducible refine New.trans ?_ (by with_reducible assumption)))⟩
end Go.Proofs.YtadoocadohdfcaaDoor
