/- Contracts: the laws' helpers on programs. -/
import Derived.Test.YteielmihlfakgaaDoorProg
import Derived.Test.YteielmihlfakgaaDoorLineS
import Derived.Test.YteielmihlfakgaaDoorCells
namespace Go.Proofs.YteielmihlfakgaaDoor
open Go Go.Proofs Go.RowKit
set_option linter.unusedVariables false
set_option linter.unusedSimpArgs false
set_option maxRecDepth 100000
structure ProgD where
  name : ByteArray
  inputs : List ByteArray
  vars : List ByteArray
  outputs : List ByteArray
  guard : ByteArray
  lines : List LineD
abbrev valP (p : ProgD) (iv vv ov lv : Value) : Value := .agg #[.string p.name, iv, vv, ov, .string p.guard, lv]
structure RdP (w : World) (p : ProgD) (iv vv ov lv : Value) : Prop where
  ins : RdS w iv p.inputs
  vars : RdS w vv p.vars
  outs : RdS w ov p.outputs
  lines : RdLn w lv p.lines
theorem RdP.new {w w' : World} {p : ProgD} {iv vv ov lv : Value} (h : RdP w p iv vv ov lv) (n : New w w') : RdP w' p iv vv ov lv :=
  ⟨Rd.new h.ins n, Rd.new h.vars n, Rd.new h.outs n, h.lines.new n⟩
theorem RdLn.slice {w : World} {v : Value} {ls : List LineD} (h : RdLn w v ls) : ∃ a c, v = .slice a ls.length c := by
  obtain ⟨ps, rfl, ⟨a, c, rfl, _⟩, _⟩ := h
  exact ⟨a, c, by rw [List.length_map]⟩
structure OkP (p : ProgD) : Prop where
  name : okS p.name
  ins : ∀ x ∈ p.inputs, okS x
  vars : ∀ x ∈ p.vars, okS x
  outs : ∀ x ∈ p.outputs, okS x
  guard : okS p.guard
  lines : ∀ x ∈ p.lines, okLn x
structure FitP (p : ProgD) : Prop where
  name : fitS p.name
  ins : ∀ x ∈ p.inputs, fitS x
  insl : p.inputs.length ≤ 1048576
  vars : ∀ x ∈ p.vars, fitS x
  varsl : p.vars.length ≤ 1048576
  outs : ∀ x ∈ p.outputs, fitS x
  outsl : p.outputs.length ≤ 1048576
  guard : fitS p.guard
  lines : ∀ x ∈ p.lines, fitLn x
  linesl : p.lines.length ≤ 1048576
def szCh : List (Int → Int) → Int → Int
  | [], l => l
  | f :: fs, l => if f l < 0 then -1 else szCh fs (f l)
def szSteps (p : ProgD) : List (Int → Int) := [szT p.name, szSl szT p.inputs, szSl szT p.vars, szSl szT p.outputs, szT p.guard, szSl szLn p.lines]
def szP (p : ProgD) (left : Int) : Int := szCh (szSteps p) left
theorem szCh_bd : ∀ (fs : List (Int → Int)), (∀ f ∈ fs, ∀ l, 0 ≤ l → -1 ≤ f l ∧ f l ≤ l) → ∀ l, 0 ≤ l → -1 ≤ szCh fs l ∧ szCh fs l ≤ l
  | [], _, l, h => by simp [szCh]; omega
  | f :: fs, hf, l, h => by
    have h1 := hf f (by simp) l h
    rw [szCh]; split
    · omega
    · have := szCh_bd fs (fun g hg => hf g (by simp [hg])) (f l) (by omega); omega
theorem szCh_cons {f : Int → Int} {fs : List (Int → Int)} {l : Int} (h : 0 ≤ szCh (f :: fs) l) : 0 ≤ f l ∧ 0 ≤ szCh fs (f l) := by
  rw [szCh] at h; split at h
  · omega
  · exact ⟨by omega, h⟩
theorem szSteps_bd (p : ProgD) : ∀ f ∈ szSteps p, ∀ l, 0 ≤ l → -1 ≤ f l ∧ f l ≤ l := by
  intro f hf l hl
  simp only [szSteps, List.mem_cons, List.not_mem_nil, or_false] at hf
  rcases hf with rfl | rfl | rfl | rfl | rfl | rfl
  · exact szT_bd _ l hl
  · have := szSl_bd szT_bd p.inputs l hl; omega
  · have := szSl_bd szT_bd p.vars l hl; omega
  · have := szSl_bd szT_bd p.outputs l hl; omega
  · exact szT_bd _ l hl
  · have := szSl_bd szLn_bd p.lines l hl; omega
theorem szP_bd (p : ProgD) (left : Int) (h : 0 ≤ left) : -1 ≤ szP p left ∧ szP p left ≤ left := szCh_bd _ (szSteps_bd p) left h
theorem szP_fit (p : ProgD) (left : Int) (h : 0 ≤ left) (h' : left ≤ 1048576) (h2 : 0 ≤ szP p left) : FitP p := by
  rw [szP, szSteps] at h2
  obtain ⟨a1, h2⟩ := szCh_cons h2
  have b1 := szT_bd p.name left h
  obtain ⟨a2, h2⟩ := szCh_cons h2
  have b2 := szSl_bd szT_bd p.inputs _ a1
  obtain ⟨a3, h2⟩ := szCh_cons h2
  have b3 := szSl_bd szT_bd p.vars _ a2
  obtain ⟨a4, h2⟩ := szCh_cons h2
  have b4 := szSl_bd szT_bd p.outputs _ a3
  obtain ⟨a5, h2⟩ := szCh_cons h2
  have b5 := szT_bd p.guard _ a4
  obtain ⟨a6, h2⟩ := szCh_cons h2
  have b6 := szSl_bd szLn_bd p.lines _ a5
  refine ⟨szT_fit p.name left h h' a1, szSl_fit szT_bd szT_fit p.inputs _ a1 (by omega) a2, ?_, szSl_fit szT_bd szT_fit p.vars _ a2 (by omega) a3, ?_, szSl_fit szT_bd szT_fit p.outputs _ a3 (by omega) a4, ?_, szT_fit p.guard _ a4 (by omega) a5, szSl_fit szLn_bd szLn_fit p.lines _ a5 (by omega) a6, ?_⟩
  · have := b2.2.2 a2; omega
  · have := b3.2.2 a3; omega
  · have := b4.2.2 a4; omega
  · have := b6.2.2 a6; omega
end Go.Proofs.YteielmihlfakgaaDoor
