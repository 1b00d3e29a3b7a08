/- Contracts: the laws' helpers on codes; steps counted; the heights of the stack. -/
import Derived.Test.YtekpbmoagabmeaaDoorProg
import Derived.Test.YtekpbmoagabmeaaDoorCodes3
import Derived.Test.YtekpbmoagabmeaaDoorRets
namespace Go.Proofs.YtekpbmoagabmeaaDoor
open Go Go.Proofs Go.RowKit
set_option linter.unusedVariables false
set_option linter.unusedSimpArgs false
set_option maxRecDepth 100000
/-- A code's value. -/
abbrev valC (c : CodeD) (bv sv : Value) : Value := .agg #[.int .i64 c.ins, .int .i64 c.vars, .int .i64 c.outs, bv, sv]
def szC (c : CodeD) (left : Int) : Int := if szTermS c.blocks left < 0 then -1 else szL c.steps.length (szTermS c.blocks left)
theorem szC_bd (c : CodeD) (left : Int) (h : 0 ≤ left) : -1 ≤ szC c left ∧ szC c left ≤ left := by
  have h1 := szTermS_bd c.blocks left h
  rw [szC]; split
  · omega
  · have := szL_range (n := c.steps.length) (left := szTermS c.blocks left) (B := left) (by omega) (by omega); omega
theorem szC_fit (c : CodeD) (left : Int) (h : 0 ≤ left) (h' : left ≤ 1048576) (h2 : 0 ≤ szC c left) : (∀ x ∈ c.blocks, fitTerm x) ∧ c.blocks.length ≤ 1048576 ∧ c.steps.length ≤ 1048576 := by
  have h1 := szTermS_bd c.blocks left h
  rw [szC] at h2; split at h2
  · omega
  · have := szL_bd h2
    exact ⟨szTermS_fit c.blocks left h h' (by omega), by have := h1.2.2 (by omega); omega, by omega⟩
theorem szCode_any (c : CodeD) (bv sv : Value) (left : Int) (w : World) (hb : RdT w bv c.blocks) (hs : RdN w sv c.steps) (hl : 0 ≤ left) (hl' : left ≤ 1048576) (ho : ∀ x ∈ c.blocks, okTerm x) :
    Calls Tryd.prog 6 #[valC c bv sv, .int .i64 left] w fun e w' => e = .returned (.int .i64 (szC c left)) ∧ New w w' := by
  have HB := Lib.hid hb; clear hb
  have HS := Lib.hid hs; clear hs
  have hbd := szTermS_bd c.blocks left hl
  have HZ := Lib.hid (rfl : szC c left = szC c left)
  by_cases h1 : szTermS c.blocks left < 0
  · go_enter Tryd.func6, Tryd.ntmps6
    go_wp2_with fail
    refine (szTermS_any bv c.blocks left _ (Rd.new HB.out (by repeat (first | with_reducible exact New.refl _ | with_reducible assumption | with_reducible refine New.drew ?_ | with_reducible refine New.drewN ?_ _ | with_reducible refine New.alloc ?_ _ | with_reducible refine New.setCell ?_ (by first | (simp; done) | (simp; omega) | omega) _ | with_reducible refine New.trans ?_ (by with_reducible assumption)))) hl hl' ho).mono ?_; rintro e w1 ⟨rfl, b1⟩
    try with_reducible replace b1 := New.undrawN b1
    try with_reducible replace b1 := New.undraw b1
    obtain ⟨c1, f1⟩ := b1.rules
    have z1 := b1.size
    try simp only [World.size_alloc, World.size_drew, World.heap_drewN, World.size_setCell] at z1
    have z1_0 : w.heap.size < w1.heap.size := by omega
    go_wp2_with fail
    go_ret
    exact ⟨ret_int (by rw [szC, if_pos h1]), (by repeat (first | with_reducible exact New.refl _ | with_reducible assumption | with_reducible refine New.drew ?_ | with_reducible refine New.drewN ?_ _ | with_reducible refine New.alloc ?_ _ | with_reducible refine New.setCell ?_ (by first | (simp; done) | (simp; omega) | omega) _ | with_reducible refine New.trans ?_ (by with_reducible assumption)))⟩
  · have h2 : szC c left = szL c.steps.length (szTermS c.blocks left) := by rw [szC, if_neg h1]
    have hr := szL_range (n := c.steps.length) (left := szTermS c.blocks left) (B := left) (by omega) (by omega)
    rw [h2]
    go_enter Tryd.func6, Tryd.ntmps6
    go_wp2_with fail
    refine (szTermS_any bv c.blocks left _ (Rd.new HB.out (by repeat (first | with_reducible exact New.refl _ | with_reducible assumption | with_reducible refine New.drew ?_ | with_reducible refine New.drewN ?_ _ | with_reducible refine New.alloc ?_ _ | with_reducible refine New.setCell ?_ (by first | (simp; done) | (simp; omega) | omega) _ | with_reducible refine New.trans ?_ (by with_reducible assumption)))) hl hl' ho).mono ?_; rintro e w1 ⟨rfl, b1⟩
    try with_reducible replace b1 := New.undrawN b1
    try with_reducible replace b1 := New.undraw b1
    obtain ⟨c1, f1⟩ := b1.rules
    have z1 := b1.size
    try simp only [World.size_alloc, World.size_drew, World.heap_drewN, World.size_setCell] at z1
    have z1_0 : w.heap.size < w1.heap.size := by omega
    go_wp2_with fail
    refine (szInstructionS_any sv _ _ (szTermS c.blocks left) _ (Rd.new HS.out (by repeat (first | with_reducible exact New.refl _ | with_reducible assumption | with_reducible refine New.drew ?_ | with_reducible refine New.drewN ?_ _ | with_reducible refine New.alloc ?_ _ | with_reducible refine New.setCell ?_ (by first | (simp; done) | (simp; omega) | omega) _ | with_reducible refine New.trans ?_ (by with_reducible assumption)))) (by omega) (by omega)).mono ?_; rintro e w2 ⟨rfl, rfl⟩
    go_wp2_with fail
    all_goals go_ret
    all_goals exact ⟨ret_int (by omega), (by repeat (first | with_reducible exact New.refl _ | with_reducible assumption | with_reducible refine New.drew ?_ | with_reducible refine New.drewN ?_ _ | with_reducible refine New.alloc ?_ _ | with_reducible refine New.setCell ?_ (by first | (simp; done) | (simp; omega) | omega) _ | with_reducible refine New.trans ?_ (by with_reducible assumption)))⟩
/-- A code in new memory. -/
def RetC (w : World) (c : CodeD) (e : Ending) (w' : World) : Prop := ∃ r s B, e = .returned (valC c r s) ∧ New w w' ∧ w'.ownsRow w.heap.size 56 3 r c.blocks.length (c.blocks.flatMap encTerm) ∧ w'.ownsRow B 58 2 s c.steps.length (c.steps.flatMap encInstruction) ∧ w.heap.size ≤ B ∧ ∀ k, r.ownBlock = some k → k < B
set_option maxHeartbeats 1000000 in
theorem toCode_any (c : CodeD) (bv sv : Value) (w : World) (hb : RdT w bv c.blocks) (hs : RdN w sv c.steps) (h1 : c.blocks.length ≤ 1048576) (h2 : c.steps.length ≤ 1048576) :
    Calls Tryd.prog 8 #[valC c bv sv] w (RetC w c) := by
  have HB := Lib.hid hb; clear hb
  have HS := Lib.hid hs; clear hs
  go_enter Tryd.func8, Tryd.ntmps8
  go_wp2_with fail
  refine (toTermS_any _ c.blocks _ (Rd.new HB.out (by repeat (first | with_reducible exact New.refl _ | with_reducible assumption | with_reducible refine New.drew ?_ | with_reducible refine New.drewN ?_ _ | with_reducible refine New.alloc ?_ _ | with_reducible refine New.setCell ?_ (by first | (simp; done) | (simp; omega) | omega) _ | with_reducible refine New.trans ?_ (by with_reducible assumption)))) h1).mono ?_; rintro e w1 ⟨r, rfl, b1, own1⟩
  obtain ⟨ra, rc, rfl⟩ := own_slice own1; simp only [World.size_alloc, World.size_setCell] at own1
  obtain ⟨c1, f1⟩ := b1.rules
  have z1 := b1.size
  try simp only [World.size_alloc, World.size_drew, World.heap_drewN, World.size_setCell] at z1
  have z1_0 : w.heap.size < w1.heap.size := by omega
  have z1_1 : w.heap.size + 1 < w1.heap.size := by omega
  have z1_2 : w.heap.size + 1 + 1 < w1.heap.size := by omega
  go_wp2_with fail
  refine (toInstructionS_any _ c.steps _ (Rd.new HS.out (by repeat (first | with_reducible exact New.refl _ | with_reducible assumption | with_reducible refine New.drew ?_ | with_reducible refine New.drewN ?_ _ | with_reducible refine New.alloc ?_ _ | with_reducible refine New.setCell ?_ (by first | (simp; done) | (simp; omega) | omega) _ | with_reducible refine New.trans ?_ (by with_reducible assumption)))) h2).mono ?_; rintro e w2 ⟨r2, rfl, b2, own2⟩
  obtain ⟨ra2, rc2, rfl⟩ := own_slice own2; simp only [World.size_setCell] at own2
  obtain ⟨c2, f2⟩ := b2.rules
  have z2 := b2.size
  try simp only [World.size_alloc, World.size_drew, World.heap_drewN, World.size_setCell] at z2
  have z2_0 : w.heap.size < w2.heap.size := by omega
  have z2_1 : w.heap.size + 1 < w2.heap.size := by omega
  have z2_2 : w.heap.size + 1 + 1 < w2.heap.size := by omega
  go_wp2_with fail
  have hlt := own_block_lt own1
  refine bodyPost_ret (v := valC c (.slice ra c.blocks.length rc) (.slice ra2 c.steps.length rc2)) (by simp [results, Tryd.results8, go_sem, c2, f2, c1, f1, z1_0, z1_1, z1_2, z2_0, z2_1, z2_2]) rfl ⟨_, _, w1.heap.size, rfl, ?_, ?_, ?_, ?_, ?_⟩
  · exact (by repeat (first | with_reducible exact New.refl _ | with_reducible assumption | with_reducible refine New.drew ?_ | with_reducible refine New.drewN ?_ _ | with_reducible refine New.alloc ?_ _ | with_reducible refine New.setCell ?_ (by first | (simp; done) | (simp; omega) | omega) _ | with_reducible refine New.trans ?_ (by with_reducible assumption)))
  · refine own_base (base := w.heap.size + 1 + 1 + 1) ?_ (by omega)
    iterate 6 apply ownsRow_setCell_below
    refine own_new ?_ b2
    apply ownsRow_setCell_below
    exact own1
    all_goals (dsimp; omega)
  · iterate 6 apply ownsRow_setCell_below
    exact own2
    all_goals (dsimp; omega)
  · omega
  · intro k hk
    have := (hlt k hk).2
    omega
set_option maxHeartbeats 1000000 in
theorem eqCode_any (c : CodeD) (bv sv bv' sv' : Value) (w : World) (hb : RdT w bv c.blocks) (hs : RdN w sv c.steps) (hb' : RdT w bv' c.blocks) (hs' : RdN w sv' c.steps) :
    Calls Tryd.prog 10 #[valC c bv sv, valC c bv' sv'] w fun e w' => e = .returned (.bool true) ∧ New w w' := by
  have HB := Lib.hid hb; clear hb
  have HS := Lib.hid hs; clear hs
  have HB' := Lib.hid hb'; clear hb'
  have HS' := Lib.hid hs'; clear hs'
  have zz : w.heap.size < w.heap.size + 1 + 1 := by omega
  have n1 : (c.ins != c.ins) = false := by simp
  have n2 : (c.vars != c.vars) = false := by simp
  have n3 : (c.outs != c.outs) = false := by simp
  go_enter Tryd.func10, Tryd.ntmps10
  go_wp2_with fail
  refine (eqTermS_any _ _ c.blocks c.blocks _ (Rd.new HB.out (by repeat (first | with_reducible exact New.refl _ | with_reducible assumption | with_reducible refine New.drew ?_ | with_reducible refine New.drewN ?_ _ | with_reducible refine New.alloc ?_ _ | with_reducible refine New.setCell ?_ (by first | (simp; done) | (simp; omega) | omega) _ | with_reducible refine New.trans ?_ (by with_reducible assumption)))) (Rd.new HB'.out (by repeat (first | with_reducible exact New.refl _ | with_reducible assumption | with_reducible refine New.drew ?_ | with_reducible refine New.drewN ?_ _ | with_reducible refine New.alloc ?_ _ | with_reducible refine New.setCell ?_ (by first | (simp; done) | (simp; omega) | omega) _ | with_reducible refine New.trans ?_ (by with_reducible assumption))))).mono ?_; rintro e w1 ⟨rfl, b1⟩
  try with_reducible replace b1 := New.undrawN b1
  try with_reducible replace b1 := New.undraw b1
  obtain ⟨c1, f1⟩ := b1.rules
  have z1 := b1.size
  try simp only [World.size_alloc, World.size_drew, World.heap_drewN, World.size_setCell] at z1
  have z1_0 : w.heap.size < w1.heap.size := by omega
  have z1_1 : w.heap.size + 1 < w1.heap.size := by omega
  go_wp2_with fail
  refine (eqInstructionS_any _ _ c.steps c.steps _ (Rd.new HS.out (by repeat (first | with_reducible exact New.refl _ | with_reducible assumption | with_reducible refine New.drew ?_ | with_reducible refine New.drewN ?_ _ | with_reducible refine New.alloc ?_ _ | with_reducible refine New.setCell ?_ (by first | (simp; done) | (simp; omega) | omega) _ | with_reducible refine New.trans ?_ (by with_reducible assumption)))) (Rd.new HS'.out (by repeat (first | with_reducible exact New.refl _ | with_reducible assumption | with_reducible refine New.drew ?_ | with_reducible refine New.drewN ?_ _ | with_reducible refine New.alloc ?_ _ | with_reducible refine New.setCell ?_ (by first | (simp; done) | (simp; omega) | omega) _ | with_reducible refine New.trans ?_ (by with_reducible assumption))))).mono ?_; rintro e w2 ⟨rfl, b2⟩
  try with_reducible replace b2 := New.undrawN b2
  try with_reducible replace b2 := New.undraw b2
  obtain ⟨c2, f2⟩ := b2.rules
  have z2 := b2.size
  try simp only [World.size_alloc, World.size_drew, World.heap_drewN, World.size_setCell] at z2
  have z2_0 : w.heap.size < w2.heap.size := by omega
  have z2_1 : w.heap.size + 1 < w2.heap.size := by omega
  go_wp2_with fail
  go_ret
  exact ⟨rfl, (by repeat (first | with_reducible exact New.refl _ | with_reducible assumption | with_reducible refine New.drew ?_ | with_reducible refine New.drewN ?_ _ | with_reducible refine New.alloc ?_ _ | with_reducible refine New.setCell ?_ (by first | (simp; done) | (simp; omega) | omega) _ | with_reducible refine New.trans ?_ (by with_reducible assumption)))⟩
def stepsC (c : CodeD) (op : Int) : Int × Int := if isCodeB c = true then (if inB op 1 11 = true then (((c.steps.countP fun x => x.op == op : Nat) : Int), 0) else (0, 2)) else (0, 1)
theorem count_next {α : Type} (p : α → Bool) (xs : List α) (k : Nat) (h : k < xs.length) : (xs.take (k + 1)).countP p = (xs.take k).countP p + (if p xs[k] = true then 1 else 0) := by
  rw [List.take_succ_eq_append_getElem h, List.countP_append, List.countP_singleton]
theorem count_le {α : Type} (p : α → Bool) (xs : List α) (k : Nat) : (xs.take k).countP p ≤ xs.length := by
  refine Nat.le_trans List.countP_le_length ?_
  rw [List.length_take]; omega
/-- The heights, and a code. -/
def heightsC (c : CodeD) : List Int × Int := if isCodeB c = true then (stackOf c, 0) else ([], 1)
theorem sStackHeights_any (c : CodeD) (bv sv : Value) (w : World) (hb : RdT w bv c.blocks) (hs : RdN w sv c.steps) (hf : ∀ x ∈ c.blocks, fitTerm x) :
    Calls Tryd.prog 16 #[valC c bv sv] w (RetIC w (heightsC c)) := by
  have HB := Lib.hid hb; clear hb
  have HS := Lib.hid hs; clear hs
  rcases Bool.eq_false_or_eq_true (isCodeB c) with h1 | h1
  · have hsm : SmallC c := small_of (by rw [isCodeB] at h1; simp at h1; exact h1.1.1)
    rw [show heightsC c = (stackOf c, 0) by rw [heightsC, if_pos h1]]
    go_enter Tryd.func16, Tryd.ntmps16
    go_wp2_with fail
    refine (sIsCode_any c bv _ _ (Rd.new HB.out (by repeat (first | with_reducible exact New.refl _ | with_reducible assumption | with_reducible refine New.drew ?_ | with_reducible refine New.drewN ?_ _ | with_reducible refine New.alloc ?_ _ | with_reducible refine New.setCell ?_ (by first | (simp; done) | (simp; omega) | omega) _ | with_reducible refine New.trans ?_ (by with_reducible assumption)))) (Rd.new HS.out (by repeat (first | with_reducible exact New.refl _ | with_reducible assumption | with_reducible refine New.drew ?_ | with_reducible refine New.drewN ?_ _ | with_reducible refine New.alloc ?_ _ | with_reducible refine New.setCell ?_ (by first | (simp; done) | (simp; omega) | omega) _ | with_reducible refine New.trans ?_ (by with_reducible assumption)))) hf).mono ?_; rintro e w1 ⟨rfl, b1⟩
    try with_reducible replace b1 := New.undrawN b1
    try with_reducible replace b1 := New.undraw b1
    obtain ⟨c1, f1⟩ := b1.rules
    have z1 := b1.size
    try simp only [World.size_alloc, World.size_drew, World.heap_drewN, World.size_setCell] at z1
    have z1_0 : w.heap.size < w1.heap.size := by omega
    go_wp2_with fail
    refine (sStack_any c bv sv _ hsm (Rd.new HB.out (by repeat (first | with_reducible exact New.refl _ | with_reducible assumption | with_reducible refine New.drew ?_ | with_reducible refine New.drewN ?_ _ | with_reducible refine New.alloc ?_ _ | with_reducible refine New.setCell ?_ (by first | (simp; done) | (simp; omega) | omega) _ | with_reducible refine New.trans ?_ (by with_reducible assumption)))) (Rd.new HS.out (by repeat (first | with_reducible exact New.refl _ | with_reducible assumption | with_reducible refine New.drew ?_ | with_reducible refine New.drewN ?_ _ | with_reducible refine New.alloc ?_ _ | with_reducible refine New.setCell ?_ (by first | (simp; done) | (simp; omega) | omega) _ | with_reducible refine New.trans ?_ (by with_reducible assumption))))).mono ?_; rintro e w2 ⟨r, rfl, b2, own2⟩
    obtain ⟨c2, f2⟩ := b2.rules
    have z2 := b2.size
    try simp only [World.size_alloc, World.size_drew, World.heap_drewN, World.size_setCell] at z2
    go_wp2_with fail
    go_ret2
    exact ⟨r, rfl, (by repeat (first | with_reducible exact New.refl _ | with_reducible assumption | with_reducible refine New.drew ?_ | with_reducible refine New.drewN ?_ _ | with_reducible refine New.alloc ?_ _ | with_reducible refine New.setCell ?_ (by first | (simp; done) | (simp; omega) | omega) _ | with_reducible refine New.trans ?_ (by with_reducible assumption))), own_base own2 (by omega)⟩
  · rw [show heightsC c = ([], 1) by rw [heightsC, if_neg (by rw [h1]; simp)]]
    go_enter Tryd.func16, Tryd.ntmps16
    go_wp2_with fail
    refine (sIsCode_any c bv _ _ (Rd.new HB.out (by repeat (first | with_reducible exact New.refl _ | with_reducible assumption | with_reducible refine New.drew ?_ | with_reducible refine New.drewN ?_ _ | with_reducible refine New.alloc ?_ _ | with_reducible refine New.setCell ?_ (by first | (simp; done) | (simp; omega) | omega) _ | with_reducible refine New.trans ?_ (by with_reducible assumption)))) (Rd.new HS.out (by repeat (first | with_reducible exact New.refl _ | with_reducible assumption | with_reducible refine New.drew ?_ | with_reducible refine New.drewN ?_ _ | with_reducible refine New.alloc ?_ _ | with_reducible refine New.setCell ?_ (by first | (simp; done) | (simp; omega) | omega) _ | with_reducible refine New.trans ?_ (by with_reducible assumption)))) hf).mono ?_; rintro e w1 ⟨rfl, b1⟩
    try with_reducible replace b1 := New.undrawN b1
    try with_reducible replace b1 := New.undraw b1
    obtain ⟨c1, f1⟩ := b1.rules
    have z1 := b1.size
    try simp only [World.size_alloc, World.size_drew, World.heap_drewN, World.size_setCell] at z1
    have z1_0 : w.heap.size < w1.heap.size := by omega
    go_wp2_with fail
    go_ret2
    exact ⟨_, rfl, (by repeat (first | with_reducible exact New.refl _ | with_reducible assumption | with_reducible refine New.drew ?_ | with_reducible refine New.drewN ?_ _ | with_reducible refine New.alloc ?_ _ | with_reducible refine New.setCell ?_ (by first | (simp; done) | (simp; omega) | omega) _ | with_reducible refine New.trans ?_ (by with_reducible assumption))), World.ownsRow_nil _ _ _ _⟩
theorem iStackHeights_any (c : CodeD) (bv sv : Value) (w : World) (hb : RdT w bv c.blocks) (hs : RdN w sv c.steps) (hf : ∀ x ∈ c.blocks, fitTerm x) (hk : KW w) :
    Calls Tryd.prog 15 #[valC c bv sv] w (RetIC w (heightsC c)) := by
  have HB := Lib.hid hb; clear hb
  have HS := Lib.hid hs; clear hs
  have HK := Lib.hid hk; clear hk
  rcases Bool.eq_false_or_eq_true (isCodeB c) with h1 | h1
  · have hsm : SmallC c := small_of (by rw [isCodeB] at h1; simp at h1; exact h1.1.1)
    rw [show heightsC c = (stackOf c, 0) by rw [heightsC, if_pos h1]]
    go_enter Tryd.func15, Tryd.ntmps15
    go_wp2_with fail
    refine (iIsCode_any c bv _ _ (Rd.new HB.out (by repeat (first | with_reducible exact New.refl _ | with_reducible assumption | with_reducible refine New.drew ?_ | with_reducible refine New.drewN ?_ _ | with_reducible refine New.alloc ?_ _ | with_reducible refine New.setCell ?_ (by first | (simp; done) | (simp; omega) | omega) _ | with_reducible refine New.trans ?_ (by with_reducible assumption)))) (Rd.new HS.out (by repeat (first | with_reducible exact New.refl _ | with_reducible assumption | with_reducible refine New.drew ?_ | with_reducible refine New.drewN ?_ _ | with_reducible refine New.alloc ?_ _ | with_reducible refine New.setCell ?_ (by first | (simp; done) | (simp; omega) | omega) _ | with_reducible refine New.trans ?_ (by with_reducible assumption)))) hf (HK.out.new (by repeat (first | with_reducible exact New.refl _ | with_reducible assumption | with_reducible refine New.drew ?_ | with_reducible refine New.drewN ?_ _ | with_reducible refine New.alloc ?_ _ | with_reducible refine New.setCell ?_ (by first | (simp; done) | (simp; omega) | omega) _ | with_reducible refine New.trans ?_ (by with_reducible assumption))))).mono ?_; rintro e w1 ⟨rfl, b1⟩
    try with_reducible replace b1 := New.undrawN b1
    try with_reducible replace b1 := New.undraw b1
    obtain ⟨c1, f1⟩ := b1.rules
    have z1 := b1.size
    try simp only [World.size_alloc, World.size_drew, World.heap_drewN, World.size_setCell] at z1
    have z1_0 : w.heap.size < w1.heap.size := by omega
    go_wp2_with fail
    refine (iStack_any c bv sv _ hsm (Rd.new HB.out (by repeat (first | with_reducible exact New.refl _ | with_reducible assumption | with_reducible refine New.drew ?_ | with_reducible refine New.drewN ?_ _ | with_reducible refine New.alloc ?_ _ | with_reducible refine New.setCell ?_ (by first | (simp; done) | (simp; omega) | omega) _ | with_reducible refine New.trans ?_ (by with_reducible assumption)))) (Rd.new HS.out (by repeat (first | with_reducible exact New.refl _ | with_reducible assumption | with_reducible refine New.drew ?_ | with_reducible refine New.drewN ?_ _ | with_reducible refine New.alloc ?_ _ | with_reducible refine New.setCell ?_ (by first | (simp; done) | (simp; omega) | omega) _ | with_reducible refine New.trans ?_ (by with_reducible assumption))))).mono ?_; rintro e w2 ⟨r, rfl, b2, own2⟩
    obtain ⟨c2, f2⟩ := b2.rules
    have z2 := b2.size
    try simp only [World.size_alloc, World.size_drew, World.heap_drewN, World.size_setCell] at z2
    go_wp2_with fail
    go_ret2
    exact ⟨r, rfl, (by repeat (first | with_reducible exact New.refl _ | with_reducible assumption | with_reducible refine New.drew ?_ | with_reducible refine New.drewN ?_ _ | with_reducible refine New.alloc ?_ _ | with_reducible refine New.setCell ?_ (by first | (simp; done) | (simp; omega) | omega) _ | with_reducible refine New.trans ?_ (by with_reducible assumption))), own_base own2 (by omega)⟩
  · rw [show heightsC c = ([], 1) by rw [heightsC, if_neg (by rw [h1]; simp)]]
    go_enter Tryd.func15, Tryd.ntmps15
    go_wp2_with fail
    refine (iIsCode_any c bv _ _ (Rd.new HB.out (by repeat (first | with_reducible exact New.refl _ | with_reducible assumption | with_reducible refine New.drew ?_ | with_reducible refine New.drewN ?_ _ | with_reducible refine New.alloc ?_ _ | with_reducible refine New.setCell ?_ (by first | (simp; done) | (simp; omega) | omega) _ | with_reducible refine New.trans ?_ (by with_reducible assumption)))) (Rd.new HS.out (by repeat (first | with_reducible exact New.refl _ | with_reducible assumption | with_reducible refine New.drew ?_ | with_reducible refine New.drewN ?_ _ | with_reducible refine New.alloc ?_ _ | with_reducible refine New.setCell ?_ (by first | (simp; done) | (simp; omega) | omega) _ | with_reducible refine New.trans ?_ (by with_reducible assumption)))) hf (HK.out.new (by repeat (first | with_reducible exact New.refl _ | with_reducible assumption | with_reducible refine New.drew ?_ | with_reducible refine New.drewN ?_ _ | with_reducible refine New.alloc ?_ _ | with_reducible refine New.setCell ?_ (by first | (simp; done) | (simp; omega) | omega) _ | with_reducible refine New.trans ?_ (by with_reducible assumption))))).mono ?_; rintro e w1 ⟨rfl, b1⟩
    try with_reducible replace b1 := New.undrawN b1
    try with_reducible replace b1 := New.undraw b1
    obtain ⟨c1, f1⟩ := b1.rules
    have z1 := b1.size
    try simp only [World.size_alloc, World.size_drew, World.heap_drewN, World.size_setCell] at z1
    have z1_0 : w.heap.size < w1.heap.size := by omega
    go_wp2_with fail
    go_ret2
    exact ⟨_, rfl, (by repeat (first | with_reducible exact New.refl _ | with_reducible assumption | with_reducible refine New.drew ?_ | with_reducible refine New.drewN ?_ _ | with_reducible refine New.alloc ?_ _ | with_reducible refine New.setCell ?_ (by first | (simp; done) | (simp; omega) | omega) _ | with_reducible refine New.trans ?_ (by with_reducible assumption))), World.ownsRow_nil _ _ _ _⟩
end Go.Proofs.YtekpbmoagabmeaaDoor
