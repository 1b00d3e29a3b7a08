/- A code is recovered from its text, and its instructions are counted, for every code. No condition but the row's own: the listed tables hold what the program's text lays. -/
import Derived.WalkSpells
import Derived.Test.YteielmihlfakgaaGreatDoorRows
import Derived.Test.YteielmihlfakgaaGreatDoorCards
import Derived.Test.YteielmihlfakgaaGreatDoorTie
import Derived.Test.YteielmihlfakgaaGreatDoorVA
import Derived.Test.YteielmihlfakgaaGreatDoorDrK
import Derived.Test.YteielmihlfakgaaGreatDoorRdcI
import Derived.Test.YteielmihlfakgaaGreatDoorRdcV
import Derived.Test.YteielmihlfakgaaGreatDoorLikeC
import Derived.Test.YteielmihlfakgaaGreatDoorLaidX
import Derived.Test.YteielmihlfakgaaGreatDoorCtxtI
import Derived.Test.YteielmihlfakgaaGreatDoorUD
import Derived.Test.YteielmihlfakgaaGreatDoorUG
namespace Go.Proofs.YteielmihlfakgaaGreatDoor
open Go Go.Proofs Go.RowKit Go.ChangeShapes Go.WideShapes Go.ChangeAt
set_option linter.unusedVariables false
set_option linter.unusedSimpArgs false
set_option maxRecDepth 100000
theorem steps_op {c : CodeD} (h : isCodeB c = true) : ∀ x ∈ c.steps, 1 ≤ x.op ∧ x.op ≤ 11 := by
  rw [isCodeB] at h
  simp only [Bool.and_eq_true] at h
  have ho := h.2
  have hr : (crun c c.steps 0 []).isSome = true := by
    rw [okC] at ho
    cases hc : crun c c.steps 0 [] with
    | some _ => rfl
    | none => rw [hc] at ho; cases ho
  intro x hx
  obtain ⟨h1, h2, h3, _⟩ := fits_op (crun_fits _ _ _ hr x hx)
  omega
def totC (c : CodeD) (k : Nat) : Nat := c.steps.countP fun x => decide (1 ≤ x.op ∧ x.op ≤ (k : Int))
theorem tot_zero (c : CodeD) : totC c 0 = 0 := by
  rw [totC, List.countP_eq_zero]
  intro x _
  simp; omega
theorem tot_next (c : CodeD) (k : Nat) : totC c (k + 1) = totC c k + c.steps.countP fun x => x.op == ((k : Int) + 1) := by
  unfold totC
  induction c.steps with
  | nil => rfl
  | cons x xs ih =>
    rw [List.countP_cons, List.countP_cons, List.countP_cons, ih]
    by_cases h1 : x.op = (k : Int) + 1
    · have e1 : decide (1 ≤ x.op ∧ x.op ≤ ((k + 1 : Nat) : Int)) = true := by simp; omega
      have e2 : decide (1 ≤ x.op ∧ x.op ≤ (k : Int)) = false := by simp; omega
      have e3 : (x.op == (k : Int) + 1) = true := by simp [h1]
      rw [e1, e2, e3]; simp; omega
    · have e3 : (x.op == (k : Int) + 1) = false := by simp [h1]
      have e1 : decide (1 ≤ x.op ∧ x.op ≤ ((k + 1 : Nat) : Int)) = decide (1 ≤ x.op ∧ x.op ≤ (k : Int)) := by
        rw [decide_eq_decide]; omega
      rw [e1, e3]; simp; omega
theorem tot_all {c : CodeD} (h : isCodeB c = true) : totC c 11 = c.steps.length := by
  rw [totC, List.countP_eq_length]
  intro x hx
  have := steps_op h x hx
  simp; omega
theorem tot_le (c : CodeD) (k : Nat) : totC c k ≤ c.steps.length := List.countP_le_length
theorem ctext_ne (c : CodeD) : ctext c ≠ [] := by
  rw [ctext_lines]; simp
theorem rdcI_nil : rdcI [] = none := by
  cases h : rdcI [] with
  | none => rfl
  | some c => exact absurd (rdcI_ok h).2.symm (ctext_ne c)
theorem text_facts (c : CodeD) : (isCodeB c = true ∧ rdcI (strL (ctextR c)).data.toList = some c ∧ ((strL (ctextR c)).toList == []) = false) ∨ (isCodeB c = false ∧ rdcI (strL (ctextR c)).data.toList = none ∧ ((strL (ctextR c)).toList == []) = true) := by
  rcases Bool.eq_false_or_eq_true (isCodeB c) with h | h
  · refine .inl ⟨h, ?_, ?_⟩
    · rw [strL_list, ctextR, if_pos h, (rdc_text h).2]
    · rw [ByteArray.toList_eq, strL_list, ctextR, if_pos h]
      cases ht : ctext c with
      | nil => exact absurd ht (ctext_ne c)
      | cons _ _ => rfl
  · refine .inr ⟨h, ?_, ?_⟩
    · rw [strL_list, ctextR, if_neg (by simp [h]), rdcI_nil]
    · rw [ByteArray.toList_eq, strL_list, ctextR, if_neg (by simp [h])]; rfl
theorem iCodeTR_any (c : CodeD) (bv sv : Value) (w : World) (hb : RdT w bv c.blocks) (hs : RdN w sv c.steps) (hf : ∀ x ∈ c.blocks, fitTerm x) (hk : KW w) (hp : PW w) :
    Calls Tryz.prog 7 #[valC c bv sv] w fun e w' => e = .returned (.string (strL (ctextR c))) ∧ New w w' := by
  have HI := Lib.hid (fun (w0 : World) (n : New w w0) => iIsCode_any c bv sv w0 (Rd.new hb n) (Rd.new hs n) hf (hk.new n))
  cases hc : isCodeB c with
  | true =>
    rw [ctextR, if_pos hc]
    have HT := Lib.hid (fun (w0 : World) (n : New w w0) => iCodeT_any c bv sv w0 (Rd.new hb n) (Rd.new hs n) hc (hk.new n) (hp.new n))
    rw [hc] at HI
    clear hb hs hk hp hc
    go_enter Tryz.func7, Tryz.ntmps7
    go_wp2_with fail
    refine (HI.out _ (by repeat (first | with_reducible exact New.refl _ | with_reducible assumption | with_reducible refine New.drew ?_ | with_reducible refine New.drewN ?_ _ | with_reducible refine New.alloc ?_ _ | with_reducible refine New.setCell ?_ (by first | (simp; done) | (simp; omega) | omega) _ | with_reducible refine New.trans ?_ (by with_reducible assumption)))).mono ?_; rintro e w1 ⟨rfl, b1⟩
    try with_reducible replace b1 := New.undrawN b1
    try with_reducible replace b1 := New.undraw b1
    obtain ⟨c1, f1⟩ := b1.rules
    have z1 := b1.size
    try simp only [World.size_alloc, World.size_drew, World.heap_drewN, World.size_setCell] at z1
    have z1_0 : w.heap.size < w1.heap.size := by omega
    go_wp2_with fail
    refine (HT.out _ (by repeat (first | with_reducible exact New.refl _ | with_reducible assumption | with_reducible refine New.drew ?_ | with_reducible refine New.drewN ?_ _ | with_reducible refine New.alloc ?_ _ | with_reducible refine New.setCell ?_ (by first | (simp; done) | (simp; omega) | omega) _ | with_reducible refine New.trans ?_ (by with_reducible assumption)))).mono ?_; rintro e w2 ⟨rfl, b2⟩
    try with_reducible replace b2 := New.undrawN b2
    try with_reducible replace b2 := New.undraw b2
    obtain ⟨c2, f2⟩ := b2.rules
    have z2 := b2.size
    try simp only [World.size_alloc, World.size_drew, World.heap_drewN, World.size_setCell] at z2
    have z2_0 : w.heap.size < w2.heap.size := by omega
    go_wp2_with fail
    go_ret
    exact ⟨rfl, (by repeat (first | with_reducible exact New.refl _ | with_reducible assumption | with_reducible refine New.drew ?_ | with_reducible refine New.drewN ?_ _ | with_reducible refine New.alloc ?_ _ | with_reducible refine New.setCell ?_ (by first | (simp; done) | (simp; omega) | omega) _ | with_reducible refine New.trans ?_ (by with_reducible assumption)))⟩
  | false =>
    rw [ctextR, if_neg (by simp [hc])]
    rw [hc] at HI
    clear hb hs hk hp hc
    go_enter Tryz.func7, Tryz.ntmps7
    go_wp2_with fail
    refine (HI.out _ (by repeat (first | with_reducible exact New.refl _ | with_reducible assumption | with_reducible refine New.drew ?_ | with_reducible refine New.drewN ?_ _ | with_reducible refine New.alloc ?_ _ | with_reducible refine New.setCell ?_ (by first | (simp; done) | (simp; omega) | omega) _ | with_reducible refine New.trans ?_ (by with_reducible assumption)))).mono ?_; rintro e w1 ⟨rfl, b1⟩
    try with_reducible replace b1 := New.undrawN b1
    try with_reducible replace b1 := New.undraw b1
    obtain ⟨c1, f1⟩ := b1.rules
    have z1 := b1.size
    try simp only [World.size_alloc, World.size_drew, World.heap_drewN, World.size_setCell] at z1
    have z1_0 : w.heap.size < w1.heap.size := by omega
    go_wp2_with fail
    go_ret
    exact ⟨rfl, (by repeat (first | with_reducible exact New.refl _ | with_reducible assumption | with_reducible refine New.drew ?_ | with_reducible refine New.drewN ?_ _ | with_reducible refine New.alloc ?_ _ | with_reducible refine New.setCell ?_ (by first | (simp; done) | (simp; omega) | omega) _ | with_reducible refine New.trans ?_ (by with_reducible assumption)))⟩
set_option maxHeartbeats 4000000 in
theorem fnCodes_any (v : Value) (bs : List Int) (w : World) (hv : Rd w v bs.length (bs.map (Value.int .u8))) (hb : ∀ c ∈ bs, 0 ≤ c ∧ c ≤ 255) (hm : ML w) (hp : PW w) (he : ER w) (hk : KW w) :
    Calls Tryz.prog 3 #[v] w fun e w' => e = .returned (.bool true) ∧ New w w' := by
  have HV := Lib.hid hv
  have HB := Lib.hid hb
  have HM := Lib.hid hm; clear hm
  have HPW := Lib.hid hp; clear hp
  have HER := Lib.hid he; clear he
  have HK := Lib.hid hk; clear hk
  clear hv hb
  by_cases hl : (4096 : Int) < (bs.length : Int)
  · go_enter Tryz.func3, Tryz.ntmps3
    go_wp2_with fail
    refine (big_any v bs.length _ _ HV.out).mono ?_; rintro e w1 ⟨rfl, rfl⟩
    go_wp2_with fail
    go_ret
    exact ⟨rfl, New.refl _⟩
  · have hl' : bs.length ≤ 4096 := by omega
    have HL := Lib.hid hl'; clear hl'
    have HRI := Lib.hid (fun (s : ByteArray) (hs : s.size ≤ 1048576) (w0 : World) (k : New w w0) => iReadCode_any s w0 hs (HM.out.new k) (HK.out.new k) (HPW.out.new k) (HER.out.new k))
    have HRS := Lib.hid (fun (s : ByteArray) (hs : s.size ≤ 1048576) (w0 : World) => (by have h := sReadCode_any s w0 hs; rw [rdc_same] at h; exact h : Calls Tryz.prog 10 #[.string s] w0 (RetRC w0 (rdcI s.data.toList))))
    go_enter Tryz.func3, Tryz.ntmps3
    go_wp2_with fail
    refine (big_any v bs.length _ _ HV.out).mono ?_; rintro e w1 ⟨rfl, rfl⟩
    go_wp2_with fail
    refine (drawCodeText_any v bs _ HV.out HL.out HB.out).mono ?_; rintro e w1 ⟨c, bv, sv, rfl, b1, rb, rs, hsm⟩
    obtain ⟨ba, bc, rfl, _⟩ := id rb; obtain ⟨sa, sc, rfl, _⟩ := id rs; have RB := Lib.hid rb; have RS := Lib.hid rs; clear rb rs
    obtain ⟨c1, f1⟩ := b1.rules
    have z1 := b1.size
    try simp only [World.size_alloc, World.size_drew, World.heap_drewN, World.size_setCell] at z1
    go_wp2_with fail
    have hTz := ctextR_size c hsm.stepsl
    have HF := Lib.hid hsm.terms
    have hsl := hsm.stepsl
    clear hsm
    have HCT := Lib.hid (fun (w0 : World) (h : New w1 w0) (k : New w w0) => iCodeTR_any c _ _ w0 (Rd.new RB.out h) (Rd.new RS.out h) HF.out (HK.out.new k) (HPW.out.new k))
    have HST := Lib.hid (fun (w0 : World) (h : New w1 w0) => sCodeTR_any c _ _ w0 (Rd.new RB.out h) (Rd.new RS.out h) HF.out)
    have HIC := Lib.hid (fun (w0 : World) (h : New w1 w0) (k : KW w0) => iIsCode_any c _ _ w0 (Rd.new RB.out h) (Rd.new RS.out h) HF.out k)
    have HCC := Lib.hid (fun (op : Int) (w0 : World) (h : New w1 w0) (k : KW w0) => iCountSteps_any c op _ _ w0 (Rd.new RB.out h) (Rd.new RS.out h) HF.out (by omega) k)
    have hTR := text_facts c
    have HRT := Lib.hid (HRI.out (strL (ctextR c)) (by omega))
    generalize strL (ctextR c) = T at hTz hTR HCT HST HRT
    have hTT : (T.toList == T.toList) = true := by simp
    have hTR' := Lib.hid hTR
    clear hTR
    refine (HCT.out _ (by repeat (first | with_reducible exact New.refl _ | with_reducible assumption | with_reducible refine New.drew ?_ | with_reducible refine New.drewN ?_ _ | with_reducible refine New.alloc ?_ _ | with_reducible refine New.setCell ?_ (by first | (simp; done) | (simp; omega) | omega) _ | with_reducible refine New.trans ?_ (by with_reducible assumption))) (by repeat (first | with_reducible exact New.refl _ | with_reducible assumption | with_reducible refine New.drew ?_ | with_reducible refine New.drewN ?_ _ | with_reducible refine New.alloc ?_ _ | with_reducible refine New.setCell ?_ (by first | (simp; done) | (simp; omega) | omega) _ | with_reducible refine New.trans ?_ (by with_reducible assumption)))).mono ?_; rintro e w2 ⟨rfl, b2⟩
    try with_reducible replace b2 := New.undrawN b2
    try with_reducible replace b2 := New.undraw b2
    obtain ⟨c2, f2⟩ := b2.rules
    have z2 := b2.size
    try simp only [World.size_alloc, World.size_drew, World.heap_drewN, World.size_setCell] at z2
    have z2_0 : w1.heap.size < w2.heap.size := by omega
    go_wp2_with fail
    unfold RetRC at HRT
    rcases hTR'.out with ⟨hok, hrd, hTe⟩ | ⟨hok, hrd, hTe⟩
    · simp only [hrd, Option.getD, Option.isSome] at HRT
      rw [hok] at HIC
      refine (HRT.out _ (by repeat (first | with_reducible exact New.refl _ | with_reducible assumption | with_reducible refine New.drew ?_ | with_reducible refine New.drewN ?_ _ | with_reducible refine New.alloc ?_ _ | with_reducible refine New.setCell ?_ (by first | (simp; done) | (simp; omega) | omega) _ | with_reducible refine New.trans ?_ (by with_reducible assumption)))).mono ?_; rintro e w3 ⟨v3, u3, rfl, b3, o3, p3⟩
      obtain ⟨a3, k3, rfl⟩ := own_slice o3; obtain ⟨a3', k3', rfl⟩ := own_slice p3
      obtain ⟨c3, f3⟩ := b3.rules
      have z3 := b3.size
      try simp only [World.size_alloc, World.size_drew, World.heap_drewN, World.size_setCell] at z3
      have z3_0 : w1.heap.size < w3.heap.size := by omega
      go_wp2_with fail
      refine (drawReadCode_any v bs _ (HV.out.new (by repeat (first | with_reducible exact New.refl _ | with_reducible assumption | with_reducible refine New.drew ?_ | with_reducible refine New.drewN ?_ _ | with_reducible refine New.alloc ?_ _ | with_reducible refine New.setCell ?_ (by first | (simp; done) | (simp; omega) | omega) _ | with_reducible refine New.trans ?_ (by with_reducible assumption)))) HL.out HB.out).mono ?_; rintro e w4 ⟨s, rfl, hs, b4⟩
      obtain ⟨c4, f4⟩ := b4.rules
      have z4 := b4.size
      try simp only [World.size_alloc, World.size_drew, World.heap_drewN, World.size_setCell] at z4
      have z4_0 : w1.heap.size < w4.heap.size := by omega
      have z4_1 : w3.heap.size < w4.heap.size := by omega
      go_wp2_with fail
      have HI := fun (w0 : World) (k : New w w0) => HRI.out s hs w0 k
      have HS := HRS.out s hs
      unfold RetRC at HI HS
      generalize (rdcI s.data.toList).getD zC = D at HI HS
      generalize (rdcI s.data.toList).isSome = ok2 at HI HS
      replace HI := Lib.hid HI
      replace HS := Lib.hid HS
      have hoo : (ok2 != ok2) = false := by simp
      refine (HI.out _ (by repeat (first | with_reducible exact New.refl _ | with_reducible assumption | with_reducible refine New.drew ?_ | with_reducible refine New.drewN ?_ _ | with_reducible refine New.alloc ?_ _ | with_reducible refine New.setCell ?_ (by first | (simp; done) | (simp; omega) | omega) _ | with_reducible refine New.trans ?_ (by with_reducible assumption)))).mono ?_; rintro e w5 ⟨v5, u5, rfl, b5, o5, p5⟩
      obtain ⟨a5, k5, rfl⟩ := own_slice o5; obtain ⟨a5', k5', rfl⟩ := own_slice p5
      obtain ⟨c5, f5⟩ := b5.rules
      have z5 := b5.size
      try simp only [World.size_alloc, World.size_drew, World.heap_drewN, World.size_setCell] at z5
      have z5_0 : w1.heap.size < w5.heap.size := by omega
      have z5_1 : w3.heap.size < w5.heap.size := by omega
      go_wp2_with fail
      refine (HS.out _).mono ?_; rintro e w6 ⟨v6, u6, rfl, b6, o6, p6⟩
      obtain ⟨a6, k6, rfl⟩ := own_slice o6; obtain ⟨a6', k6', rfl⟩ := own_slice p6
      obtain ⟨c6, f6⟩ := b6.rules
      have z6 := b6.size
      try simp only [World.size_alloc, World.size_drew, World.heap_drewN, World.size_setCell] at z6
      have z6_0 : w1.heap.size < w6.heap.size := by omega
      have z6_1 : w3.heap.size < w6.heap.size := by omega
      have z6_2 : w5.heap.size < w6.heap.size := by omega
      go_wp2_with fail
      refine (drawCountSteps_any v bs _ (HV.out.new (by repeat (first | with_reducible exact New.refl _ | with_reducible assumption | with_reducible refine New.drew ?_ | with_reducible refine New.drewN ?_ _ | with_reducible refine New.alloc ?_ _ | with_reducible refine New.setCell ?_ (by first | (simp; done) | (simp; omega) | omega) _ | with_reducible refine New.trans ?_ (by with_reducible assumption)))) HL.out HB.out).mono ?_; rintro e w7 ⟨d, v7, u7, op, rfl, b7, rd7, re7, hsd⟩
      obtain ⟨da, dc, rfl, _⟩ := id rd7; obtain ⟨ea, ec, rfl, _⟩ := id re7; replace rd7 := Lib.hid rd7; replace re7 := Lib.hid re7
      obtain ⟨c7, f7⟩ := b7.rules
      have z7 := b7.size
      try simp only [World.size_alloc, World.size_drew, World.heap_drewN, World.size_setCell] at z7
      have z7_0 : w1.heap.size < w7.heap.size := by omega
      have z7_1 : w3.heap.size < w7.heap.size := by omega
      have z7_2 : w5.heap.size < w7.heap.size := by omega
      have z7_3 : w6.heap.size < w7.heap.size := by omega
      go_wp2_with fail
      have HCI := Lib.hid (fun (w0 : World) (h : New w7 w0) (k : KW w0) => iCountSteps_any d op _ _ w0 (Rd.new rd7.out h) (Rd.new re7.out h) hsd.terms (by have := hsd.stepsl; omega) k)
      have HCS := Lib.hid (fun (w0 : World) (h : New w7 w0) => sCountSteps_any d op _ _ w0 (Rd.new rd7.out h) (Rd.new re7.out h) hsd.terms (by have := hsd.stepsl; omega))
      obtain ⟨r1, hr1⟩ : ∃ r, r = (stepsC d op).1 := ⟨_, rfl⟩
      obtain ⟨r2, hr2⟩ : ∃ r, r = (stepsC d op).2 := ⟨_, rfl⟩
      rw [← hr1, ← hr2] at HCI HCS
      clear hr1 hr2
      replace hsd := Lib.hid hsd
      have hrr1 : (r1 != r1) = false := by simp
      have hrr2 : (r2 != r2) = false := by simp
      refine (HCI.out _ (by repeat (first | with_reducible exact New.refl _ | with_reducible assumption | with_reducible refine New.drew ?_ | with_reducible refine New.drewN ?_ _ | with_reducible refine New.alloc ?_ _ | with_reducible refine New.setCell ?_ (by first | (simp; done) | (simp; omega) | omega) _ | with_reducible refine New.trans ?_ (by with_reducible assumption))) (HK.out.new (by repeat (first | with_reducible exact New.refl _ | with_reducible assumption | with_reducible refine New.drew ?_ | with_reducible refine New.drewN ?_ _ | with_reducible refine New.alloc ?_ _ | with_reducible refine New.setCell ?_ (by first | (simp; done) | (simp; omega) | omega) _ | with_reducible refine New.trans ?_ (by with_reducible assumption))))).mono ?_; rintro e w8 ⟨rfl, b8⟩
      try with_reducible replace b8 := New.undrawN b8
      try with_reducible replace b8 := New.undraw b8
      obtain ⟨c8, f8⟩ := b8.rules
      have z8 := b8.size
      try simp only [World.size_alloc, World.size_drew, World.heap_drewN, World.size_setCell] at z8
      have z8_0 : w1.heap.size < w8.heap.size := by omega
      have z8_1 : w3.heap.size < w8.heap.size := by omega
      have z8_2 : w5.heap.size < w8.heap.size := by omega
      have z8_3 : w6.heap.size < w8.heap.size := by omega
      have z8_4 : w7.heap.size < w8.heap.size := by omega
      go_wp2_with fail
      refine (HCS.out _ (by repeat (first | with_reducible exact New.refl _ | with_reducible assumption | with_reducible refine New.drew ?_ | with_reducible refine New.drewN ?_ _ | with_reducible refine New.alloc ?_ _ | with_reducible refine New.setCell ?_ (by first | (simp; done) | (simp; omega) | omega) _ | with_reducible refine New.trans ?_ (by with_reducible assumption)))).mono ?_; rintro e w9 ⟨rfl, b9⟩
      try with_reducible replace b9 := New.undrawN b9
      try with_reducible replace b9 := New.undraw b9
      obtain ⟨c9, f9⟩ := b9.rules
      have z9 := b9.size
      try simp only [World.size_alloc, World.size_drew, World.heap_drewN, World.size_setCell] at z9
      have z9_0 : w1.heap.size < w9.heap.size := by omega
      have z9_1 : w3.heap.size < w9.heap.size := by omega
      have z9_2 : w5.heap.size < w9.heap.size := by omega
      have z9_3 : w6.heap.size < w9.heap.size := by omega
      have z9_4 : w7.heap.size < w9.heap.size := by omega
      go_wp2_with fail
      have KC9 : Blk w9 w1.heap.size #[.int .i64 c.ins, .int .i64 c.vars, .int .i64 c.outs, .slice ba c.blocks.length bc, .slice sa c.steps.length sc] 27 := (by repeat (first | with_reducible assumption | with_reducible exact Blk.alloc_at (by first | rfl | (simp; done) | (simp; omega)) | with_reducible apply Blk.alloc | with_reducible apply Blk.drew | with_reducible apply Blk.drewN | with_reducible apply Blk.set | ((with_reducible apply Blk.set_ne); rotate_left; (focus omega)) | ((with_reducible apply Blk.dr); rotate_left; (focus (with_reducible assumption)); (focus omega)) | ((with_reducible apply Blk.new); rotate_left; (focus (with_reducible assumption)))))
      have KX9 : Blk w9 w3.heap.size #[.int .i64 c.ins, .int .i64 c.vars, .int .i64 c.outs, .slice a3 c.blocks.length k3, .slice a3' c.steps.length k3'] 27 := (by repeat (first | with_reducible assumption | with_reducible exact Blk.alloc_at (by first | rfl | (simp; done) | (simp; omega)) | with_reducible apply Blk.alloc | with_reducible apply Blk.drew | with_reducible apply Blk.drewN | with_reducible apply Blk.set | ((with_reducible apply Blk.set_ne); rotate_left; (focus omega)) | ((with_reducible apply Blk.dr); rotate_left; (focus (with_reducible assumption)); (focus omega)) | ((with_reducible apply Blk.new); rotate_left; (focus (with_reducible assumption)))))
      have KY9 : Blk w9 w5.heap.size #[.int .i64 D.ins, .int .i64 D.vars, .int .i64 D.outs, .slice a5 D.blocks.length k5, .slice a5' D.steps.length k5'] 27 := (by repeat (first | with_reducible assumption | with_reducible exact Blk.alloc_at (by first | rfl | (simp; done) | (simp; omega)) | with_reducible apply Blk.alloc | with_reducible apply Blk.drew | with_reducible apply Blk.drewN | with_reducible apply Blk.set | ((with_reducible apply Blk.set_ne); rotate_left; (focus omega)) | ((with_reducible apply Blk.dr); rotate_left; (focus (with_reducible assumption)); (focus omega)) | ((with_reducible apply Blk.new); rotate_left; (focus (with_reducible assumption)))))
      have KZ9 : Blk w9 w6.heap.size #[.int .i64 D.ins, .int .i64 D.vars, .int .i64 D.outs, .slice a6 D.blocks.length k6, .slice a6' D.steps.length k6'] 27 := (by repeat (first | with_reducible assumption | with_reducible exact Blk.alloc_at (by first | rfl | (simp; done) | (simp; omega)) | with_reducible apply Blk.alloc | with_reducible apply Blk.drew | with_reducible apply Blk.drewN | with_reducible apply Blk.set | ((with_reducible apply Blk.set_ne); rotate_left; (focus omega)) | ((with_reducible apply Blk.dr); rotate_left; (focus (with_reducible assumption)); (focus omega)) | ((with_reducible apply Blk.new); rotate_left; (focus (with_reducible assumption)))))
      have N69 : New w6 w9 := by exact (by repeat (first | with_reducible exact New.refl _ | with_reducible assumption | with_reducible refine New.drew ?_ | with_reducible refine New.drewN ?_ _ | with_reducible refine New.alloc ?_ _ | with_reducible refine New.setCell ?_ (by first | (simp; done) | (simp; omega) | omega) _ | with_reducible refine New.trans ?_ (by with_reducible assumption)))
      have N59 : New w5 w9 := by exact (by repeat (first | with_reducible exact New.refl _ | with_reducible assumption | with_reducible refine New.drew ?_ | with_reducible refine New.drewN ?_ _ | with_reducible refine New.alloc ?_ _ | with_reducible refine New.setCell ?_ (by first | (simp; done) | (simp; omega) | omega) _ | with_reducible refine New.trans ?_ (by with_reducible assumption)))
      have N39 : New w3 w9 := by exact (by repeat (first | with_reducible exact New.refl _ | with_reducible assumption | with_reducible refine New.drew ?_ | with_reducible refine New.drewN ?_ _ | with_reducible refine New.alloc ?_ _ | with_reducible refine New.setCell ?_ (by first | (simp; done) | (simp; omega) | omega) _ | with_reducible refine New.trans ?_ (by with_reducible assumption)))
      have N19 : New w1 w9 := by exact (by repeat (first | with_reducible exact New.refl _ | with_reducible assumption | with_reducible refine New.drew ?_ | with_reducible refine New.drewN ?_ _ | with_reducible refine New.alloc ?_ _ | with_reducible refine New.setCell ?_ (by first | (simp; done) | (simp; omega) | omega) _ | with_reducible refine New.trans ?_ (by with_reducible assumption)))
      have Nw9 : New w w9 := by exact (by repeat (first | with_reducible exact New.refl _ | with_reducible assumption | with_reducible refine New.drew ?_ | with_reducible refine New.drewN ?_ _ | with_reducible refine New.alloc ?_ _ | with_reducible refine New.setCell ?_ (by first | (simp; done) | (simp; omega) | omega) _ | with_reducible refine New.trans ?_ (by with_reducible assumption)))
      have R3 := Lib.hid (own_rd o3)
      have R3' := Lib.hid (own_rd p3)
      have R5 := Lib.hid (own_rd o5)
      have R5' := Lib.hid (own_rd p5)
      have R6 := Lib.hid (own_rd o6)
      have R6' := Lib.hid (own_rd p6)
      have h1lt := KC9.lt
      have h3lt := KX9.lt
      have h5lt := KY9.lt
      have h6lt := KZ9.lt
      clear c1 c2 c3 c4 c5 c6 c7 c8 c9 f1 f2 f3 f4 f5 f6 f7 f8 f9 o3 p3 o5 p5 o6 p6 b1 b2 b3 b4 b5 b6 b7 b8 b9
      obtain ⟨cC, fC⟩ := KC9.rules
      obtain ⟨cX, fX⟩ := KX9.rules
      obtain ⟨cY, fY⟩ := KY9.rules
      obtain ⟨cZ, fZ⟩ := KZ9.rules
      refine (HST.out _ N19).mono ?_; rintro e w10 ⟨rfl, b10⟩
      try with_reducible replace b10 := New.undrawN b10
      try with_reducible replace b10 := New.undraw b10
      obtain ⟨c10, f10⟩ := b10.rules
      have z10 := b10.size
      try simp only [World.size_alloc, World.size_drew, World.heap_drewN, World.size_setCell] at z10
      have z10_0 : w1.heap.size < w10.heap.size := by omega
      have z10_1 : w3.heap.size < w10.heap.size := by omega
      have z10_2 : w5.heap.size < w10.heap.size := by omega
      have z10_3 : w6.heap.size < w10.heap.size := by omega
      go_wp2_with fail
      refine (likeCodes_same c _ _ _ _ _ (Rd.new R3.out (N39.trans b10)) (Rd.new R3'.out (N39.trans b10)) (Rd.new RB.out (N19.trans b10)) (Rd.new RS.out (N19.trans b10))).mono ?_; rintro e w11 ⟨rfl, b11⟩
      try with_reducible replace b11 := New.undrawN b11
      try with_reducible replace b11 := New.undraw b11
      obtain ⟨c11, f11⟩ := b11.rules
      have z11 := b11.size
      try simp only [World.size_alloc, World.size_drew, World.heap_drewN, World.size_setCell] at z11
      have z11_0 : w1.heap.size < w11.heap.size := by omega
      have z11_1 : w3.heap.size < w11.heap.size := by omega
      have z11_2 : w5.heap.size < w11.heap.size := by omega
      have z11_3 : w6.heap.size < w11.heap.size := by omega
      go_wp2_with fail
      have N911 : New w9 w11 := b10.trans b11
      refine (likeCodes_same D _ _ _ _ _ (Rd.new R5.out (N59.trans N911)) (Rd.new R5'.out (N59.trans N911)) (Rd.new R6.out (N69.trans N911)) (Rd.new R6'.out (N69.trans N911))).mono ?_; rintro e w12 ⟨rfl, b12⟩
      try with_reducible replace b12 := New.undrawN b12
      try with_reducible replace b12 := New.undraw b12
      obtain ⟨c12, f12⟩ := b12.rules
      have z12 := b12.size
      try simp only [World.size_alloc, World.size_drew, World.heap_drewN, World.size_setCell] at z12
      have z12_0 : w1.heap.size < w12.heap.size := by omega
      have z12_1 : w3.heap.size < w12.heap.size := by omega
      have z12_2 : w5.heap.size < w12.heap.size := by omega
      have z12_3 : w6.heap.size < w12.heap.size := by omega
      go_wp2_with fail
      have N912 : New w9 w12 := N911.trans b12
      refine (HIC.out _ (N19.trans N912) (HK.out.new (Nw9.trans N912))).mono ?_; rintro e w13 ⟨rfl, b13⟩
      try with_reducible replace b13 := New.undrawN b13
      try with_reducible replace b13 := New.undraw b13
      obtain ⟨c13, f13⟩ := b13.rules
      have z13 := b13.size
      try simp only [World.size_alloc, World.size_drew, World.heap_drewN, World.size_setCell] at z13
      have z13_0 : w1.heap.size < w13.heap.size := by omega
      have z13_1 : w3.heap.size < w13.heap.size := by omega
      have z13_2 : w5.heap.size < w13.heap.size := by omega
      have z13_3 : w6.heap.size < w13.heap.size := by omega
      go_wp2_with fail
      have N913 : New w9 w13 := N912.trans b13
      clear c10 f10 c11 f11 c12 f12 c13 f13
      go_loopw [18, 19] (fun t k wr => ∃ j : Nat, j ≤ 11 ∧ k = .int .i64 ((j : Int) + 1) ∧ t = .int .i64 ((totC c j : Nat) : Int) ∧ New w13 wr) (fun _ k _ => 12 - (intOf k).toNat)
      case atStart => exact ⟨0, by omega, by simp, by rw [tot_zero]; rfl, New.refl _⟩
      case round =>
        obtain ⟨j, hj, rfl, rfl, hN⟩ := hrel
        have hNz := hN.size
        have KR := (KC9.new N913).new hN
        obtain ⟨cR, fR⟩ := KR.rules
        have hRlt := KR.lt
        by_cases hlt : j < 11
        · have hst : stepsC c ((j : Int) + 1) = (((c.steps.countP fun x => x.op == ((j : Int) + 1) : Nat) : Int), 0) := by
            rw [stepsC, if_pos hok, if_pos (by simp [inB]; omega)]
          have HC1 := HCC.out ((j : Int) + 1) wr (N19.trans (N913.trans hN)) (HK.out.new (Nw9.trans (N913.trans hN)))
          rw [hst] at HC1
          have HT := Lib.hid (tot_next c j)
          have ht1 := tot_le c (j + 1)
          rw [HT.out] at ht1
          clear hst
          generalize totC c j = t0 at ht1 HT
          generalize (c.steps.countP fun x => x.op == ((j : Int) + 1)) = q at HC1 HT ht1
          replace HC1 := Lib.hid HC1
          go_wp2_with fail
          refine (HC1.out).mono ?_; rintro e w14 ⟨rfl, b14⟩
          try with_reducible replace b14 := New.undrawN b14
          try with_reducible replace b14 := New.undraw b14
          obtain ⟨c14, f14⟩ := b14.rules
          have z14 := b14.size
          try simp only [World.size_alloc, World.size_drew, World.heap_drewN, World.size_setCell] at z14
          go_wp2_with fail
          go_roundw
          case rel => exact ⟨j + 1, by omega, by go_num, by rw [HT.out]; go_num, hN.trans b14⟩
          case measure => simp [intOf]; omega
        · obtain rfl : j = 11 := by omega
          rw [tot_all hok]
          go_wp2_with fail
          go_ret
          exact ⟨rfl, (Nw9.trans N913).trans hN⟩
    · simp only [hrd, Option.getD, Option.isSome] at HRT
      rw [hok] at HIC
      refine (HRT.out _ (by repeat (first | with_reducible exact New.refl _ | with_reducible assumption | with_reducible refine New.drew ?_ | with_reducible refine New.drewN ?_ _ | with_reducible refine New.alloc ?_ _ | with_reducible refine New.setCell ?_ (by first | (simp; done) | (simp; omega) | omega) _ | with_reducible refine New.trans ?_ (by with_reducible assumption)))).mono ?_; rintro e w3 ⟨v3, u3, rfl, b3, o3, p3⟩
      obtain ⟨a3, k3, rfl⟩ := own_slice o3; obtain ⟨a3', k3', rfl⟩ := own_slice p3
      obtain ⟨c3, f3⟩ := b3.rules
      have z3 := b3.size
      try simp only [World.size_alloc, World.size_drew, World.heap_drewN, World.size_setCell] at z3
      have z3_0 : w1.heap.size < w3.heap.size := by omega
      go_wp2_with fail
      refine (drawReadCode_any v bs _ (HV.out.new (by repeat (first | with_reducible exact New.refl _ | with_reducible assumption | with_reducible refine New.drew ?_ | with_reducible refine New.drewN ?_ _ | with_reducible refine New.alloc ?_ _ | with_reducible refine New.setCell ?_ (by first | (simp; done) | (simp; omega) | omega) _ | with_reducible refine New.trans ?_ (by with_reducible assumption)))) HL.out HB.out).mono ?_; rintro e w4 ⟨s, rfl, hs, b4⟩
      obtain ⟨c4, f4⟩ := b4.rules
      have z4 := b4.size
      try simp only [World.size_alloc, World.size_drew, World.heap_drewN, World.size_setCell] at z4
      have z4_0 : w1.heap.size < w4.heap.size := by omega
      have z4_1 : w3.heap.size < w4.heap.size := by omega
      go_wp2_with fail
      have HI := fun (w0 : World) (k : New w w0) => HRI.out s hs w0 k
      have HS := HRS.out s hs
      unfold RetRC at HI HS
      generalize (rdcI s.data.toList).getD zC = D at HI HS
      generalize (rdcI s.data.toList).isSome = ok2 at HI HS
      replace HI := Lib.hid HI
      replace HS := Lib.hid HS
      have hoo : (ok2 != ok2) = false := by simp
      refine (HI.out _ (by repeat (first | with_reducible exact New.refl _ | with_reducible assumption | with_reducible refine New.drew ?_ | with_reducible refine New.drewN ?_ _ | with_reducible refine New.alloc ?_ _ | with_reducible refine New.setCell ?_ (by first | (simp; done) | (simp; omega) | omega) _ | with_reducible refine New.trans ?_ (by with_reducible assumption)))).mono ?_; rintro e w5 ⟨v5, u5, rfl, b5, o5, p5⟩
      obtain ⟨a5, k5, rfl⟩ := own_slice o5; obtain ⟨a5', k5', rfl⟩ := own_slice p5
      obtain ⟨c5, f5⟩ := b5.rules
      have z5 := b5.size
      try simp only [World.size_alloc, World.size_drew, World.heap_drewN, World.size_setCell] at z5
      have z5_0 : w1.heap.size < w5.heap.size := by omega
      have z5_1 : w3.heap.size < w5.heap.size := by omega
      go_wp2_with fail
      refine (HS.out _).mono ?_; rintro e w6 ⟨v6, u6, rfl, b6, o6, p6⟩
      obtain ⟨a6, k6, rfl⟩ := own_slice o6; obtain ⟨a6', k6', rfl⟩ := own_slice p6
      obtain ⟨c6, f6⟩ := b6.rules
      have z6 := b6.size
      try simp only [World.size_alloc, World.size_drew, World.heap_drewN, World.size_setCell] at z6
      have z6_0 : w1.heap.size < w6.heap.size := by omega
      have z6_1 : w3.heap.size < w6.heap.size := by omega
      have z6_2 : w5.heap.size < w6.heap.size := by omega
      go_wp2_with fail
      refine (drawCountSteps_any v bs _ (HV.out.new (by repeat (first | with_reducible exact New.refl _ | with_reducible assumption | with_reducible refine New.drew ?_ | with_reducible refine New.drewN ?_ _ | with_reducible refine New.alloc ?_ _ | with_reducible refine New.setCell ?_ (by first | (simp; done) | (simp; omega) | omega) _ | with_reducible refine New.trans ?_ (by with_reducible assumption)))) HL.out HB.out).mono ?_; rintro e w7 ⟨d, v7, u7, op, rfl, b7, rd7, re7, hsd⟩
      obtain ⟨da, dc, rfl, _⟩ := id rd7; obtain ⟨ea, ec, rfl, _⟩ := id re7; replace rd7 := Lib.hid rd7; replace re7 := Lib.hid re7
      obtain ⟨c7, f7⟩ := b7.rules
      have z7 := b7.size
      try simp only [World.size_alloc, World.size_drew, World.heap_drewN, World.size_setCell] at z7
      have z7_0 : w1.heap.size < w7.heap.size := by omega
      have z7_1 : w3.heap.size < w7.heap.size := by omega
      have z7_2 : w5.heap.size < w7.heap.size := by omega
      have z7_3 : w6.heap.size < w7.heap.size := by omega
      go_wp2_with fail
      have HCI := Lib.hid (fun (w0 : World) (h : New w7 w0) (k : KW w0) => iCountSteps_any d op _ _ w0 (Rd.new rd7.out h) (Rd.new re7.out h) hsd.terms (by have := hsd.stepsl; omega) k)
      have HCS := Lib.hid (fun (w0 : World) (h : New w7 w0) => sCountSteps_any d op _ _ w0 (Rd.new rd7.out h) (Rd.new re7.out h) hsd.terms (by have := hsd.stepsl; omega))
      obtain ⟨r1, hr1⟩ : ∃ r, r = (stepsC d op).1 := ⟨_, rfl⟩
      obtain ⟨r2, hr2⟩ : ∃ r, r = (stepsC d op).2 := ⟨_, rfl⟩
      rw [← hr1, ← hr2] at HCI HCS
      clear hr1 hr2
      replace hsd := Lib.hid hsd
      have hrr1 : (r1 != r1) = false := by simp
      have hrr2 : (r2 != r2) = false := by simp
      refine (HCI.out _ (by repeat (first | with_reducible exact New.refl _ | with_reducible assumption | with_reducible refine New.drew ?_ | with_reducible refine New.drewN ?_ _ | with_reducible refine New.alloc ?_ _ | with_reducible refine New.setCell ?_ (by first | (simp; done) | (simp; omega) | omega) _ | with_reducible refine New.trans ?_ (by with_reducible assumption))) (HK.out.new (by repeat (first | with_reducible exact New.refl _ | with_reducible assumption | with_reducible refine New.drew ?_ | with_reducible refine New.drewN ?_ _ | with_reducible refine New.alloc ?_ _ | with_reducible refine New.setCell ?_ (by first | (simp; done) | (simp; omega) | omega) _ | with_reducible refine New.trans ?_ (by with_reducible assumption))))).mono ?_; rintro e w8 ⟨rfl, b8⟩
      try with_reducible replace b8 := New.undrawN b8
      try with_reducible replace b8 := New.undraw b8
      obtain ⟨c8, f8⟩ := b8.rules
      have z8 := b8.size
      try simp only [World.size_alloc, World.size_drew, World.heap_drewN, World.size_setCell] at z8
      have z8_0 : w1.heap.size < w8.heap.size := by omega
      have z8_1 : w3.heap.size < w8.heap.size := by omega
      have z8_2 : w5.heap.size < w8.heap.size := by omega
      have z8_3 : w6.heap.size < w8.heap.size := by omega
      have z8_4 : w7.heap.size < w8.heap.size := by omega
      go_wp2_with fail
      refine (HCS.out _ (by repeat (first | with_reducible exact New.refl _ | with_reducible assumption | with_reducible refine New.drew ?_ | with_reducible refine New.drewN ?_ _ | with_reducible refine New.alloc ?_ _ | with_reducible refine New.setCell ?_ (by first | (simp; done) | (simp; omega) | omega) _ | with_reducible refine New.trans ?_ (by with_reducible assumption)))).mono ?_; rintro e w9 ⟨rfl, b9⟩
      try with_reducible replace b9 := New.undrawN b9
      try with_reducible replace b9 := New.undraw b9
      obtain ⟨c9, f9⟩ := b9.rules
      have z9 := b9.size
      try simp only [World.size_alloc, World.size_drew, World.heap_drewN, World.size_setCell] at z9
      have z9_0 : w1.heap.size < w9.heap.size := by omega
      have z9_1 : w3.heap.size < w9.heap.size := by omega
      have z9_2 : w5.heap.size < w9.heap.size := by omega
      have z9_3 : w6.heap.size < w9.heap.size := by omega
      have z9_4 : w7.heap.size < w9.heap.size := by omega
      go_wp2_with fail
      have KC9 : Blk w9 w1.heap.size #[.int .i64 c.ins, .int .i64 c.vars, .int .i64 c.outs, .slice ba c.blocks.length bc, .slice sa c.steps.length sc] 27 := (by repeat (first | with_reducible assumption | with_reducible exact Blk.alloc_at (by first | rfl | (simp; done) | (simp; omega)) | with_reducible apply Blk.alloc | with_reducible apply Blk.drew | with_reducible apply Blk.drewN | with_reducible apply Blk.set | ((with_reducible apply Blk.set_ne); rotate_left; (focus omega)) | ((with_reducible apply Blk.dr); rotate_left; (focus (with_reducible assumption)); (focus omega)) | ((with_reducible apply Blk.new); rotate_left; (focus (with_reducible assumption)))))
      have KX9 : Blk w9 w3.heap.size #[.int .i64 zC.ins, .int .i64 zC.vars, .int .i64 zC.outs, .slice a3 zC.blocks.length k3, .slice a3' zC.steps.length k3'] 27 := (by repeat (first | with_reducible assumption | with_reducible exact Blk.alloc_at (by first | rfl | (simp; done) | (simp; omega)) | with_reducible apply Blk.alloc | with_reducible apply Blk.drew | with_reducible apply Blk.drewN | with_reducible apply Blk.set | ((with_reducible apply Blk.set_ne); rotate_left; (focus omega)) | ((with_reducible apply Blk.dr); rotate_left; (focus (with_reducible assumption)); (focus omega)) | ((with_reducible apply Blk.new); rotate_left; (focus (with_reducible assumption)))))
      have KY9 : Blk w9 w5.heap.size #[.int .i64 D.ins, .int .i64 D.vars, .int .i64 D.outs, .slice a5 D.blocks.length k5, .slice a5' D.steps.length k5'] 27 := (by repeat (first | with_reducible assumption | with_reducible exact Blk.alloc_at (by first | rfl | (simp; done) | (simp; omega)) | with_reducible apply Blk.alloc | with_reducible apply Blk.drew | with_reducible apply Blk.drewN | with_reducible apply Blk.set | ((with_reducible apply Blk.set_ne); rotate_left; (focus omega)) | ((with_reducible apply Blk.dr); rotate_left; (focus (with_reducible assumption)); (focus omega)) | ((with_reducible apply Blk.new); rotate_left; (focus (with_reducible assumption)))))
      have KZ9 : Blk w9 w6.heap.size #[.int .i64 D.ins, .int .i64 D.vars, .int .i64 D.outs, .slice a6 D.blocks.length k6, .slice a6' D.steps.length k6'] 27 := (by repeat (first | with_reducible assumption | with_reducible exact Blk.alloc_at (by first | rfl | (simp; done) | (simp; omega)) | with_reducible apply Blk.alloc | with_reducible apply Blk.drew | with_reducible apply Blk.drewN | with_reducible apply Blk.set | ((with_reducible apply Blk.set_ne); rotate_left; (focus omega)) | ((with_reducible apply Blk.dr); rotate_left; (focus (with_reducible assumption)); (focus omega)) | ((with_reducible apply Blk.new); rotate_left; (focus (with_reducible assumption)))))
      have N69 : New w6 w9 := by exact (by repeat (first | with_reducible exact New.refl _ | with_reducible assumption | with_reducible refine New.drew ?_ | with_reducible refine New.drewN ?_ _ | with_reducible refine New.alloc ?_ _ | with_reducible refine New.setCell ?_ (by first | (simp; done) | (simp; omega) | omega) _ | with_reducible refine New.trans ?_ (by with_reducible assumption)))
      have N59 : New w5 w9 := by exact (by repeat (first | with_reducible exact New.refl _ | with_reducible assumption | with_reducible refine New.drew ?_ | with_reducible refine New.drewN ?_ _ | with_reducible refine New.alloc ?_ _ | with_reducible refine New.setCell ?_ (by first | (simp; done) | (simp; omega) | omega) _ | with_reducible refine New.trans ?_ (by with_reducible assumption)))
      have N39 : New w3 w9 := by exact (by repeat (first | with_reducible exact New.refl _ | with_reducible assumption | with_reducible refine New.drew ?_ | with_reducible refine New.drewN ?_ _ | with_reducible refine New.alloc ?_ _ | with_reducible refine New.setCell ?_ (by first | (simp; done) | (simp; omega) | omega) _ | with_reducible refine New.trans ?_ (by with_reducible assumption)))
      have N19 : New w1 w9 := by exact (by repeat (first | with_reducible exact New.refl _ | with_reducible assumption | with_reducible refine New.drew ?_ | with_reducible refine New.drewN ?_ _ | with_reducible refine New.alloc ?_ _ | with_reducible refine New.setCell ?_ (by first | (simp; done) | (simp; omega) | omega) _ | with_reducible refine New.trans ?_ (by with_reducible assumption)))
      have Nw9 : New w w9 := by exact (by repeat (first | with_reducible exact New.refl _ | with_reducible assumption | with_reducible refine New.drew ?_ | with_reducible refine New.drewN ?_ _ | with_reducible refine New.alloc ?_ _ | with_reducible refine New.setCell ?_ (by first | (simp; done) | (simp; omega) | omega) _ | with_reducible refine New.trans ?_ (by with_reducible assumption)))
      have R3 := Lib.hid (own_rd o3)
      have R3' := Lib.hid (own_rd p3)
      have R5 := Lib.hid (own_rd o5)
      have R5' := Lib.hid (own_rd p5)
      have R6 := Lib.hid (own_rd o6)
      have R6' := Lib.hid (own_rd p6)
      have h1lt := KC9.lt
      have h3lt := KX9.lt
      have h5lt := KY9.lt
      have h6lt := KZ9.lt
      clear c1 c2 c3 c4 c5 c6 c7 c8 c9 f1 f2 f3 f4 f5 f6 f7 f8 f9 o3 p3 o5 p5 o6 p6 b1 b2 b3 b4 b5 b6 b7 b8 b9
      obtain ⟨cC, fC⟩ := KC9.rules
      obtain ⟨cX, fX⟩ := KX9.rules
      obtain ⟨cY, fY⟩ := KY9.rules
      obtain ⟨cZ, fZ⟩ := KZ9.rules
      refine (HST.out _ N19).mono ?_; rintro e w10 ⟨rfl, b10⟩
      try with_reducible replace b10 := New.undrawN b10
      try with_reducible replace b10 := New.undraw b10
      obtain ⟨c10, f10⟩ := b10.rules
      have z10 := b10.size
      try simp only [World.size_alloc, World.size_drew, World.heap_drewN, World.size_setCell] at z10
      have z10_0 : w1.heap.size < w10.heap.size := by omega
      have z10_1 : w3.heap.size < w10.heap.size := by omega
      have z10_2 : w5.heap.size < w10.heap.size := by omega
      have z10_3 : w6.heap.size < w10.heap.size := by omega
      go_wp2_with fail
      refine (likeCodes_same D _ _ _ _ _ (Rd.new R5.out (N59.trans b10)) (Rd.new R5'.out (N59.trans b10)) (Rd.new R6.out (N69.trans b10)) (Rd.new R6'.out (N69.trans b10))).mono ?_; rintro e w12 ⟨rfl, b12⟩
      try with_reducible replace b12 := New.undrawN b12
      try with_reducible replace b12 := New.undraw b12
      obtain ⟨c12, f12⟩ := b12.rules
      have z12 := b12.size
      try simp only [World.size_alloc, World.size_drew, World.heap_drewN, World.size_setCell] at z12
      have z12_0 : w1.heap.size < w12.heap.size := by omega
      have z12_1 : w3.heap.size < w12.heap.size := by omega
      have z12_2 : w5.heap.size < w12.heap.size := by omega
      have z12_3 : w6.heap.size < w12.heap.size := by omega
      go_wp2_with fail
      have N912 : New w9 w12 := b10.trans b12
      refine (HIC.out _ (N19.trans N912) (HK.out.new (Nw9.trans N912))).mono ?_; rintro e w13 ⟨rfl, b13⟩
      try with_reducible replace b13 := New.undrawN b13
      try with_reducible replace b13 := New.undraw b13
      obtain ⟨c13, f13⟩ := b13.rules
      have z13 := b13.size
      try simp only [World.size_alloc, World.size_drew, World.heap_drewN, World.size_setCell] at z13
      have z13_0 : w1.heap.size < w13.heap.size := by omega
      have z13_1 : w3.heap.size < w13.heap.size := by omega
      have z13_2 : w5.heap.size < w13.heap.size := by omega
      have z13_3 : w6.heap.size < w13.heap.size := by omega
      go_wp2_with fail
      go_ret
      exact ⟨rfl, (Nw9.trans N912).trans b13⟩
namespace fnCodes
theorem own : ownKnob Tryz.prog.godebug = none := by kernel_rfl
theorem reads : (Tryz.f3.params.toList.all fun t => Tryz.prog.readableRec t && decide (t < Tryz.prog.types.size)) = true := by kernel_rfl
set_option maxRecDepth 100000 in
noncomputable def low : Nat := (World.holding Tryz.prog default ⟨#[], #[], []⟩).heap.size
noncomputable def cells0 : Array Value := #[.int .u8 0, .int .u8 1, .int .u8 28, .int .u8 2, .int .u8 29, .int .u8 14, .int .u8 24, .int .u8 3, .int .u8 30, .int .u8 22, .int .u8 20, .int .u8 15, .int .u8 25, .int .u8 17, .int .u8 4, .int .u8 8, .int .u8 31, .int .u8 27, .int .u8 13, .int .u8 23, .int .u8 21, .int .u8 19, .int .u8 16, .int .u8 7, .int .u8 26, .int .u8 12, .int .u8 18, .int .u8 6, .int .u8 11, .int .u8 5, .int .u8 10, .int .u8 9]
noncomputable def cells1 : Array Value := #[.int .u8 0, .int .u8 1, .int .u8 56, .int .u8 2, .int .u8 57, .int .u8 49, .int .u8 28, .int .u8 3, .int .u8 61, .int .u8 58, .int .u8 42, .int .u8 50, .int .u8 38, .int .u8 29, .int .u8 17, .int .u8 4, .int .u8 62, .int .u8 47, .int .u8 59, .int .u8 36, .int .u8 45, .int .u8 43, .int .u8 51, .int .u8 22, .int .u8 53, .int .u8 39, .int .u8 33, .int .u8 30, .int .u8 24, .int .u8 18, .int .u8 12, .int .u8 5, .int .u8 63, .int .u8 55, .int .u8 48, .int .u8 27, .int .u8 60, .int .u8 41, .int .u8 37, .int .u8 16, .int .u8 46, .int .u8 35, .int .u8 44, .int .u8 21, .int .u8 52, .int .u8 32, .int .u8 23, .int .u8 11, .int .u8 54, .int .u8 26, .int .u8 40, .int .u8 15, .int .u8 34, .int .u8 20, .int .u8 31, .int .u8 10, .int .u8 25, .int .u8 14, .int .u8 19, .int .u8 9, .int .u8 13, .int .u8 8, .int .u8 7, .int .u8 6]
noncomputable def cells2 : Array Value := #[.int .u64 1, .int .u64 10, .int .u64 100, .int .u64 1000, .int .u64 10000, .int .u64 100000, .int .u64 1000000, .int .u64 10000000, .int .u64 100000000, .int .u64 1000000000, .int .u64 10000000000, .int .u64 100000000000, .int .u64 1000000000000, .int .u64 10000000000000, .int .u64 100000000000000, .int .u64 1000000000000000, .int .u64 10000000000000000, .int .u64 100000000000000000, .int .u64 1000000000000000000, .int .u64 10000000000000000000]
noncomputable def cells3 : Array Value := #[.int .u8 128, .int .u8 191, .int .u8 160, .int .u8 191, .int .u8 128, .int .u8 159, .int .u8 144, .int .u8 191, .int .u8 128, .int .u8 143, .int .u8 0, .int .u8 0, .int .u8 0, .int .u8 0, .int .u8 0, .int .u8 0, .int .u8 0, .int .u8 0, .int .u8 0, .int .u8 0, .int .u8 0, .int .u8 0, .int .u8 0, .int .u8 0, .int .u8 0, .int .u8 0, .int .u8 0, .int .u8 0, .int .u8 0, .int .u8 0, .int .u8 0, .int .u8 0]
noncomputable def cells4 : Array Value := #[.iface 226 (.pointer (some ⟨low + 0, 0, none⟩))]
noncomputable def cells5 : Array Value := #[.iface 226 (.pointer (some ⟨low + 1, 0, none⟩))]
noncomputable def cells6 : Array Value := (keyData.map fun z => Value.string (kw z)).toArray
noncomputable def cells7 : Array Value := (Go.Pinned.utf8FirstZ.map fun (z : Nat) => Value.int .u8 (z : Int)).toArray
noncomputable def laidWorld (os : Os) : World :=
  let w0 := World.holding Tryz.prog os ⟨#[.cells #[.string ⟨#[118, 97, 108, 117, 101, 32, 111, 117, 116, 32, 111, 102, 32, 114, 97, 110, 103, 101]⟩] 228, .cells #[.string ⟨#[105, 110, 118, 97, 108, 105, 100, 32, 115, 121, 110, 116, 97, 120]⟩] 228], #[], []⟩
  { w0 with heap := ((((((((w0.heap.modify 7 fun | .cells _ t frozen => .cells cells0 t frozen | o => o).modify 8 fun | .cells _ t frozen => .cells cells1 t frozen | o => o).modify 4 fun | .cells _ t frozen => .cells cells2 t frozen | o => o).modify 6 fun | .cells _ t frozen => .cells cells3 t frozen | o => o).modify 3 fun | .cells _ t frozen => .cells cells4 t frozen | o => o).modify 2 fun | .cells _ t frozen => .cells cells5 t frozen | o => o).modify 0 fun | .cells _ t frozen => .cells cells6 t frozen | o => o).modify 5 fun | .cells _ t frozen => .cells cells7 t frozen | o => o) }
theorem laid_met (os : Os) : laidMet Tryz.prog Rows.fnCodesRow.laid ((laidWorld os).forCall (fun _ _ => 0) ⟨#[], #[.slice none 0 0], []⟩).memory :=
  laidMet_of_run' 8 (by kernel_rfl) (by kernel_rfl)
theorem reading (os : Os) {H : Type} (enc : TypeId × Value → H) : ∃ x, DataW.whole enc Tryz.prog ((laidWorld os).forCall (fun _ _ => 0) ⟨#[], #[.slice none 0 0], []⟩).memory Tryz.f3.params.toList Rows.fnCodesSpec.vars false (#[.slice none 0 0] : Array Value).toList 8 = some x :=
  Option.isSome_iff_exists.1 (by kernel_rfl)
theorem lifted (os : Os) (started : os.Started) (H : Type) (enc : TypeId × Value → H) (F : Stop.Interp) :
    ReturnsInHanded {} Tryz.checked os 3 .any ((OpenSpec.ofChange Rows.fnCodesSpec).preRow enc Tryz.prog Tryz.f3 Rows.fnCodesRow.domain false Rows.fnCodesRow.laid) (((OpenSpec.ofChange Rows.fnCodesSpec).at F).post enc Tryz.prog Tryz.f3 false true false false) := by
  obtain ⟨x, hx⟩ := reading os enc
  refine returnsInHanded_of_row (C := Tryz.checked) (s := OpenSpec.ofChange Rows.fnCodesSpec) own started (by kernel_rfl) Tryz.func3
    (witness_row_at (enc := enc) (C := Tryz.checked) false (laidWorld os) #[.slice none 0 0] rfl (by kernel_rfl) (by kernel_rfl) (by kernel_rfl)
      (OpenSpec.preRow_of_cond 8 hx (by first | rfl | kernel_rfl) (fun k hk => by cases hk) (by kernel_rfl) (laid_met os))) ?_
  intro W base args ds gs before hval0 hW _ _ _ hL hSh _
  have hM : laidMet Tryz.prog Rows.fnCodesRow.laid W := hL
  have hpw : PW W := pw_of_laid (show laidMet Tryz.prog (_ :: _ :: _ :: _) W from hM).tail.tail
  have her : ER W := er_of_laid (show laidMet Tryz.prog (_ :: _ :: _ :: _ :: _ :: _) W from hM).tail.tail.tail.tail (show laidMet Tryz.prog (_ :: _ :: _ :: _ :: _ :: _ :: _) W from hM).tail.tail.tail.tail.tail
  have hkw : KW W := KW.of_var (keys_of_head (g := 0) (by kernel_rfl) (by kernel_rfl) Tryz.underlying64 Tryz.underlying9 (by kernel_rfl) (by kernel_rfl) (show laidMet Tryz.prog (_ :: _ :: _ :: _ :: _ :: _ :: _ :: _) W from hM).tail.tail.tail.tail.tail.tail)
  have hval : ∀ (j : Nat) t v, Tryz.f3.params[j]? = some t → args[j]? = some v → Value.okWide Tryz.prog W .any base t v := hval0
  have hW' := hW
  obtain ⟨p, q, hA0, hV, rfl, hfz, hnd⟩ := hW
  have hA : DataW.TrodAll enc Tryz.prog W 0 (fun _ => true) true Tryz.f3.params.toList args.toList ds p := hA0
  rw [Tryz.params3] at hA hval
  obtain ⟨v0, vs0, d0, ds0, p0, q0, hargs, rfl, rfl, h0, r0⟩ := trodAll_cons hA
  obtain ⟨rfl, rfl, rfl⟩ := trodAll_nil r0
  obtain rfl : args = #[v0] := by cases args; simp_all
  have o0 := hval 0 22 v0 rfl rfl
  clear hA0 hval hval0
  obtain ⟨_, _, _, _, gd, _, rfl, _, _, _, _, rfl⟩ := trodVars_one hV
  have walk : Calls Tryz.prog 3 #[v0] W fun e w' => e = .returned (.bool true) ∧ New W w' := by
    obtain ⟨bs, hbs, hbb⟩ := openCode h0 o0
    exact fnCodes_any _ bs W hbs hbb (ml_shaped W hSh) hpw her hkw
  refine walk.mono fun e W' ⟨he, hg⟩ => ?_
  subst he
  exact ⟨_, rfl, law_post laidOut (fun t ht => reads_of reads t ht) (fun n hn g t hg ht => by
    obtain rfl : n = "loop.example/g00916/impl.keywords" := List.mem_singleton.1 hn
    obtain rfl : 0 = g := Option.some.inj ((show Tryz.prog.globalNamed "loop.example/g00916/impl.keywords" = some 0 by kernel_rfl).symm.trans hg)
    obtain rfl : 64 = t := Option.some.inj ((show (Tryz.prog.globals[0]?).map (·.type) = some 64 by kernel_rfl).symm.trans ht)
    exact ⟨by kernel_rfl, of_decide_eq_true (by kernel_rfl)⟩) rfl Tryz.underlying4 hW' rfl hg⟩
theorem said : Rows.FnCodesSaid :=
  OpenClaim.holds_of_cond 3 Tryz.f3 rfl rfl rfl rfl rfl rfl rfl ⟨rfl, rfl, rfl, rfl, rfl⟩ rfl rfl rfl rfl rfl (by kernel_rfl) Tryz.func3 (by kernel_rfl)
    (of_decide_eq_true (by kernel_rfl)) (by unfold Func.isWrapper; first | (rw [if_pos (by decide +kernel)]; kernel_rfl) | (rw [if_neg (by decide +kernel)]; exact ⟨rfl, rfl⟩))
    (fun os started H enc _ F => by rw [OpenClaim.pre_eq_preRow]; exact lifted os started H enc F)
theorem plain (f : FuncId) (fn : Func) (hf : Tryz.pinned.checked.prog.funcNamed "loop.example/g00916/laws.FnCodes" = some f) (hfn : Tryz.pinned.checked.prog.funcs[f]? = some fn) :
    true = Tryz.pinned.checked.prog.looks [] ∧ ∀ (j : Nat) t, fn.params[j]? = some t → Tryz.pinned.checked.prog.wantsStandIn t = false := by
  obtain rfl : f = 3 := Option.some.inj ((show Tryz.prog.funcNamed "loop.example/g00916/laws.FnCodes" = some 3 by kernel_rfl).symm.trans hf) |>.symm
  obtain rfl : fn = Tryz.f3 := (Option.some.inj (Tryz.func3.symm.trans hfn)).symm
  refine ⟨by kernel_rfl, fun j t ht => ?_⟩
  rw [Tryz.params3] at ht
  have hm : t ∈ ([22] : List TypeId) := by simpa using Array.mem_of_getElem? ht
  have all : (([22] : List TypeId).all fun t => !Tryz.prog.wantsStandIn t) = true := by kernel_rfl
  have := List.all_eq_true.1 all t hm
  show Tryz.prog.wantsStandIn t = false
  exact (Bool.not_eq_true _).mp (fun h => by rw [h] at this; cases this)
theorem card : Rows.FnCodesCardSaid :=
  Claim7.holds_tied_plain_at .later [] _ _ _ _ said (fun _ h => by cases h) (by kernel_rfl) (fun _ h => by cases h) fnCodes_row_tie rfl ⟨rfl, rfl⟩ (by kernel_rfl) rfl plain (by kernel_rfl)
#print axioms card
end fnCodes
end Go.Proofs.YteielmihlfakgaaGreatDoor
