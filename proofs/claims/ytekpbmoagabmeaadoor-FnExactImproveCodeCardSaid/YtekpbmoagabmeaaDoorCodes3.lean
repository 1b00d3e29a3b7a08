/- Contracts: is a code valid. -/
import Derived.Test.YtekpbmoagabmeaaDoorProg
import Derived.Test.YtekpbmoagabmeaaDoorCodes2
import Derived.Test.YtekpbmoagabmeaaDoorTermFn
namespace Go.Proofs.YtekpbmoagabmeaaDoor
open Go Go.Proofs Go.RowKit
set_option linter.unusedVariables false
set_option linter.unusedSimpArgs false
set_option maxRecDepth 100000
def smallB (c : CodeD) : Bool := inB c.ins 0 20 && inB c.vars 0 20 && inB c.outs 0 20 && decide (c.blocks.length ≤ 2000) && decide (c.steps.length ≤ 2000)
theorem small_of {c : CodeD} (h : smallB c = true) : SmallC c := by
  rw [smallB] at h; simp [inB] at h
  obtain ⟨⟨⟨⟨⟨a1, a2⟩, a3, a4⟩, a5, a6⟩, a7⟩, a8⟩ := h
  exact ⟨a1, a2, a3, a4, a5, a6, a7, a8⟩
def isBlkE (t : ETerm) : Bool := isBlk t.kind t.name t.num
def isCodeB (c : CodeD) : Bool := smallB c && !(c.blocks.any fun t => !isBlkE t) && okC c
set_option maxHeartbeats 2000000 in
theorem sIsCode_any (c : CodeD) (bv sv : Value) (w : World) (hb : RdT w bv c.blocks) (hs : RdN w sv c.steps) (hf : ∀ x ∈ c.blocks, fitTerm x) :
    Calls Tryd.prog 25 #[.agg #[.int .i64 c.ins, .int .i64 c.vars, .int .i64 c.outs, bv, sv]] w fun e w' => e = .returned (.bool (isCodeB c)) ∧ New w w' := by
  have HB := Lib.hid hb
  have HS := Lib.hid hs
  have HF := Lib.hid hf; clear hf
  obtain ⟨sa, scap, rfl, hsm, _⟩ := id hs
  obtain ⟨a, cap, rfl, hm, HC⟩ := Rd.flat encTerm_len (by omega) hb
  clear hb hs
  rcases Bool.eq_false_or_eq_true (smallB c) with h0 | h0
  · have hsc := small_of h0
    have HSC := Lib.hid hsc
    obtain ⟨hi0, hi1, hv0, hv1, ho0, ho1, hbl, hsl⟩ := hsc
    have e1 : inB c.ins 0 20 = true := by simp [inB, hi0, hi1]
    have e2 : inB c.vars 0 20 = true := by simp [inB, hv0, hv1]
    have e3 : inB c.outs 0 20 = true := by simp [inB, ho0, ho1]
    have HA := Lib.hid (sStack_any c (.slice a c.blocks.length cap) (.slice sa c.steps.length scap))
    go_enter Tryd.func25, Tryd.ntmps25
    go_wp2_with (first | (go_at_call 54; refine (l01In_any _ _ _ _).mono ?_; rintro e _ ⟨rfl, rfl⟩))
    go_loopw [3] (fun i wr => ∃ k : Nat, k ≤ c.blocks.length ∧ i = .int .i64 k ∧ Hid ((c.blocks.take k).findIdx? (fun t => !isBlkE t) = none) ∧ New (w.alloc (.cells #[.int .i64 c.ins, .int .i64 c.vars, .int .i64 c.outs, .slice a c.blocks.length cap, .slice sa c.steps.length scap] 30)) wr) (fun i _ => c.blocks.length - (intOf i).toNat)
    case atStart => exact ⟨0, Nat.zero_le _, rfl, rfl, (by repeat (first | with_reducible exact New.refl _ | with_reducible assumption | with_reducible refine New.drew ?_ | with_reducible refine New.drewN ?_ _ | with_reducible refine New.alloc ?_ _ | with_reducible refine New.setCell ?_ (by first | (simp; done) | (simp; omega) | omega) _ | with_reducible refine New.trans ?_ (by with_reducible assumption)))⟩
    case round =>
      obtain ⟨k, hk, rfl, hpre, hb⟩ := hrel
      obtain ⟨cc, f'⟩ := hb.rules
      have hbz := hb.size
      simp only [World.size_alloc] at hbz
      have hb0 : New w wr := ((New.refl w).alloc _).trans hb
      have hww : w.heap.size < wr.heap.size := by omega
      by_cases hlt : k < c.blocks.length
      · obtain ⟨b, off, rfl, hbl', hx⟩ := HC.out k hlt
        have x0 := hx 0 _ (by omega) rfl
        have x1 := hx 1 _ (by omega) rfl
        have x2 := hx 2 _ (by omega) rfl
        rw [Nat.add_zero] at x0
        replace hx := Lib.hid hx
        have hbw : b < wr.heap.size := by omega
        have hbw1 : b < w.heap.size + 1 := by omega
        have HX := Lib.hid (HF.out c.blocks[k] (List.getElem_mem hlt))
        have HT := Lib.hid (take_find hlt hpre.out)
        rcases Bool.eq_false_or_eq_true (isBlkE c.blocks[k]) with h1 | h1
        · have HA' := Lib.hid (HT.out.2 (by rw [h1]; rfl))
          simp only [isBlkE] at h1
          go_wp2_with fail
          refine (sIsBlock_any _ _ _ _ HX.out).mono ?_; rintro e w3 ⟨rfl, b3⟩
          try with_reducible replace b3 := New.undrawN b3
          try with_reducible replace b3 := New.undraw b3
          obtain ⟨c3, f3⟩ := b3.rules
          have z3 := b3.size
          try simp only [World.size_alloc, World.size_drew, World.heap_drewN, World.size_setCell] at z3
          go_wp2_with fail
          go_roundw
          case rel => exact ⟨k + 1, by omega, by go_num, HA', hb.trans b3⟩
          case measure => simp [intOf]; omega
        · have HA' := Lib.hid (HT.out.1 (by rw [h1]; rfl))
          simp only [isBlkE] at h1
          go_wp2_with fail
          refine (sIsBlock_any _ _ _ _ HX.out).mono ?_; rintro e w3 ⟨rfl, b3⟩
          try with_reducible replace b3 := New.undrawN b3
          try with_reducible replace b3 := New.undraw b3
          obtain ⟨c3, f3⟩ := b3.rules
          have z3 := b3.size
          try simp only [World.size_alloc, World.size_drew, World.heap_drewN, World.size_setCell] at z3
          go_wp2_with fail
          go_ret
          refine ⟨ret_bool ?_, (by repeat (first | with_reducible exact New.refl _ | with_reducible assumption | with_reducible refine New.drew ?_ | with_reducible refine New.drewN ?_ _ | with_reducible refine New.alloc ?_ _ | with_reducible refine New.setCell ?_ (by first | (simp; done) | (simp; omega) | omega) _ | with_reducible refine New.trans ?_ (by with_reducible assumption)))⟩
          have : (c.blocks.any fun t => !isBlkE t) = true := by rw [← idx_any, idx_some HA'.out]; simp
          rw [isCodeB, this]; simp
      · obtain rfl : k = c.blocks.length := by omega
        go_wp2_with fail
        refine (HA.out _ HSC.out (Rd.new HB.out (by repeat (first | with_reducible exact New.refl _ | with_reducible assumption | with_reducible refine New.drew ?_ | with_reducible refine New.drewN ?_ _ | with_reducible refine New.alloc ?_ _ | with_reducible refine New.setCell ?_ (by first | (simp; done) | (simp; omega) | omega) _ | with_reducible refine New.trans ?_ (by with_reducible assumption)))) (Rd.new HS.out (by repeat (first | with_reducible exact New.refl _ | with_reducible assumption | with_reducible refine New.drew ?_ | with_reducible refine New.drewN ?_ _ | with_reducible refine New.alloc ?_ _ | with_reducible refine New.setCell ?_ (by first | (simp; done) | (simp; omega) | omega) _ | with_reducible refine New.trans ?_ (by with_reducible assumption))))).mono ?_; rintro e w3 ⟨r, rfl, b3, own3⟩
        go_wp2_with fail
        go_ret
        refine ⟨ret_bool ?_, (by repeat (first | with_reducible exact New.refl _ | with_reducible assumption | with_reducible refine New.drew ?_ | with_reducible refine New.drewN ?_ _ | with_reducible refine New.alloc ?_ _ | with_reducible refine New.setCell ?_ (by first | (simp; done) | (simp; omega) | omega) _ | with_reducible refine New.trans ?_ (by with_reducible assumption)))⟩
        have : (c.blocks.any fun t => !isBlkE t) = false := by rw [← idx_any, idx_none (by have := hpre.out; rwa [List.take_length] at this)]; rfl
        rw [isCodeB, this, h0]; simp
  · have HZ := Lib.hid (show isCodeB c = false by rw [isCodeB, h0]; simp)
    rw [smallB] at h0
    go_enter Tryd.func25, Tryd.ntmps25
    go_wp2_with (first | (go_at_call 54; refine (l01In_any _ _ _ _).mono ?_; rintro e _ ⟨rfl, rfl⟩))
    all_goals first | (go_ret; exact ⟨ret_bool HZ.out.symm, (by repeat (first | with_reducible exact New.refl _ | with_reducible assumption | with_reducible refine New.drew ?_ | with_reducible refine New.drewN ?_ _ | with_reducible refine New.alloc ?_ _ | with_reducible refine New.setCell ?_ (by first | (simp; done) | (simp; omega) | omega) _ | with_reducible refine New.trans ?_ (by with_reducible assumption)))⟩) | skip
    all_goals (exfalso; simp_all; omega)
theorem iIsCode1_any (x : ETerm) (w : World) (hf : fitTerm x) (hk : KW w) :
    Calls Tryd.prog 60 #[.agg #[.int .i64 x.kind, .string x.name, .int .i64 x.num]] w fun e w' => e = .returned (.bool (!isBlkE x)) ∧ New w w' := by
  have HK := Lib.hid hk; clear hk
  go_enter Tryd.func60, Tryd.ntmps60
  go_wp2_with fail
  refine (iIsBlock_any _ _ _ _ hf (HK.out.new (by repeat (first | with_reducible exact New.refl _ | with_reducible assumption | with_reducible refine New.drew ?_ | with_reducible refine New.drewN ?_ _ | with_reducible refine New.alloc ?_ _ | with_reducible refine New.setCell ?_ (by first | (simp; done) | (simp; omega) | omega) _ | with_reducible refine New.trans ?_ (by with_reducible assumption))))).mono ?_; rintro e w1 ⟨rfl, b1⟩
  try with_reducible replace b1 := New.undrawN b1
  try with_reducible replace b1 := New.undraw b1
  obtain ⟨c1, f1⟩ := b1.rules
  have z1 := b1.size
  try simp only [World.size_alloc, World.size_drew, World.heap_drewN, World.size_setCell] at z1
  go_wp2_with fail
  go_ret
  exact ⟨rfl, (by repeat (first | with_reducible exact New.refl _ | with_reducible assumption | with_reducible refine New.drew ?_ | with_reducible refine New.drewN ?_ _ | with_reducible refine New.alloc ?_ _ | with_reducible refine New.setCell ?_ (by first | (simp; done) | (simp; omega) | omega) _ | with_reducible refine New.trans ?_ (by with_reducible assumption)))⟩
set_option maxHeartbeats 2000000 in
theorem iIsCode_any (c : CodeD) (bv sv : Value) (w : World) (hb : RdT w bv c.blocks) (hs : RdN w sv c.steps) (hf : ∀ x ∈ c.blocks, fitTerm x) (hk : KW w) :
    Calls Tryd.prog 28 #[.agg #[.int .i64 c.ins, .int .i64 c.vars, .int .i64 c.outs, bv, sv]] w fun e w' => e = .returned (.bool (isCodeB c)) ∧ New w w' := by
  have HB := Lib.hid hb
  have HS := Lib.hid hs
  have HF := Lib.hid hf; clear hf
  have HK := Lib.hid hk; clear hk
  obtain ⟨sa, scap, rfl, hsm, _⟩ := id hs
  obtain ⟨a, cap, rfl, hm, _⟩ := id hb
  clear hb hs
  rcases Bool.eq_false_or_eq_true (smallB c) with h0 | h0
  · have hsc := small_of h0
    have HSC := Lib.hid hsc
    obtain ⟨hi0, hi1, hv0, hv1, ho0, ho1, hbl, hsl⟩ := hsc
    have e1 : inB c.ins 0 20 = true := by simp [inB, hi0, hi1]
    have e2 : inB c.vars 0 20 = true := by simp [inB, hv0, hv1]
    have e3 : inB c.outs 0 20 = true := by simp [inB, ho0, ho1]
    have HA := Lib.hid (iStack_any c (.slice a c.blocks.length cap) (.slice sa c.steps.length scap))
    have HCF := Lib.hid (containsFuncTerm_any 60 #[] (fun t => !isBlkE t) (.slice a c.blocks.length cap) c.blocks)
    rcases Bool.eq_false_or_eq_true (c.blocks.any fun t => !isBlkE t) with h1 | h1
    · go_enter Tryd.func28, Tryd.ntmps28
      go_wp2_with (first | (go_at_call 58; refine (within_any _ _ _ _).mono ?_; rintro e _ ⟨rfl, rfl⟩))
      refine (HCF.out _ (Rd.new HB.out (by repeat (first | with_reducible exact New.refl _ | with_reducible assumption | with_reducible refine New.drew ?_ | with_reducible refine New.drewN ?_ _ | with_reducible refine New.alloc ?_ _ | with_reducible refine New.setCell ?_ (by first | (simp; done) | (simp; omega) | omega) _ | with_reducible refine New.trans ?_ (by with_reducible assumption)))) (fun args w => by kernel_rfl) (fun x w1 hx hn => iIsCode1_any x w1 (HF.out x hx) (HK.out.new (New.trans (by repeat (first | with_reducible exact New.refl _ | with_reducible assumption | with_reducible refine New.drew ?_ | with_reducible refine New.drewN ?_ _ | with_reducible refine New.alloc ?_ _ | with_reducible refine New.setCell ?_ (by first | (simp; done) | (simp; omega) | omega) _ | with_reducible refine New.trans ?_ (by with_reducible assumption))) hn)))).mono ?_; rintro e w2 ⟨rfl, b2⟩
      rw [h1]
      go_wp2_with fail
      go_ret
      exact ⟨ret_bool (by rw [isCodeB, h1]; simp), (by repeat (first | with_reducible exact New.refl _ | with_reducible assumption | with_reducible refine New.drew ?_ | with_reducible refine New.drewN ?_ _ | with_reducible refine New.alloc ?_ _ | with_reducible refine New.setCell ?_ (by first | (simp; done) | (simp; omega) | omega) _ | with_reducible refine New.trans ?_ (by with_reducible assumption)))⟩
    · go_enter Tryd.func28, Tryd.ntmps28
      go_wp2_with (first | (go_at_call 58; refine (within_any _ _ _ _).mono ?_; rintro e _ ⟨rfl, rfl⟩))
      refine (HCF.out _ (Rd.new HB.out (by repeat (first | with_reducible exact New.refl _ | with_reducible assumption | with_reducible refine New.drew ?_ | with_reducible refine New.drewN ?_ _ | with_reducible refine New.alloc ?_ _ | with_reducible refine New.setCell ?_ (by first | (simp; done) | (simp; omega) | omega) _ | with_reducible refine New.trans ?_ (by with_reducible assumption)))) (fun args w => by kernel_rfl) (fun x w1 hx hn => iIsCode1_any x w1 (HF.out x hx) (HK.out.new (New.trans (by repeat (first | with_reducible exact New.refl _ | with_reducible assumption | with_reducible refine New.drew ?_ | with_reducible refine New.drewN ?_ _ | with_reducible refine New.alloc ?_ _ | with_reducible refine New.setCell ?_ (by first | (simp; done) | (simp; omega) | omega) _ | with_reducible refine New.trans ?_ (by with_reducible assumption))) hn)))).mono ?_; rintro e w2 ⟨rfl, b2⟩
      rw [h1]
      obtain ⟨c2, f2⟩ := b2.rules
      have z2 := b2.size
      simp only [World.size_alloc] at z2
      have z2_0 : w.heap.size < w2.heap.size := by omega
      go_wp2_with fail
      refine (HA.out _ HSC.out (Rd.new HB.out (by repeat (first | with_reducible exact New.refl _ | with_reducible assumption | with_reducible refine New.drew ?_ | with_reducible refine New.drewN ?_ _ | with_reducible refine New.alloc ?_ _ | with_reducible refine New.setCell ?_ (by first | (simp; done) | (simp; omega) | omega) _ | with_reducible refine New.trans ?_ (by with_reducible assumption)))) (Rd.new HS.out (by repeat (first | with_reducible exact New.refl _ | with_reducible assumption | with_reducible refine New.drew ?_ | with_reducible refine New.drewN ?_ _ | with_reducible refine New.alloc ?_ _ | with_reducible refine New.setCell ?_ (by first | (simp; done) | (simp; omega) | omega) _ | with_reducible refine New.trans ?_ (by with_reducible assumption))))).mono ?_; rintro e w3 ⟨r, rfl, b3, own3⟩
      go_wp2_with fail
      go_ret
      exact ⟨ret_bool (by rw [isCodeB, h0, h1]; simp), (by repeat (first | with_reducible exact New.refl _ | with_reducible assumption | with_reducible refine New.drew ?_ | with_reducible refine New.drewN ?_ _ | with_reducible refine New.alloc ?_ _ | with_reducible refine New.setCell ?_ (by first | (simp; done) | (simp; omega) | omega) _ | with_reducible refine New.trans ?_ (by with_reducible assumption)))⟩
  · have HZ := Lib.hid (show isCodeB c = false by rw [isCodeB, h0]; simp)
    rw [smallB] at h0
    go_enter Tryd.func28, Tryd.ntmps28
    go_wp2_with (first | (go_at_call 58; refine (within_any _ _ _ _).mono ?_; rintro e _ ⟨rfl, rfl⟩))
    all_goals first | (go_ret; exact ⟨ret_bool HZ.out.symm, (by repeat (first | with_reducible exact New.refl _ | with_reducible assumption | with_reducible refine New.drew ?_ | with_reducible refine New.drewN ?_ _ | with_reducible refine New.alloc ?_ _ | with_reducible refine New.setCell ?_ (by first | (simp; done) | (simp; omega) | omega) _ | with_reducible refine New.trans ?_ (by with_reducible assumption)))⟩) | skip
    all_goals (exfalso; simp_all; omega)
end Go.Proofs.YtekpbmoagabmeaaDoor
