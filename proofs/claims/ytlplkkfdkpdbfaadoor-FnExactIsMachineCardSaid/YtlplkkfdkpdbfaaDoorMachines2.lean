/- Contracts: is a machine possible, and what is left of it. -/
import Derived.Test.YtlplkkfdkpdbfaaDoorProg
import Derived.Test.YtlplkkfdkpdbfaaDoorMachines
namespace Go.Proofs.YtlplkkfdkpdbfaaDoor
open Go Go.Proofs Go.RowKit
set_option linter.unusedVariables false
set_option linter.unusedSimpArgs false
set_option maxRecDepth 100000
theorem crun_len (c : CodeD) : ∀ (xs : List EInstruction) (n : Int) (acc L : List Int) (m : Int), crun c xs n acc = some (L, m) → L.length = acc.length + xs.length
  | [], n, acc, L, m, h => by simp [crun] at h; rw [h.1]; simp
  | x :: xs, n, acc, L, m, h => by
    rw [crun] at h
    split at h
    · have := crun_len c xs _ _ L m h; simp at this ⊢; omega
    · cases h
theorem okC_len {c : CodeD} (h : okC c = true) : (stackOf c).length = c.steps.length := by
  rw [okC] at h
  cases h1 : crun c c.steps 0 [] with
  | none => rw [h1] at h; cases h
  | some r => obtain ⟨L, m⟩ := r; have := crun_len c _ _ _ _ _ h1; rw [stackOf, h1]; simpa using this
theorem isCode_parts {c : CodeD} (h : isCodeB c = true) : SmallC c ∧ (∀ x ∈ c.blocks, isBlkE x = true) ∧ (stackOf c).length = c.steps.length := by
  rw [isCodeB] at h
  simp only [Bool.and_eq_true, Bool.not_eq_true'] at h
  obtain ⟨⟨h1, h2⟩, h3⟩ := h
  refine ⟨small_of h1, fun x hx => ?_, okC_len h3⟩
  have := List.any_eq_false.1 h2 x hx
  simpa using this
def heightM (c : CodeD) (m : MachineD) : Int := if 0 < m.at_ then (stackOf c).getD (m.at_ - 1).toNat 0 else 0
def restM (c : CodeD) (m : MachineD) (h : Int) : Bool := bitsB m.stack h && bitsB m.outs c.outs && suitsB c.vars c.blocks m.values m.blocks
def possM (c : CodeD) (m : MachineD) : Bool := inB m.at_ 0 c.steps.length && restM c m (heightM c m)
/-- How a machine's lists read. -/
structure RdM (w : World) (m : MachineD) (st va ou bl : Value) : Prop where
  st : RdI w st m.stack
  va : RdI w va m.values
  ou : RdI w ou m.outs
  bl : RdB w bl m.blocks
theorem RdM.new {w w' : World} {m : MachineD} {st va ou bl : Value} (h : RdM w m st va ou bl) (n : New w w') : RdM w' m st va ou bl :=
  ⟨h.st.new n, h.va.new n, h.ou.new n, Rd.new h.bl n⟩
theorem lengthN_any (v : Value) (xs : List EInstruction) (w : World) (hv : RdN w v xs) : Calls Tryd.prog 85 #[v] w fun e w' => e = .returned (.int .i64 xs.length) ∧ w = w' := by
  obtain ⟨a, cap, rfl, hn, _⟩ := hv
  go_enter Tryd.func85, Tryd.ntmps85
  go_wp2_with fail
  go_ret
  exact ⟨rfl, rfl⟩
set_option maxHeartbeats 2000000 in
theorem sPossM_any (c : CodeD) (m : MachineD) (bv sv st va ou bl : Value) (w : World) (hb : RdT w bv c.blocks) (hs : RdN w sv c.steps) (hm : RdM w m st va ou bl) (hc : isCodeB c = true) :
    Calls Tryd.prog 80 #[valC c bv sv, valM m st va ou bl] w fun e w' => e = .returned (.bool (possM c m)) ∧ New w w' := by
  obtain ⟨hsm, hbk, hsl⟩ := isCode_parts hc
  have hst1 := hsm.s1
  have HSM := Lib.hid hsm
  have HK := Lib.hid hbk; clear hbk hsm
  have HB := Lib.hid hb; clear hb
  have HM := Lib.hid hm
  obtain ⟨a1, c1', rfl, _⟩ := id hm.va
  obtain ⟨a2, c2', rfl, _⟩ := id hm.bl
  clear hm
  have HS := Lib.hid hs
  obtain ⟨a, cap, rfl, hnn, _⟩ := id hs
  clear hs
  have zz : w.heap.size < w.heap.size + 1 + 1 := by omega
  rcases Bool.eq_false_or_eq_true (inB m.at_ 0 c.steps.length) with h1 | h1
  · have hat : 0 ≤ m.at_ ∧ m.at_ ≤ c.steps.length := by simpa [inB] using h1
    have HZ := Lib.hid (show possM c m = restM c m (heightM c m) by rw [possM, h1]; rfl)
    go_enter Tryd.func80, Tryd.ntmps80
    by_cases h0 : 0 < m.at_
    · obtain ⟨j, hj⟩ := Int.eq_ofNat_of_zero_le (show 0 ≤ m.at_ - 1 by omega)
      have hlt : j < (stackOf c).length := by omega
      have hG := Lib.hid (show heightM c m = (stackOf c)[j] by rw [heightM, if_pos h0, hj]; simp [List.getD, hlt])
      go_wp2_with (first | (go_at_call 67; refine (l01In_any _ _ _ _).mono ?_; rintro e _ ⟨rfl, rfl⟩))
      refine (sStack_any c bv _ _ HSM.out (Rd.new HB.out (by repeat (first | with_reducible exact New.refl _ | with_reducible assumption | with_reducible refine New.drew ?_ | with_reducible refine New.drewN ?_ _ | with_reducible refine New.alloc ?_ _ | with_reducible refine New.setCell ?_ (by first | (simp; done) | (simp; omega) | omega) _ | with_reducible refine New.trans ?_ (by with_reducible assumption)))) (Rd.new HS.out (by repeat (first | with_reducible exact New.refl _ | with_reducible assumption | with_reducible refine New.drew ?_ | with_reducible refine New.drewN ?_ _ | with_reducible refine New.alloc ?_ _ | with_reducible refine New.setCell ?_ (by first | (simp; done) | (simp; omega) | omega) _ | with_reducible refine New.trans ?_ (by with_reducible assumption))))).mono ?_; rintro e w1 ⟨r, rfl, b1, own1⟩
      obtain ⟨ra, rcap, rfl, hrm, HC⟩ := RdI.open (own_rd own1); obtain ⟨b, off, rfl, hbl, hx⟩ := HC.out _ (New.refl _) j hlt; clear own1
      obtain ⟨c1, f1⟩ := b1.rules
      have z1 := b1.size
      try simp only [World.size_alloc, World.size_drew, World.heap_drewN, World.size_setCell] at z1
      have z1_0 : w.heap.size < w1.heap.size := by omega
      have z1_1 : w.heap.size + 1 < w1.heap.size := by omega
      go_wp2_with fail
      rcases Bool.eq_false_or_eq_true (bitsB m.stack ((stackOf c)[j])) with g1 | g1
      · rcases Bool.eq_false_or_eq_true (bitsB m.outs c.outs) with g2 | g2
        · refine (sBits_any st m.stack _ _ (RdI.new HM.out.st (by repeat (first | with_reducible exact New.refl _ | with_reducible assumption | with_reducible refine New.drew ?_ | with_reducible refine New.drewN ?_ _ | with_reducible refine New.alloc ?_ _ | with_reducible refine New.setCell ?_ (by first | (simp; done) | (simp; omega) | omega) _ | with_reducible refine New.trans ?_ (by with_reducible assumption))))).mono ?_; rintro e _ ⟨rfl, rfl⟩
          go_wp2_with fail
          refine (sBits_any ou m.outs _ _ (RdI.new HM.out.ou (by repeat (first | with_reducible exact New.refl _ | with_reducible assumption | with_reducible refine New.drew ?_ | with_reducible refine New.drewN ?_ _ | with_reducible refine New.alloc ?_ _ | with_reducible refine New.setCell ?_ (by first | (simp; done) | (simp; omega) | omega) _ | with_reducible refine New.trans ?_ (by with_reducible assumption))))).mono ?_; rintro e _ ⟨rfl, rfl⟩
          go_wp2_with fail
          refine (sSuits_any c m.values m.blocks bv _ _ _ _ (Rd.new HB.out (by repeat (first | with_reducible exact New.refl _ | with_reducible assumption | with_reducible refine New.drew ?_ | with_reducible refine New.drewN ?_ _ | with_reducible refine New.alloc ?_ _ | with_reducible refine New.setCell ?_ (by first | (simp; done) | (simp; omega) | omega) _ | with_reducible refine New.trans ?_ (by with_reducible assumption)))) (RdI.new HM.out.va (by repeat (first | with_reducible exact New.refl _ | with_reducible assumption | with_reducible refine New.drew ?_ | with_reducible refine New.drewN ?_ _ | with_reducible refine New.alloc ?_ _ | with_reducible refine New.setCell ?_ (by first | (simp; done) | (simp; omega) | omega) _ | with_reducible refine New.trans ?_ (by with_reducible assumption)))) (Rd.new HM.out.bl (by repeat (first | with_reducible exact New.refl _ | with_reducible assumption | with_reducible refine New.drew ?_ | with_reducible refine New.drewN ?_ _ | with_reducible refine New.alloc ?_ _ | with_reducible refine New.setCell ?_ (by first | (simp; done) | (simp; omega) | omega) _ | with_reducible refine New.trans ?_ (by with_reducible assumption)))) HK.out).mono ?_; rintro e w9 ⟨rfl, b9⟩
          go_wp2_with fail
          go_ret
          exact ⟨ret_bool (by rw [HZ.out, hG.out, restM, g1, g2]; simp), (by repeat (first | with_reducible exact New.refl _ | with_reducible assumption | with_reducible refine New.drew ?_ | with_reducible refine New.drewN ?_ _ | with_reducible refine New.alloc ?_ _ | with_reducible refine New.setCell ?_ (by first | (simp; done) | (simp; omega) | omega) _ | with_reducible refine New.trans ?_ (by with_reducible assumption)))⟩
        · refine (sBits_any st m.stack _ _ (RdI.new HM.out.st (by repeat (first | with_reducible exact New.refl _ | with_reducible assumption | with_reducible refine New.drew ?_ | with_reducible refine New.drewN ?_ _ | with_reducible refine New.alloc ?_ _ | with_reducible refine New.setCell ?_ (by first | (simp; done) | (simp; omega) | omega) _ | with_reducible refine New.trans ?_ (by with_reducible assumption))))).mono ?_; rintro e _ ⟨rfl, rfl⟩
          go_wp2_with fail
          refine (sBits_any ou m.outs _ _ (RdI.new HM.out.ou (by repeat (first | with_reducible exact New.refl _ | with_reducible assumption | with_reducible refine New.drew ?_ | with_reducible refine New.drewN ?_ _ | with_reducible refine New.alloc ?_ _ | with_reducible refine New.setCell ?_ (by first | (simp; done) | (simp; omega) | omega) _ | with_reducible refine New.trans ?_ (by with_reducible assumption))))).mono ?_; rintro e _ ⟨rfl, rfl⟩
          go_wp2_with fail
          go_ret
          exact ⟨ret_bool (by rw [HZ.out, hG.out, restM, g1, g2]; simp), (by repeat (first | with_reducible exact New.refl _ | with_reducible assumption | with_reducible refine New.drew ?_ | with_reducible refine New.drewN ?_ _ | with_reducible refine New.alloc ?_ _ | with_reducible refine New.setCell ?_ (by first | (simp; done) | (simp; omega) | omega) _ | with_reducible refine New.trans ?_ (by with_reducible assumption)))⟩
      · refine (sBits_any st m.stack _ _ (RdI.new HM.out.st (by repeat (first | with_reducible exact New.refl _ | with_reducible assumption | with_reducible refine New.drew ?_ | with_reducible refine New.drewN ?_ _ | with_reducible refine New.alloc ?_ _ | with_reducible refine New.setCell ?_ (by first | (simp; done) | (simp; omega) | omega) _ | with_reducible refine New.trans ?_ (by with_reducible assumption))))).mono ?_; rintro e _ ⟨rfl, rfl⟩
        go_wp2_with fail
        go_ret
        exact ⟨ret_bool (by rw [HZ.out, hG.out, restM, g1]; simp), (by repeat (first | with_reducible exact New.refl _ | with_reducible assumption | with_reducible refine New.drew ?_ | with_reducible refine New.drewN ?_ _ | with_reducible refine New.alloc ?_ _ | with_reducible refine New.setCell ?_ (by first | (simp; done) | (simp; omega) | omega) _ | with_reducible refine New.trans ?_ (by with_reducible assumption)))⟩
    · have hG := Lib.hid (show heightM c m = 0 by rw [heightM, if_neg h0])
      go_wp2_with (first | (go_at_call 67; refine (l01In_any _ _ _ _).mono ?_; rintro e _ ⟨rfl, rfl⟩))
      rcases Bool.eq_false_or_eq_true (bitsB m.stack (0)) with g1 | g1
      · rcases Bool.eq_false_or_eq_true (bitsB m.outs c.outs) with g2 | g2
        · refine (sBits_any st m.stack _ _ (RdI.new HM.out.st (by repeat (first | with_reducible exact New.refl _ | with_reducible assumption | with_reducible refine New.drew ?_ | with_reducible refine New.drewN ?_ _ | with_reducible refine New.alloc ?_ _ | with_reducible refine New.setCell ?_ (by first | (simp; done) | (simp; omega) | omega) _ | with_reducible refine New.trans ?_ (by with_reducible assumption))))).mono ?_; rintro e _ ⟨rfl, rfl⟩
          go_wp2_with fail
          refine (sBits_any ou m.outs _ _ (RdI.new HM.out.ou (by repeat (first | with_reducible exact New.refl _ | with_reducible assumption | with_reducible refine New.drew ?_ | with_reducible refine New.drewN ?_ _ | with_reducible refine New.alloc ?_ _ | with_reducible refine New.setCell ?_ (by first | (simp; done) | (simp; omega) | omega) _ | with_reducible refine New.trans ?_ (by with_reducible assumption))))).mono ?_; rintro e _ ⟨rfl, rfl⟩
          go_wp2_with fail
          refine (sSuits_any c m.values m.blocks bv _ _ _ _ (Rd.new HB.out (by repeat (first | with_reducible exact New.refl _ | with_reducible assumption | with_reducible refine New.drew ?_ | with_reducible refine New.drewN ?_ _ | with_reducible refine New.alloc ?_ _ | with_reducible refine New.setCell ?_ (by first | (simp; done) | (simp; omega) | omega) _ | with_reducible refine New.trans ?_ (by with_reducible assumption)))) (RdI.new HM.out.va (by repeat (first | with_reducible exact New.refl _ | with_reducible assumption | with_reducible refine New.drew ?_ | with_reducible refine New.drewN ?_ _ | with_reducible refine New.alloc ?_ _ | with_reducible refine New.setCell ?_ (by first | (simp; done) | (simp; omega) | omega) _ | with_reducible refine New.trans ?_ (by with_reducible assumption)))) (Rd.new HM.out.bl (by repeat (first | with_reducible exact New.refl _ | with_reducible assumption | with_reducible refine New.drew ?_ | with_reducible refine New.drewN ?_ _ | with_reducible refine New.alloc ?_ _ | with_reducible refine New.setCell ?_ (by first | (simp; done) | (simp; omega) | omega) _ | with_reducible refine New.trans ?_ (by with_reducible assumption)))) HK.out).mono ?_; rintro e w9 ⟨rfl, b9⟩
          go_wp2_with fail
          go_ret
          exact ⟨ret_bool (by rw [HZ.out, hG.out, restM, g1, g2]; simp), (by repeat (first | with_reducible exact New.refl _ | with_reducible assumption | with_reducible refine New.drew ?_ | with_reducible refine New.drewN ?_ _ | with_reducible refine New.alloc ?_ _ | with_reducible refine New.setCell ?_ (by first | (simp; done) | (simp; omega) | omega) _ | with_reducible refine New.trans ?_ (by with_reducible assumption)))⟩
        · refine (sBits_any st m.stack _ _ (RdI.new HM.out.st (by repeat (first | with_reducible exact New.refl _ | with_reducible assumption | with_reducible refine New.drew ?_ | with_reducible refine New.drewN ?_ _ | with_reducible refine New.alloc ?_ _ | with_reducible refine New.setCell ?_ (by first | (simp; done) | (simp; omega) | omega) _ | with_reducible refine New.trans ?_ (by with_reducible assumption))))).mono ?_; rintro e _ ⟨rfl, rfl⟩
          go_wp2_with fail
          refine (sBits_any ou m.outs _ _ (RdI.new HM.out.ou (by repeat (first | with_reducible exact New.refl _ | with_reducible assumption | with_reducible refine New.drew ?_ | with_reducible refine New.drewN ?_ _ | with_reducible refine New.alloc ?_ _ | with_reducible refine New.setCell ?_ (by first | (simp; done) | (simp; omega) | omega) _ | with_reducible refine New.trans ?_ (by with_reducible assumption))))).mono ?_; rintro e _ ⟨rfl, rfl⟩
          go_wp2_with fail
          go_ret
          exact ⟨ret_bool (by rw [HZ.out, hG.out, restM, g1, g2]; simp), (by repeat (first | with_reducible exact New.refl _ | with_reducible assumption | with_reducible refine New.drew ?_ | with_reducible refine New.drewN ?_ _ | with_reducible refine New.alloc ?_ _ | with_reducible refine New.setCell ?_ (by first | (simp; done) | (simp; omega) | omega) _ | with_reducible refine New.trans ?_ (by with_reducible assumption)))⟩
      · refine (sBits_any st m.stack _ _ (RdI.new HM.out.st (by repeat (first | with_reducible exact New.refl _ | with_reducible assumption | with_reducible refine New.drew ?_ | with_reducible refine New.drewN ?_ _ | with_reducible refine New.alloc ?_ _ | with_reducible refine New.setCell ?_ (by first | (simp; done) | (simp; omega) | omega) _ | with_reducible refine New.trans ?_ (by with_reducible assumption))))).mono ?_; rintro e _ ⟨rfl, rfl⟩
        go_wp2_with fail
        go_ret
        exact ⟨ret_bool (by rw [HZ.out, hG.out, restM, g1]; simp), (by repeat (first | with_reducible exact New.refl _ | with_reducible assumption | with_reducible refine New.drew ?_ | with_reducible refine New.drewN ?_ _ | with_reducible refine New.alloc ?_ _ | with_reducible refine New.setCell ?_ (by first | (simp; done) | (simp; omega) | omega) _ | with_reducible refine New.trans ?_ (by with_reducible assumption)))⟩
  · go_enter Tryd.func80, Tryd.ntmps80
    go_wp2_with (first | (go_at_call 67; refine (l01In_any _ _ _ _).mono ?_; rintro e _ ⟨rfl, rfl⟩))
    go_ret
    exact ⟨ret_bool (by rw [possM, h1]; rfl), (by repeat (first | with_reducible exact New.refl _ | with_reducible assumption | with_reducible refine New.drew ?_ | with_reducible refine New.drewN ?_ _ | with_reducible refine New.alloc ?_ _ | with_reducible refine New.setCell ?_ (by first | (simp; done) | (simp; omega) | omega) _ | with_reducible refine New.trans ?_ (by with_reducible assumption)))⟩
set_option maxHeartbeats 2000000 in
theorem iPossM_any (c : CodeD) (m : MachineD) (bv sv st va ou bl : Value) (w : World) (hb : RdT w bv c.blocks) (hs : RdN w sv c.steps) (hm : RdM w m st va ou bl) (hc : isCodeB c = true) :
    Calls Tryd.prog 114 #[valM m st va ou bl, valC c bv sv] w fun e w' => e = .returned (.bool (possM c m)) ∧ New w w' := by
  obtain ⟨hsm, hbk, hsl⟩ := isCode_parts hc
  have hst1 := hsm.s1
  have HSM := Lib.hid hsm
  have HK := Lib.hid hbk; clear hbk hsm
  have HB := Lib.hid hb; clear hb
  have HM := Lib.hid hm
  obtain ⟨a1, c1', rfl, _⟩ := id hm.va
  obtain ⟨a2, c2', rfl, _⟩ := id hm.bl
  clear hm
  have HS := Lib.hid hs
  obtain ⟨a, cap, rfl, hnn, _⟩ := id hs
  clear hs
  have zz : w.heap.size < w.heap.size + 1 + 1 := by omega
  rcases Bool.eq_false_or_eq_true (inB m.at_ 0 c.steps.length) with h1 | h1
  · have hat : 0 ≤ m.at_ ∧ m.at_ ≤ c.steps.length := by simpa [inB] using h1
    have HZ := Lib.hid (show possM c m = restM c m (heightM c m) by rw [possM, h1]; rfl)
    go_enter Tryd.func114, Tryd.ntmps114
    go_wp2_with fail
    by_cases h0 : 0 < m.at_
    · obtain ⟨j, hj⟩ := Int.eq_ofNat_of_zero_le (show 0 ≤ m.at_ - 1 by omega)
      have hlt : j < (stackOf c).length := by omega
      have hG := Lib.hid (show heightM c m = (stackOf c)[j] by rw [heightM, if_pos h0, hj]; simp [List.getD, hlt])
      go_quiet (first | (go_at_call 85; exact quiet_eq (lengthN_any _ c.steps _ (Rd.new HS.out (by repeat (first | with_reducible exact New.refl _ | with_reducible assumption | with_reducible refine New.drew ?_ | with_reducible refine New.drewN ?_ _ | with_reducible refine New.alloc ?_ _ | with_reducible refine New.setCell ?_ (by first | (simp; done) | (simp; omega) | omega) _ | with_reducible refine New.trans ?_ (by with_reducible assumption)))))) | (go_at_call 70; exact quiet_eq (within_any _ _ _ _)))
      go_wp2_with fail
      refine (iStack_any c bv _ _ HSM.out (Rd.new HB.out (by repeat (first | with_reducible exact New.refl _ | with_reducible assumption | with_reducible refine New.drew ?_ | with_reducible refine New.drewN ?_ _ | with_reducible refine New.alloc ?_ _ | with_reducible refine New.setCell ?_ (by first | (simp; done) | (simp; omega) | omega) _ | with_reducible refine New.trans ?_ (by with_reducible assumption)))) (Rd.new HS.out (by repeat (first | with_reducible exact New.refl _ | with_reducible assumption | with_reducible refine New.drew ?_ | with_reducible refine New.drewN ?_ _ | with_reducible refine New.alloc ?_ _ | with_reducible refine New.setCell ?_ (by first | (simp; done) | (simp; omega) | omega) _ | with_reducible refine New.trans ?_ (by with_reducible assumption))))).mono ?_; rintro e w2 ⟨r, rfl, b2, own2⟩
      obtain ⟨ra, rcap, rfl, hrm, HC⟩ := RdI.open (own_rd own2); obtain ⟨b, off, rfl, hbl, hx⟩ := HC.out _ (New.refl _) j hlt; clear own2
      obtain ⟨c2, f2⟩ := b2.rules
      have z2 := b2.size
      try simp only [World.size_alloc, World.size_drew, World.heap_drewN, World.size_setCell] at z2
      have z2_0 : w.heap.size < w2.heap.size := by omega
      have z2_1 : w.heap.size + 1 < w2.heap.size := by omega
      go_wp2_with fail
      rcases Bool.eq_false_or_eq_true (bitsB m.stack ((stackOf c)[j])) with g1 | g1
      · rcases Bool.eq_false_or_eq_true (bitsB m.outs c.outs) with g2 | g2
        · skip
          refine (iBits_any st m.stack _ _ (RdI.new HM.out.st (by repeat (first | with_reducible exact New.refl _ | with_reducible assumption | with_reducible refine New.drew ?_ | with_reducible refine New.drewN ?_ _ | with_reducible refine New.alloc ?_ _ | with_reducible refine New.setCell ?_ (by first | (simp; done) | (simp; omega) | omega) _ | with_reducible refine New.trans ?_ (by with_reducible assumption))))).mono ?_; rintro e w7 ⟨rfl, b7⟩
          try replace b7 := New.undrawN b7
          try replace b7 := New.undraw b7
          obtain ⟨c7, f7⟩ := b7.rules
          have z7 := b7.size
          try simp only [World.size_alloc, World.size_drew, World.heap_drewN, World.size_setCell] at z7
          have z7_0 : w.heap.size < w7.heap.size := by omega
          have z7_1 : w.heap.size + 1 < w7.heap.size := by omega
          go_wp2_with fail
          refine (iBits_any ou m.outs _ _ (RdI.new HM.out.ou (by repeat (first | with_reducible exact New.refl _ | with_reducible assumption | with_reducible refine New.drew ?_ | with_reducible refine New.drewN ?_ _ | with_reducible refine New.alloc ?_ _ | with_reducible refine New.setCell ?_ (by first | (simp; done) | (simp; omega) | omega) _ | with_reducible refine New.trans ?_ (by with_reducible assumption))))).mono ?_; rintro e w8 ⟨rfl, b8⟩
          try replace b8 := New.undrawN b8
          try replace b8 := New.undraw b8
          obtain ⟨c8, f8⟩ := b8.rules
          have z8 := b8.size
          try simp only [World.size_alloc, World.size_drew, World.heap_drewN, World.size_setCell] at z8
          have z8_0 : w.heap.size < w8.heap.size := by omega
          have z8_1 : w.heap.size + 1 < w8.heap.size := by omega
          go_wp2_with fail
          refine (iSuits_any c.vars c.blocks m.values m.blocks bv _ _ _ (Rd.new HB.out (by repeat (first | with_reducible exact New.refl _ | with_reducible assumption | with_reducible refine New.drew ?_ | with_reducible refine New.drewN ?_ _ | with_reducible refine New.alloc ?_ _ | with_reducible refine New.setCell ?_ (by first | (simp; done) | (simp; omega) | omega) _ | with_reducible refine New.trans ?_ (by with_reducible assumption)))) (RdI.new HM.out.va (by repeat (first | with_reducible exact New.refl _ | with_reducible assumption | with_reducible refine New.drew ?_ | with_reducible refine New.drewN ?_ _ | with_reducible refine New.alloc ?_ _ | with_reducible refine New.setCell ?_ (by first | (simp; done) | (simp; omega) | omega) _ | with_reducible refine New.trans ?_ (by with_reducible assumption)))) (Rd.new HM.out.bl (by repeat (first | with_reducible exact New.refl _ | with_reducible assumption | with_reducible refine New.drew ?_ | with_reducible refine New.drewN ?_ _ | with_reducible refine New.alloc ?_ _ | with_reducible refine New.setCell ?_ (by first | (simp; done) | (simp; omega) | omega) _ | with_reducible refine New.trans ?_ (by with_reducible assumption)))) HK.out).mono ?_; rintro e w9 ⟨rfl, b9⟩
          try replace b9 := New.undrawN b9
          try replace b9 := New.undraw b9
          obtain ⟨c9, f9⟩ := b9.rules
          have z9 := b9.size
          try simp only [World.size_alloc, World.size_drew, World.heap_drewN, World.size_setCell] at z9
          go_wp2_with fail
          go_ret
          exact ⟨ret_bool (by rw [HZ.out, hG.out, restM, g1, g2]; simp), (by repeat (first | with_reducible exact New.refl _ | with_reducible assumption | with_reducible refine New.drew ?_ | with_reducible refine New.drewN ?_ _ | with_reducible refine New.alloc ?_ _ | with_reducible refine New.setCell ?_ (by first | (simp; done) | (simp; omega) | omega) _ | with_reducible refine New.trans ?_ (by with_reducible assumption)))⟩
        · skip
          refine (iBits_any st m.stack _ _ (RdI.new HM.out.st (by repeat (first | with_reducible exact New.refl _ | with_reducible assumption | with_reducible refine New.drew ?_ | with_reducible refine New.drewN ?_ _ | with_reducible refine New.alloc ?_ _ | with_reducible refine New.setCell ?_ (by first | (simp; done) | (simp; omega) | omega) _ | with_reducible refine New.trans ?_ (by with_reducible assumption))))).mono ?_; rintro e w7 ⟨rfl, b7⟩
          try replace b7 := New.undrawN b7
          try replace b7 := New.undraw b7
          obtain ⟨c7, f7⟩ := b7.rules
          have z7 := b7.size
          try simp only [World.size_alloc, World.size_drew, World.heap_drewN, World.size_setCell] at z7
          have z7_0 : w.heap.size < w7.heap.size := by omega
          have z7_1 : w.heap.size + 1 < w7.heap.size := by omega
          go_wp2_with fail
          refine (iBits_any ou m.outs _ _ (RdI.new HM.out.ou (by repeat (first | with_reducible exact New.refl _ | with_reducible assumption | with_reducible refine New.drew ?_ | with_reducible refine New.drewN ?_ _ | with_reducible refine New.alloc ?_ _ | with_reducible refine New.setCell ?_ (by first | (simp; done) | (simp; omega) | omega) _ | with_reducible refine New.trans ?_ (by with_reducible assumption))))).mono ?_; rintro e w8 ⟨rfl, b8⟩
          try replace b8 := New.undrawN b8
          try replace b8 := New.undraw b8
          obtain ⟨c8, f8⟩ := b8.rules
          have z8 := b8.size
          try simp only [World.size_alloc, World.size_drew, World.heap_drewN, World.size_setCell] at z8
          have z8_0 : w.heap.size < w8.heap.size := by omega
          have z8_1 : w.heap.size + 1 < w8.heap.size := by omega
          go_wp2_with fail
          go_ret
          exact ⟨ret_bool (by rw [HZ.out, hG.out, restM, g1, g2]; simp), (by repeat (first | with_reducible exact New.refl _ | with_reducible assumption | with_reducible refine New.drew ?_ | with_reducible refine New.drewN ?_ _ | with_reducible refine New.alloc ?_ _ | with_reducible refine New.setCell ?_ (by first | (simp; done) | (simp; omega) | omega) _ | with_reducible refine New.trans ?_ (by with_reducible assumption)))⟩
      · skip
        refine (iBits_any st m.stack _ _ (RdI.new HM.out.st (by repeat (first | with_reducible exact New.refl _ | with_reducible assumption | with_reducible refine New.drew ?_ | with_reducible refine New.drewN ?_ _ | with_reducible refine New.alloc ?_ _ | with_reducible refine New.setCell ?_ (by first | (simp; done) | (simp; omega) | omega) _ | with_reducible refine New.trans ?_ (by with_reducible assumption))))).mono ?_; rintro e w7 ⟨rfl, b7⟩
        try replace b7 := New.undrawN b7
        try replace b7 := New.undraw b7
        obtain ⟨c7, f7⟩ := b7.rules
        have z7 := b7.size
        try simp only [World.size_alloc, World.size_drew, World.heap_drewN, World.size_setCell] at z7
        have z7_0 : w.heap.size < w7.heap.size := by omega
        have z7_1 : w.heap.size + 1 < w7.heap.size := by omega
        go_wp2_with fail
        go_ret
        exact ⟨ret_bool (by rw [HZ.out, hG.out, restM, g1]; simp), (by repeat (first | with_reducible exact New.refl _ | with_reducible assumption | with_reducible refine New.drew ?_ | with_reducible refine New.drewN ?_ _ | with_reducible refine New.alloc ?_ _ | with_reducible refine New.setCell ?_ (by first | (simp; done) | (simp; omega) | omega) _ | with_reducible refine New.trans ?_ (by with_reducible assumption)))⟩
    · have hG := Lib.hid (show heightM c m = 0 by rw [heightM, if_neg h0])
      go_quiet (first | (go_at_call 85; exact quiet_eq (lengthN_any _ c.steps _ (Rd.new HS.out (by repeat (first | with_reducible exact New.refl _ | with_reducible assumption | with_reducible refine New.drew ?_ | with_reducible refine New.drewN ?_ _ | with_reducible refine New.alloc ?_ _ | with_reducible refine New.setCell ?_ (by first | (simp; done) | (simp; omega) | omega) _ | with_reducible refine New.trans ?_ (by with_reducible assumption)))))) | (go_at_call 70; exact quiet_eq (within_any _ _ _ _)))
      go_wp2_with fail
      refine (iStack_any c bv _ _ HSM.out (Rd.new HB.out (by repeat (first | with_reducible exact New.refl _ | with_reducible assumption | with_reducible refine New.drew ?_ | with_reducible refine New.drewN ?_ _ | with_reducible refine New.alloc ?_ _ | with_reducible refine New.setCell ?_ (by first | (simp; done) | (simp; omega) | omega) _ | with_reducible refine New.trans ?_ (by with_reducible assumption)))) (Rd.new HS.out (by repeat (first | with_reducible exact New.refl _ | with_reducible assumption | with_reducible refine New.drew ?_ | with_reducible refine New.drewN ?_ _ | with_reducible refine New.alloc ?_ _ | with_reducible refine New.setCell ?_ (by first | (simp; done) | (simp; omega) | omega) _ | with_reducible refine New.trans ?_ (by with_reducible assumption))))).mono ?_; rintro e w2 ⟨r, rfl, b2, own2⟩
      obtain ⟨ra, rcap, rfl, hrm, HC⟩ := RdI.open (own_rd own2)
      obtain ⟨c2, f2⟩ := b2.rules
      have z2 := b2.size
      try simp only [World.size_alloc, World.size_drew, World.heap_drewN, World.size_setCell] at z2
      have z2_0 : w.heap.size < w2.heap.size := by omega
      have z2_1 : w.heap.size + 1 < w2.heap.size := by omega
      go_wp2_with fail
      rcases Bool.eq_false_or_eq_true (bitsB m.stack (0)) with g1 | g1
      · rcases Bool.eq_false_or_eq_true (bitsB m.outs c.outs) with g2 | g2
        · skip
          refine (iBits_any st m.stack _ _ (RdI.new HM.out.st (by repeat (first | with_reducible exact New.refl _ | with_reducible assumption | with_reducible refine New.drew ?_ | with_reducible refine New.drewN ?_ _ | with_reducible refine New.alloc ?_ _ | with_reducible refine New.setCell ?_ (by first | (simp; done) | (simp; omega) | omega) _ | with_reducible refine New.trans ?_ (by with_reducible assumption))))).mono ?_; rintro e w7 ⟨rfl, b7⟩
          try replace b7 := New.undrawN b7
          try replace b7 := New.undraw b7
          obtain ⟨c7, f7⟩ := b7.rules
          have z7 := b7.size
          try simp only [World.size_alloc, World.size_drew, World.heap_drewN, World.size_setCell] at z7
          have z7_0 : w.heap.size < w7.heap.size := by omega
          have z7_1 : w.heap.size + 1 < w7.heap.size := by omega
          go_wp2_with fail
          refine (iBits_any ou m.outs _ _ (RdI.new HM.out.ou (by repeat (first | with_reducible exact New.refl _ | with_reducible assumption | with_reducible refine New.drew ?_ | with_reducible refine New.drewN ?_ _ | with_reducible refine New.alloc ?_ _ | with_reducible refine New.setCell ?_ (by first | (simp; done) | (simp; omega) | omega) _ | with_reducible refine New.trans ?_ (by with_reducible assumption))))).mono ?_; rintro e w8 ⟨rfl, b8⟩
          try replace b8 := New.undrawN b8
          try replace b8 := New.undraw b8
          obtain ⟨c8, f8⟩ := b8.rules
          have z8 := b8.size
          try simp only [World.size_alloc, World.size_drew, World.heap_drewN, World.size_setCell] at z8
          have z8_0 : w.heap.size < w8.heap.size := by omega
          have z8_1 : w.heap.size + 1 < w8.heap.size := by omega
          go_wp2_with fail
          refine (iSuits_any c.vars c.blocks m.values m.blocks bv _ _ _ (Rd.new HB.out (by repeat (first | with_reducible exact New.refl _ | with_reducible assumption | with_reducible refine New.drew ?_ | with_reducible refine New.drewN ?_ _ | with_reducible refine New.alloc ?_ _ | with_reducible refine New.setCell ?_ (by first | (simp; done) | (simp; omega) | omega) _ | with_reducible refine New.trans ?_ (by with_reducible assumption)))) (RdI.new HM.out.va (by repeat (first | with_reducible exact New.refl _ | with_reducible assumption | with_reducible refine New.drew ?_ | with_reducible refine New.drewN ?_ _ | with_reducible refine New.alloc ?_ _ | with_reducible refine New.setCell ?_ (by first | (simp; done) | (simp; omega) | omega) _ | with_reducible refine New.trans ?_ (by with_reducible assumption)))) (Rd.new HM.out.bl (by repeat (first | with_reducible exact New.refl _ | with_reducible assumption | with_reducible refine New.drew ?_ | with_reducible refine New.drewN ?_ _ | with_reducible refine New.alloc ?_ _ | with_reducible refine New.setCell ?_ (by first | (simp; done) | (simp; omega) | omega) _ | with_reducible refine New.trans ?_ (by with_reducible assumption)))) HK.out).mono ?_; rintro e w9 ⟨rfl, b9⟩
          try replace b9 := New.undrawN b9
          try replace b9 := New.undraw b9
          obtain ⟨c9, f9⟩ := b9.rules
          have z9 := b9.size
          try simp only [World.size_alloc, World.size_drew, World.heap_drewN, World.size_setCell] at z9
          go_wp2_with fail
          go_ret
          exact ⟨ret_bool (by rw [HZ.out, hG.out, restM, g1, g2]; simp), (by repeat (first | with_reducible exact New.refl _ | with_reducible assumption | with_reducible refine New.drew ?_ | with_reducible refine New.drewN ?_ _ | with_reducible refine New.alloc ?_ _ | with_reducible refine New.setCell ?_ (by first | (simp; done) | (simp; omega) | omega) _ | with_reducible refine New.trans ?_ (by with_reducible assumption)))⟩
        · skip
          refine (iBits_any st m.stack _ _ (RdI.new HM.out.st (by repeat (first | with_reducible exact New.refl _ | with_reducible assumption | with_reducible refine New.drew ?_ | with_reducible refine New.drewN ?_ _ | with_reducible refine New.alloc ?_ _ | with_reducible refine New.setCell ?_ (by first | (simp; done) | (simp; omega) | omega) _ | with_reducible refine New.trans ?_ (by with_reducible assumption))))).mono ?_; rintro e w7 ⟨rfl, b7⟩
          try replace b7 := New.undrawN b7
          try replace b7 := New.undraw b7
          obtain ⟨c7, f7⟩ := b7.rules
          have z7 := b7.size
          try simp only [World.size_alloc, World.size_drew, World.heap_drewN, World.size_setCell] at z7
          have z7_0 : w.heap.size < w7.heap.size := by omega
          have z7_1 : w.heap.size + 1 < w7.heap.size := by omega
          go_wp2_with fail
          refine (iBits_any ou m.outs _ _ (RdI.new HM.out.ou (by repeat (first | with_reducible exact New.refl _ | with_reducible assumption | with_reducible refine New.drew ?_ | with_reducible refine New.drewN ?_ _ | with_reducible refine New.alloc ?_ _ | with_reducible refine New.setCell ?_ (by first | (simp; done) | (simp; omega) | omega) _ | with_reducible refine New.trans ?_ (by with_reducible assumption))))).mono ?_; rintro e w8 ⟨rfl, b8⟩
          try replace b8 := New.undrawN b8
          try replace b8 := New.undraw b8
          obtain ⟨c8, f8⟩ := b8.rules
          have z8 := b8.size
          try simp only [World.size_alloc, World.size_drew, World.heap_drewN, World.size_setCell] at z8
          have z8_0 : w.heap.size < w8.heap.size := by omega
          have z8_1 : w.heap.size + 1 < w8.heap.size := by omega
          go_wp2_with fail
          go_ret
          exact ⟨ret_bool (by rw [HZ.out, hG.out, restM, g1, g2]; simp), (by repeat (first | with_reducible exact New.refl _ | with_reducible assumption | with_reducible refine New.drew ?_ | with_reducible refine New.drewN ?_ _ | with_reducible refine New.alloc ?_ _ | with_reducible refine New.setCell ?_ (by first | (simp; done) | (simp; omega) | omega) _ | with_reducible refine New.trans ?_ (by with_reducible assumption)))⟩
      · skip
        refine (iBits_any st m.stack _ _ (RdI.new HM.out.st (by repeat (first | with_reducible exact New.refl _ | with_reducible assumption | with_reducible refine New.drew ?_ | with_reducible refine New.drewN ?_ _ | with_reducible refine New.alloc ?_ _ | with_reducible refine New.setCell ?_ (by first | (simp; done) | (simp; omega) | omega) _ | with_reducible refine New.trans ?_ (by with_reducible assumption))))).mono ?_; rintro e w7 ⟨rfl, b7⟩
        try replace b7 := New.undrawN b7
        try replace b7 := New.undraw b7
        obtain ⟨c7, f7⟩ := b7.rules
        have z7 := b7.size
        try simp only [World.size_alloc, World.size_drew, World.heap_drewN, World.size_setCell] at z7
        have z7_0 : w.heap.size < w7.heap.size := by omega
        have z7_1 : w.heap.size + 1 < w7.heap.size := by omega
        go_wp2_with fail
        go_ret
        exact ⟨ret_bool (by rw [HZ.out, hG.out, restM, g1]; simp), (by repeat (first | with_reducible exact New.refl _ | with_reducible assumption | with_reducible refine New.drew ?_ | with_reducible refine New.drewN ?_ _ | with_reducible refine New.alloc ?_ _ | with_reducible refine New.setCell ?_ (by first | (simp; done) | (simp; omega) | omega) _ | with_reducible refine New.trans ?_ (by with_reducible assumption)))⟩
  · go_enter Tryd.func114, Tryd.ntmps114
    go_wp2_with fail
    go_quiet (first | (go_at_call 85; exact quiet_eq (lengthN_any _ c.steps _ (Rd.new HS.out (by repeat (first | with_reducible exact New.refl _ | with_reducible assumption | with_reducible refine New.drew ?_ | with_reducible refine New.drewN ?_ _ | with_reducible refine New.alloc ?_ _ | with_reducible refine New.setCell ?_ (by first | (simp; done) | (simp; omega) | omega) _ | with_reducible refine New.trans ?_ (by with_reducible assumption)))))) | (go_at_call 70; exact quiet_eq (within_any _ _ _ _)))
    go_wp2_with fail
    go_ret
    exact ⟨ret_bool (by rw [possM, h1]; rfl), (by repeat (first | with_reducible exact New.refl _ | with_reducible assumption | with_reducible refine New.drew ?_ | with_reducible refine New.drewN ?_ _ | with_reducible refine New.alloc ?_ _ | with_reducible refine New.setCell ?_ (by first | (simp; done) | (simp; omega) | omega) _ | with_reducible refine New.trans ?_ (by with_reducible assumption)))⟩
end Go.Proofs.YtlplkkfdkpdbfaaDoor
