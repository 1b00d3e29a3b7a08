/- What calls hand back. -/
import Derived.Test.YteielmihlfakgaaGreatDoorProg
import Derived.Test.YteielmihlfakgaaGreatDoorVA
import Derived.Test.YteielmihlfakgaaGreatDoorUC
import Derived.Test.YteielmihlfakgaaGreatDoorUE
namespace Go.Proofs.YteielmihlfakgaaGreatDoor
open Go Go.Proofs
/-- A call hands back a list of numbers in new memory, and a code. -/
def RetIC (w : World) (r : List Int × Int) (e : Ending) (w' : World) : Prop := ∃ v, e = .returned (.tuple #[v, .int .i64 r.2]) ∧ New w w' ∧ w'.ownsRow w.heap.size 2 1 v r.1.length (r.1.map (Value.int .i64))
end Go.Proofs.YteielmihlfakgaaGreatDoor
/- Contracts: the heights of a code's stack. -/
namespace Go.Proofs.YteielmihlfakgaaGreatDoor
open Go Go.Proofs Go.RowKit
set_option linter.unusedVariables false
set_option linter.unusedSimpArgs false
set_option maxRecDepth 100000
def crun (c : CodeD) : List EInstruction → Int → List Int → Option (List Int × Int)
  | [], n, acc => some (acc, n)
  | x :: xs, n, acc => if fitsC c x = true ∧ takesI c x ≤ n ∧ n - takesI c x + givesI x ≤ 40 then crun c xs (n - takesI c x + givesI x) (acc ++ [n - takesI c x + givesI x]) else none
def stackOf (c : CodeD) : List Int := match crun c c.steps 0 [] with | some (acc, _) => acc | none => []
def okC (c : CodeD) : Bool := match crun c c.steps 0 [] with | some (_, n) => n == 0 | none => false
theorem C_none {c : CodeD} (h : crun c c.steps 0 [] = none) : stackOf c = [] ∧ okC c = false := by
  refine ⟨?_, ?_⟩
  · rw [stackOf, h]
  · rw [okC, h]
theorem C_some {c : CodeD} {acc : List Int} {n : Int} (h : crun c c.steps 0 [] = some (acc, n)) : stackOf c = acc ∧ okC c = (n == 0) := by
  refine ⟨?_, ?_⟩
  · rw [stackOf, h]
  · rw [okC, h]
theorem crun_step {c : CodeD} {xs : List EInstruction} {k : Nat} {n : Int} {acc : List Int} (hk : k < xs.length) (h1 : fitsC c xs[k] = true) (h2 : takesI c xs[k] ≤ n) (h3 : n - takesI c xs[k] + givesI xs[k] ≤ 40) :
    crun c (xs.drop k) n acc = crun c (xs.drop (k + 1)) (n - takesI c xs[k] + givesI xs[k]) (acc ++ [n - takesI c xs[k] + givesI xs[k]]) := by
  rw [List.drop_eq_getElem_cons hk, crun, if_pos ⟨h1, h2, h3⟩]
theorem crun_stop {c : CodeD} {xs : List EInstruction} {k : Nat} {n : Int} {acc : List Int} (hk : k < xs.length) (h : fitsC c xs[k] = false ∨ n < takesI c xs[k] ∨ 40 < n - takesI c xs[k] + givesI xs[k]) :
    crun c (xs.drop k) n acc = none := by
  rw [List.drop_eq_getElem_cons hk, crun, if_neg]
  rintro ⟨h1, h2, h3⟩
  rcases h with h | h | h
  · rw [h] at h1; cases h1
  · omega
  · omega
theorem crun_end {c : CodeD} {xs : List EInstruction} {n : Int} {acc : List Int} : crun c (xs.drop xs.length) n acc = some (acc, n) := by rw [List.drop_length, crun]
set_option maxHeartbeats 2000000 in
theorem sStack_any (c : CodeD) (bv sv : Value) (w : World) (hc : SmallC c) (hb : RdT w bv c.blocks) (hs : RdN w sv c.steps) :
    Calls Tryz.prog 79 #[.agg #[.int .i64 c.ins, .int .i64 c.vars, .int .i64 c.outs, bv, sv]] w (RetIB w (stackOf c) (okC c)) := by
  obtain ⟨a, cap, rfl, hm, HC⟩ := Rd.flat encInstruction_len (by omega) hs
  clear hs
  have HB := Lib.hid hb; clear hb
  have hsl := hc.s1
  have zz : w.heap.size < w.heap.size + 1 + 1 := by omega
  have HSC := Lib.hid hc; clear hc
  have HT := Lib.hid (fun (x : EInstruction) (w' : World) (h : New w w') (hf : fitsC c x = true) => sTakesC_any c x bv (.slice a c.steps.length cap) w' (HB.out.new h) hf)
  have HF := Lib.hid (fun (x : EInstruction) (w' : World) (h : New w w') => sFits_any c x bv (.slice a c.steps.length cap) w' HSC.out (HB.out.new h))
  obtain ⟨i0, hi, hz0, hz1, hz2⟩ := info_parts infoI64h
  go_enter Tryz.func79, Tryz.ntmps79
  go_wp2_with fail
  go_loopw [4, 5, 6] (fun o n i wr => ∃ (k : Nat) (m : Int) (acc : List Int), k ≤ c.steps.length ∧ i = .int .i64 k ∧ n = .int .i64 m ∧ 0 ≤ m ∧ m ≤ k ∧ acc.length = k ∧ Hid (crun c c.steps 0 [] = crun c (c.steps.drop k) m acc) ∧ wr.ownsRow (w.heap.size + 1) 2 1 o acc.length (acc.map (Value.int .i64)) ∧ New (w.alloc (.cells #[.int .i64 c.ins, .int .i64 c.vars, .int .i64 c.outs, bv, .slice a c.steps.length cap] 27)) wr) (fun _ _ i _ => c.steps.length - (intOf i).toNat)
  case atStart => exact ⟨0, 0, [], Nat.zero_le _, rfl, rfl, by omega, by omega, rfl, Lib.hid (by simp), (by have := own_empty (w := w.alloc (.cells #[.int .i64 c.ins, .int .i64 c.vars, .int .i64 c.outs, bv, .slice a c.steps.length cap] 27)) (base := w.heap.size + 1) (e := 2) (sz := 1) (by rw [World.size_alloc]; exact Nat.le_refl _); simp only [World.size_alloc] at this; exact this), (by repeat (first | with_reducible exact New.refl _ | with_reducible assumption | with_reducible refine New.drew ?_ | with_reducible refine New.drewN ?_ _ | with_reducible refine New.alloc ?_ _ | with_reducible refine New.setCell ?_ (by first | (simp; done) | (simp; omega) | omega) _ | with_reducible refine New.trans ?_ (by with_reducible assumption)))⟩
  case round =>
    obtain ⟨k, m, acc, hk, rfl, rfl, hm0, hm1, hal, hr, hown, hb⟩ := hrel
    obtain ⟨cc, f'⟩ := hb.rules
    have hbz := hb.size
    simp only [World.size_alloc] at hbz
    have hb0 : New w wr := ((New.refl w).alloc _).trans hb
    by_cases hlt : k < c.steps.length
    · obtain ⟨b, off, rfl, hbl, hx⟩ := HC.out k hlt
      have x0 := hx 0 _ (by omega) rfl
      have x1 := hx 1 _ (by omega) rfl
      rw [Nat.add_zero] at x0
      replace hx := Lib.hid hx
      have hbw : b < wr.heap.size := by omega
      have hww : w.heap.size < wr.heap.size := by omega
      have hbw1 : b < w.heap.size + 1 := by omega
      have htb := takesI_bd c c.steps[k]
      have hgb := givesI_bd c.steps[k]
      generalize hX : c.steps[k] = X at *
      rcases Bool.eq_false_or_eq_true (fitsC c X) with h1 | h1
      · go_wp2_with fail
        have hq := fun (n : NewOf wr) b o => NewOf.cell n b o
        refine wp_region_new (by kernel_rfl) (by kernel_rfl) ?_
        repeat (first | go_big_quiet_skip | go_big_quiet_step ((first | exact newq (HF.out X _ (hb0.trans (NewOf.property _))))) | quiet_step ((first | exact newq (HF.out X _ (hb0.trans (NewOf.property _))))))
        refine wpQuiet_nil ?_
        rintro ⟨w3, b3⟩
        dsimp only
        try with_reducible replace b3 := New.undrawN b3
        try with_reducible replace b3 := New.undraw b3
        obtain ⟨c3, f3⟩ := b3.rules
        have z3 := b3.size
        try simp only [World.size_alloc, World.size_drew, World.heap_drewN, World.size_setCell] at z3
        have z3_0 : w.heap.size < w3.heap.size := by omega
        have z3_1 : b < w3.heap.size := by omega
        go_wp2_with fail
        have hq3 := fun (n : NewOf w3) b o => NewOf.cell n b o
        by_cases h2 : m < takesI c X
        · have HA := Lib.hid (C_none (hr.out.trans (crun_stop (acc := acc) hlt (.inr (.inl (by rw [hX]; exact h2))))))
          refine wp_region_new (by kernel_rfl) (by kernel_rfl) ?_
          repeat (first | go_big_quiet_skip | go_big_quiet_step ((first | exact newq (HT.out X _ ((hb0.trans b3).trans (NewOf.property _)) h1))) | quiet_step ((first | exact newq (HT.out X _ ((hb0.trans b3).trans (NewOf.property _)) h1))))
          refine wpQuiet_nil ?_
          rintro ⟨w5, b5⟩
          dsimp only
          try with_reducible replace b5 := New.undrawN b5
          try with_reducible replace b5 := New.undraw b5
          obtain ⟨c5, f5⟩ := b5.rules
          have z5 := b5.size
          try simp only [World.size_alloc, World.size_drew, World.heap_drewN, World.size_setCell] at z5
          go_wp2_with fail
          go_ret2
          rw [HA.out.1, HA.out.2]
          exact ⟨_, rfl, (by repeat (first | with_reducible exact New.refl _ | with_reducible assumption | with_reducible refine New.drew ?_ | with_reducible refine New.drewN ?_ _ | with_reducible refine New.alloc ?_ _ | with_reducible refine New.setCell ?_ (by first | (simp; done) | (simp; omega) | omega) _ | with_reducible refine New.trans ?_ (by with_reducible assumption))), World.ownsRow_nil _ _ _ _⟩
        · by_cases h3 : 40 < m - takesI c X + givesI X
          · have HA := Lib.hid (C_none (hr.out.trans (crun_stop (acc := acc) hlt (.inr (.inr (by rw [hX]; exact h3))))))
            refine wp_region_new (by kernel_rfl) (by kernel_rfl) ?_
            repeat (first | go_big_quiet_skip | go_big_quiet_step ((first | exact newq (HT.out X _ ((hb0.trans b3).trans (NewOf.property _)) h1))) | quiet_step ((first | exact newq (HT.out X _ ((hb0.trans b3).trans (NewOf.property _)) h1))))
            refine wpQuiet_nil ?_
            rintro ⟨w5, b5⟩
            dsimp only
            try with_reducible replace b5 := New.undrawN b5
            try with_reducible replace b5 := New.undraw b5
            obtain ⟨c5, f5⟩ := b5.rules
            have z5 := b5.size
            try simp only [World.size_alloc, World.size_drew, World.heap_drewN, World.size_setCell] at z5
            go_wp2_with fail
            go_ret2
            rw [HA.out.1, HA.out.2]
            exact ⟨_, rfl, (by repeat (first | with_reducible exact New.refl _ | with_reducible assumption | with_reducible refine New.drew ?_ | with_reducible refine New.drewN ?_ _ | with_reducible refine New.alloc ?_ _ | with_reducible refine New.setCell ?_ (by first | (simp; done) | (simp; omega) | omega) _ | with_reducible refine New.trans ?_ (by with_reducible assumption))), World.ownsRow_nil _ _ _ _⟩
          · have HA := Lib.hid (hr.out.trans (crun_step (acc := acc) hlt (by rw [hX]; exact h1) (by rw [hX]; omega) (by rw [hX]; omega)))
            rw [hX] at HA
            refine wp_region_new (by kernel_rfl) (by kernel_rfl) ?_
            repeat (first | go_big_quiet_skip | go_big_quiet_step ((first | exact newq (HT.out X _ ((hb0.trans b3).trans (NewOf.property _)) h1))) | quiet_step ((first | exact newq (HT.out X _ ((hb0.trans b3).trans (NewOf.property _)) h1))))
            refine wpQuiet_nil ?_
            rintro ⟨w5, b5⟩
            dsimp only
            try with_reducible replace b5 := New.undrawN b5
            try with_reducible replace b5 := New.undraw b5
            obtain ⟨c5, f5⟩ := b5.rules
            have z5 := b5.size
            try simp only [World.size_alloc, World.size_drew, World.heap_drewN, World.size_setCell] at z5
            go_wp2_with (first | (at_builtin; refine wpList_append_own _ rfl _ _ 57 rfl (w.heap.size + 1) 2 i0 (.int .i64 0) 1 8 Tryz.underlying57 hi hz0 hz1 hz2 rfl (by decide) _ _ _ rfl ((own_new hown (b3.trans b5)).alloc _) ⟨w5.heap.size, 0, none⟩ 1 1 [.int .i64 (m - takesI c X + givesI X)] rfl rfl (by intro j u hj; match j, hj with | 0, hj => simp at hj; subst hj; first | (simp [Addr.add]; done) | exact alloc_one rfl) (by intro u hu; simp at hu; subst hu; rfl) (by unfold maxLen; omega) (by omega) (by first | (simp; done) | (simp; omega) | omega) ?_; intro va wa howna hgra _))
            have ba : New (w.alloc (.cells #[.int .i64 c.ins, .int .i64 c.vars, .int .i64 c.outs, bv, .slice (some ⟨b, off, none⟩) c.steps.length cap] 27)) wa := New.grown ((hb.trans (b3.trans b5)).alloc _) hgra (fun q hq => by have := (own_block_lt hown q hq).1; simpa using this)
            go_roundw
            case rel => exact ⟨k + 1, m - takesI c X + givesI X, acc ++ [m - takesI c X + givesI X], by omega, by go_num, rfl, by omega, by omega, by simp [hal], HA, by simpa using howna, ba⟩
            case measure => simp [intOf]; omega
      · have HA := Lib.hid (C_none (hr.out.trans (crun_stop (acc := acc) hlt (.inl (by rw [hX]; exact h1)))))
        go_wp2_with fail
        have hq := fun (n : NewOf wr) b o => NewOf.cell n b o
        refine wp_region_new (by kernel_rfl) (by kernel_rfl) ?_
        repeat (first | go_big_quiet_skip | go_big_quiet_step ((first | exact newq (HF.out X _ (hb0.trans (NewOf.property _))))) | quiet_step ((first | exact newq (HF.out X _ (hb0.trans (NewOf.property _))))))
        refine wpQuiet_nil ?_
        rintro ⟨w3, b3⟩
        dsimp only
        try with_reducible replace b3 := New.undrawN b3
        try with_reducible replace b3 := New.undraw b3
        obtain ⟨c3, f3⟩ := b3.rules
        have z3 := b3.size
        try simp only [World.size_alloc, World.size_drew, World.heap_drewN, World.size_setCell] at z3
        go_wp2_with fail
        go_ret2
        rw [HA.out.1, HA.out.2]
        exact ⟨_, rfl, (by repeat (first | with_reducible exact New.refl _ | with_reducible assumption | with_reducible refine New.drew ?_ | with_reducible refine New.drewN ?_ _ | with_reducible refine New.alloc ?_ _ | with_reducible refine New.setCell ?_ (by first | (simp; done) | (simp; omega) | omega) _ | with_reducible refine New.trans ?_ (by with_reducible assumption))), World.ownsRow_nil _ _ _ _⟩
    · obtain rfl : k = c.steps.length := by omega
      have HA := Lib.hid (C_some (hr.out.trans crun_end))
      go_wp2_with fail
      all_goals go_ret2
      all_goals rw [HA.out.1, HA.out.2]
      all_goals first | exact ⟨_, rfl, (by repeat (first | with_reducible exact New.refl _ | with_reducible assumption | with_reducible refine New.drew ?_ | with_reducible refine New.drewN ?_ _ | with_reducible refine New.alloc ?_ _ | with_reducible refine New.setCell ?_ (by first | (simp; done) | (simp; omega) | omega) _ | with_reducible refine New.trans ?_ (by with_reducible assumption))), own_base hown (by omega)⟩ | (refine ⟨_, ?_, (by repeat (first | with_reducible exact New.refl _ | with_reducible assumption | with_reducible refine New.drew ?_ | with_reducible refine New.drewN ?_ _ | with_reducible refine New.alloc ?_ _ | with_reducible refine New.setCell ?_ (by first | (simp; done) | (simp; omega) | omega) _ | with_reducible refine New.trans ?_ (by with_reducible assumption))), by simpa [hal] using own_base hown (by omega)⟩; simp_all)
set_option maxHeartbeats 2000000 in
theorem iStack_any (c : CodeD) (bv sv : Value) (w : World) (hc : SmallC c) (hb : RdT w bv c.blocks) (hs : RdN w sv c.steps) :
    Calls Tryz.prog 48 #[.agg #[.int .i64 c.ins, .int .i64 c.vars, .int .i64 c.outs, bv, sv]] w (RetIB w (stackOf c) (okC c)) := by
  obtain ⟨a, cap, rfl, hm, HC⟩ := Rd.flat encInstruction_len (by omega) hs
  clear hs
  have HB := Lib.hid hb; clear hb
  have hsl := hc.s1
  have zz : w.heap.size < w.heap.size + 1 + 1 := by omega
  have HSC := Lib.hid hc; clear hc
  have HT := Lib.hid (fun (x : EInstruction) (w' : World) (h : New w w') (hf : fitsC c x = true) => effect_any c x bv (.slice a c.steps.length cap) w' (HB.out.new h) hf)
  have HF := Lib.hid (fun (op : Int) (w' : World) (h : New w w') => many_any c bv (.slice a c.steps.length cap) op w' (HB.out.new h))
  obtain ⟨i0, hi, hz0, hz1, hz2⟩ := info_parts infoI64h
  go_enter Tryz.func48, Tryz.ntmps48
  go_wp2_with fail
  go_loopw [4, 5, 13] (fun o n i wr => ∃ (k : Nat) (m : Int) (acc : List Int), k ≤ c.steps.length ∧ i = .int .i64 k ∧ n = .int .i64 m ∧ 0 ≤ m ∧ m ≤ k ∧ acc.length = k ∧ Hid (crun c c.steps 0 [] = crun c (c.steps.drop k) m acc) ∧ wr.ownsRow (w.heap.size + 1) 2 1 o acc.length (acc.map (Value.int .i64)) ∧ New (w.alloc (.cells #[.int .i64 c.ins, .int .i64 c.vars, .int .i64 c.outs, bv, .slice a c.steps.length cap] 27)) wr) (fun _ _ i _ => c.steps.length - (intOf i).toNat)
  case atStart => exact ⟨0, 0, [], Nat.zero_le _, rfl, rfl, by omega, by omega, rfl, Lib.hid (by simp), World.ownsRow_nil _ _ _ _, (by repeat (first | with_reducible exact New.refl _ | with_reducible assumption | with_reducible refine New.drew ?_ | with_reducible refine New.drewN ?_ _ | with_reducible refine New.alloc ?_ _ | with_reducible refine New.setCell ?_ (by first | (simp; done) | (simp; omega) | omega) _ | with_reducible refine New.trans ?_ (by with_reducible assumption)))⟩
  case round =>
    obtain ⟨k, m, acc, hk, rfl, rfl, hm0, hm1, hal, hr, hown, hb⟩ := hrel
    obtain ⟨cc, f'⟩ := hb.rules
    have hbz := hb.size
    simp only [World.size_alloc] at hbz
    have hb0 : New w wr := ((New.refl w).alloc _).trans hb
    by_cases hlt : k < c.steps.length
    · obtain ⟨b, off, rfl, hbl, hx⟩ := HC.out k hlt
      have x0 := hx 0 _ (by omega) rfl
      have x1 := hx 1 _ (by omega) rfl
      rw [Nat.add_zero] at x0
      replace hx := Lib.hid hx
      have hbw : b < wr.heap.size := by omega
      have hww : w.heap.size < wr.heap.size := by omega
      have hbw1 : b < w.heap.size + 1 := by omega
      have hww1 : w.heap.size < wr.heap.size + 1 := by omega
      have htb := takesI_bd c c.steps[k]
      have hgb := givesI_bd c.steps[k]
      generalize hX : c.steps[k] = X at *
      go_wp2_with fail
      by_cases ha : X.arg < 0
      · have h1 : fitsC c X = false := by rw [fitsC]; simp; omega
        have HA := Lib.hid (C_none (hr.out.trans (crun_stop (acc := acc) hlt (.inl (by rw [hX]; exact h1)))))
        have hq := fun (n : NewOf (wr.alloc (.cells #[.int .i64 X.op, .int .i64 X.arg] 70))) b o => NewOf.cell n b o
        refine wp_region_new (by kernel_rfl) (by kernel_rfl) ?_
        repeat (first | go_big_quiet_skip | go_big_quiet_step ((first | exact newq (HF.out X.op _ ((hb0.alloc _).trans (NewOf.property _))))) | quiet_step ((first | exact newq (HF.out X.op _ ((hb0.alloc _).trans (NewOf.property _))))))
        refine wpQuiet_nil ?_
        rintro ⟨w3, b3⟩
        dsimp only
        try with_reducible replace b3 := New.undrawN b3
        try with_reducible replace b3 := New.undraw b3
        obtain ⟨c3, f3⟩ := b3.rules
        have z3 := b3.size
        try simp only [World.size_alloc, World.size_drew, World.heap_drewN, World.size_setCell] at z3
        have z3_0 : w.heap.size < w3.heap.size := by omega
        have z3_1 : b < w3.heap.size := by omega
        have z3_2 : wr.heap.size < w3.heap.size := by omega
        go_wp2_with fail
        go_ret2
        rw [HA.out.1, HA.out.2]
        exact ⟨_, rfl, (by repeat (first | with_reducible exact New.refl _ | with_reducible assumption | with_reducible refine New.drew ?_ | with_reducible refine New.drewN ?_ _ | with_reducible refine New.alloc ?_ _ | with_reducible refine New.setCell ?_ (by first | (simp; done) | (simp; omega) | omega) _ | with_reducible refine New.trans ?_ (by with_reducible assumption))), World.ownsRow_nil _ _ _ _⟩
      · by_cases ha2 : X.arg < manyOf c X.op
        · have h1 : fitsC c X = true := by rw [fitsC]; simp; omega
          have hq := fun (n : NewOf (wr.alloc (.cells #[.int .i64 X.op, .int .i64 X.arg] 70))) b o => NewOf.cell n b o
          refine wp_region_new (by kernel_rfl) (by kernel_rfl) ?_
          repeat (first | go_big_quiet_skip | go_big_quiet_step ((first | exact newq (HF.out X.op _ ((hb0.alloc _).trans (NewOf.property _))))) | quiet_step ((first | exact newq (HF.out X.op _ ((hb0.alloc _).trans (NewOf.property _))))))
          refine wpQuiet_nil ?_
          rintro ⟨w3, b3⟩
          dsimp only
          try with_reducible replace b3 := New.undrawN b3
          try with_reducible replace b3 := New.undraw b3
          obtain ⟨c3, f3⟩ := b3.rules
          have z3 := b3.size
          try simp only [World.size_alloc, World.size_drew, World.heap_drewN, World.size_setCell] at z3
          have z3_0 : w.heap.size < w3.heap.size := by omega
          have z3_1 : b < w3.heap.size := by omega
          have z3_2 : wr.heap.size < w3.heap.size := by omega
          go_wp2_with fail
          have ha3 : ¬ manyOf c X.op ≤ X.arg := by omega
          by_cases h2 : m < takesI c X
          · have HA := Lib.hid (C_none (hr.out.trans (crun_stop (acc := acc) hlt (.inr (.inl (by rw [hX]; exact h2))))))
            refine (HT.out X _ ((hb0.alloc _).trans b3) h1).mono ?_; rintro e w5 ⟨rfl, b5⟩
            try with_reducible replace b5 := New.undrawN b5
            try with_reducible replace b5 := New.undraw b5
            obtain ⟨c5, f5⟩ := b5.rules
            have z5 := b5.size
            try simp only [World.size_alloc, World.size_drew, World.heap_drewN, World.size_setCell] at z5
            have z5_0 : wr.heap.size < w5.heap.size := by omega
            go_wp2_with fail
            go_ret2
            rw [HA.out.1, HA.out.2]
            exact ⟨_, rfl, (by repeat (first | with_reducible exact New.refl _ | with_reducible assumption | with_reducible refine New.drew ?_ | with_reducible refine New.drewN ?_ _ | with_reducible refine New.alloc ?_ _ | with_reducible refine New.setCell ?_ (by first | (simp; done) | (simp; omega) | omega) _ | with_reducible refine New.trans ?_ (by with_reducible assumption))), World.ownsRow_nil _ _ _ _⟩
          · by_cases h3 : 40 < m - takesI c X + givesI X
            · have HA := Lib.hid (C_none (hr.out.trans (crun_stop (acc := acc) hlt (.inr (.inr (by rw [hX]; exact h3))))))
              refine (HT.out X _ ((hb0.alloc _).trans b3) h1).mono ?_; rintro e w5 ⟨rfl, b5⟩
              try with_reducible replace b5 := New.undrawN b5
              try with_reducible replace b5 := New.undraw b5
              obtain ⟨c5, f5⟩ := b5.rules
              have z5 := b5.size
              try simp only [World.size_alloc, World.size_drew, World.heap_drewN, World.size_setCell] at z5
              have z5_0 : wr.heap.size < w5.heap.size := by omega
              go_wp2_with fail
              go_ret2
              rw [HA.out.1, HA.out.2]
              exact ⟨_, rfl, (by repeat (first | with_reducible exact New.refl _ | with_reducible assumption | with_reducible refine New.drew ?_ | with_reducible refine New.drewN ?_ _ | with_reducible refine New.alloc ?_ _ | with_reducible refine New.setCell ?_ (by first | (simp; done) | (simp; omega) | omega) _ | with_reducible refine New.trans ?_ (by with_reducible assumption))), World.ownsRow_nil _ _ _ _⟩
            · have HA := Lib.hid (hr.out.trans (crun_step (acc := acc) hlt (by rw [hX]; exact h1) (by rw [hX]; omega) (by rw [hX]; omega)))
              rw [hX] at HA
              have hG : m - takesI c X + givesI X = m + (givesI X - takesI c X) := by omega
              rw [hG] at HA h3
              refine (HT.out X _ ((hb0.alloc _).trans b3) h1).mono ?_; rintro e w5 ⟨rfl, b5⟩
              try with_reducible replace b5 := New.undrawN b5
              try with_reducible replace b5 := New.undraw b5
              obtain ⟨c5, f5⟩ := b5.rules
              have z5 := b5.size
              try simp only [World.size_alloc, World.size_drew, World.heap_drewN, World.size_setCell] at z5
              have z5_0 : wr.heap.size < w5.heap.size := by omega
              go_wp2_with (first | (at_builtin; refine wpList_append_own _ rfl _ _ 57 rfl (w.heap.size + 1) 2 i0 (.int .i64 0) 1 8 Tryz.underlying57 hi hz0 hz1 hz2 rfl (by decide) _ _ _ rfl ((own_new (hown.alloc _) (b3.trans b5)).alloc _) ⟨w5.heap.size, 0, none⟩ 1 1 [.int .i64 (m + (givesI X - takesI c X))] rfl rfl (by intro j u hj; match j, hj with | 0, hj => simp at hj; subst hj; first | (simp [Addr.add]; done) | exact alloc_one rfl) (by intro u hu; simp at hu; subst hu; rfl) (by unfold maxLen; omega) (by omega) (by first | (simp; done) | (simp; omega) | omega) ?_; intro va wa howna hgra _))
              have ba : New (w.alloc (.cells #[.int .i64 c.ins, .int .i64 c.vars, .int .i64 c.outs, bv, .slice (some ⟨b, off, none⟩) c.steps.length cap] 27)) wa := New.grown (((hb.alloc _).trans (b3.trans b5)).alloc _) hgra (fun q hq => by have := (own_block_lt hown q hq).1; simpa using this)
              go_roundw
              case rel => exact ⟨k + 1, m + (givesI X - takesI c X), acc ++ [m + (givesI X - takesI c X)], by omega, by go_num, by go_num, by omega, by omega, by simp [hal], HA, by simpa using howna, ba⟩
              case measure => simp [intOf]; omega
        · have h1 : fitsC c X = false := by rw [fitsC]; simp; omega
          have HA := Lib.hid (C_none (hr.out.trans (crun_stop (acc := acc) hlt (.inl (by rw [hX]; exact h1)))))
          have ha3 : manyOf c X.op ≤ X.arg := by omega
          have hq := fun (n : NewOf (wr.alloc (.cells #[.int .i64 X.op, .int .i64 X.arg] 70))) b o => NewOf.cell n b o
          refine wp_region_new (by kernel_rfl) (by kernel_rfl) ?_
          repeat (first | go_big_quiet_skip | go_big_quiet_step ((first | exact newq (HF.out X.op _ ((hb0.alloc _).trans (NewOf.property _))))) | quiet_step ((first | exact newq (HF.out X.op _ ((hb0.alloc _).trans (NewOf.property _))))))
          refine wpQuiet_nil ?_
          rintro ⟨w3, b3⟩
          dsimp only
          try with_reducible replace b3 := New.undrawN b3
          try with_reducible replace b3 := New.undraw b3
          obtain ⟨c3, f3⟩ := b3.rules
          have z3 := b3.size
          try simp only [World.size_alloc, World.size_drew, World.heap_drewN, World.size_setCell] at z3
          have z3_0 : w.heap.size < w3.heap.size := by omega
          have z3_1 : b < w3.heap.size := by omega
          have z3_2 : wr.heap.size < w3.heap.size := by omega
          go_wp2_with fail
          go_ret2
          rw [HA.out.1, HA.out.2]
          exact ⟨_, rfl, (by repeat (first | with_reducible exact New.refl _ | with_reducible assumption | with_reducible refine New.drew ?_ | with_reducible refine New.drewN ?_ _ | with_reducible refine New.alloc ?_ _ | with_reducible refine New.setCell ?_ (by first | (simp; done) | (simp; omega) | omega) _ | with_reducible refine New.trans ?_ (by with_reducible assumption))), World.ownsRow_nil _ _ _ _⟩
    · obtain rfl : k = c.steps.length := by omega
      have HA := Lib.hid (C_some (hr.out.trans crun_end))
      go_wp2_with fail
      all_goals go_ret2
      all_goals rw [HA.out.1, HA.out.2]
      all_goals first | exact ⟨_, rfl, (by repeat (first | with_reducible exact New.refl _ | with_reducible assumption | with_reducible refine New.drew ?_ | with_reducible refine New.drewN ?_ _ | with_reducible refine New.alloc ?_ _ | with_reducible refine New.setCell ?_ (by first | (simp; done) | (simp; omega) | omega) _ | with_reducible refine New.trans ?_ (by with_reducible assumption))), own_base hown (by omega)⟩ | (refine ⟨_, ?_, (by repeat (first | with_reducible exact New.refl _ | with_reducible assumption | with_reducible refine New.drew ?_ | with_reducible refine New.drewN ?_ _ | with_reducible refine New.alloc ?_ _ | with_reducible refine New.setCell ?_ (by first | (simp; done) | (simp; omega) | omega) _ | with_reducible refine New.trans ?_ (by with_reducible assumption))), by simpa [hal] using own_base hown (by omega)⟩; simp_all)
end Go.Proofs.YteielmihlfakgaaGreatDoor
/- Contracts: is a code valid. -/
namespace Go.Proofs.YteielmihlfakgaaGreatDoor
open Go Go.Proofs Go.RowKit
set_option linter.unusedVariables false
set_option linter.unusedSimpArgs false
set_option maxRecDepth 100000
def smallB (c : CodeD) : Bool := inB c.ins 0 20 && inB c.vars 0 20 && inB c.outs 0 20 && decide (c.blocks.length ≤ 2000) && decide (c.steps.length ≤ 2000)
theorem small_of {c : CodeD} (h : smallB c = true) : SmallC c := by
  rw [smallB] at h; simp [inB] at h
  obtain ⟨⟨⟨⟨⟨a1, a2⟩, a3, a4⟩, a5, a6⟩, a7⟩, a8⟩ := h
  exact ⟨a1, a2, a3, a4, a5, a6, a7, a8⟩
def isBlkE (t : ETerm) : Bool := isBlk t.kind t.name t.num
def isCodeB (c : CodeD) : Bool := smallB c && !(c.blocks.any fun t => !isBlkE t) && okC c
set_option maxHeartbeats 2000000 in
theorem sIsCode_any (c : CodeD) (bv sv : Value) (w : World) (hb : RdT w bv c.blocks) (hs : RdN w sv c.steps) (hf : ∀ x ∈ c.blocks, fitTerm x) :
    Calls Tryz.prog 39 #[.agg #[.int .i64 c.ins, .int .i64 c.vars, .int .i64 c.outs, bv, sv]] w fun e w' => e = .returned (.bool (isCodeB c)) ∧ New w w' := by
  have HB := Lib.hid hb
  have HS := Lib.hid hs
  have HF := Lib.hid hf; clear hf
  obtain ⟨sa, scap, rfl, hsm, _⟩ := id hs
  obtain ⟨a, cap, rfl, hm, HC⟩ := Rd.flat encTerm_len (by omega) hb
  clear hb hs
  rcases Bool.eq_false_or_eq_true (smallB c) with h0 | h0
  · have hsc := small_of h0
    have HSC := Lib.hid hsc
    obtain ⟨hi0, hi1, hv0, hv1, ho0, ho1, hbl, hsl⟩ := hsc
    have e1 : inB c.ins 0 20 = true := by simp [inB, hi0, hi1]
    have e2 : inB c.vars 0 20 = true := by simp [inB, hv0, hv1]
    have e3 : inB c.outs 0 20 = true := by simp [inB, ho0, ho1]
    have HA := Lib.hid (sStack_any c (.slice a c.blocks.length cap) (.slice sa c.steps.length scap))
    go_enter Tryz.func39, Tryz.ntmps39
    go_wp2_with (first | (go_at_call 40; refine (l01In_any _ _ _ _).mono ?_; rintro e _ ⟨rfl, rfl⟩))
    go_loopw [3] (fun i wr => ∃ k : Nat, k ≤ c.blocks.length ∧ i = .int .i64 k ∧ Hid ((c.blocks.take k).findIdx? (fun t => !isBlkE t) = none) ∧ New (w.alloc (.cells #[.int .i64 c.ins, .int .i64 c.vars, .int .i64 c.outs, .slice a c.blocks.length cap, .slice sa c.steps.length scap] 27)) wr) (fun i _ => c.blocks.length - (intOf i).toNat)
    case atStart => exact ⟨0, Nat.zero_le _, rfl, rfl, (by repeat (first | with_reducible exact New.refl _ | with_reducible assumption | with_reducible refine New.drew ?_ | with_reducible refine New.drewN ?_ _ | with_reducible refine New.alloc ?_ _ | with_reducible refine New.setCell ?_ (by first | (simp; done) | (simp; omega) | omega) _ | with_reducible refine New.trans ?_ (by with_reducible assumption)))⟩
    case round =>
      obtain ⟨k, hk, rfl, hpre, hb⟩ := hrel
      obtain ⟨cc, f'⟩ := hb.rules
      have hbz := hb.size
      simp only [World.size_alloc] at hbz
      have hb0 : New w wr := ((New.refl w).alloc _).trans hb
      have hww : w.heap.size < wr.heap.size := by omega
      by_cases hlt : k < c.blocks.length
      · obtain ⟨b, off, rfl, hbl', hx⟩ := HC.out k hlt
        have x0 := hx 0 _ (by omega) rfl
        have x1 := hx 1 _ (by omega) rfl
        have x2 := hx 2 _ (by omega) rfl
        rw [Nat.add_zero] at x0
        replace hx := Lib.hid hx
        have hbw : b < wr.heap.size := by omega
        have hbw1 : b < w.heap.size + 1 := by omega
        have HX := Lib.hid (HF.out c.blocks[k] (List.getElem_mem hlt))
        have HT := Lib.hid (take_find hlt hpre.out)
        rcases Bool.eq_false_or_eq_true (isBlkE c.blocks[k]) with h1 | h1
        · have HA' := Lib.hid (HT.out.2 (by rw [h1]; rfl))
          simp only [isBlkE] at h1
          go_wp2_with fail
          refine (sIsBlock_any _ _ _ _ HX.out).mono ?_; rintro e w3 ⟨rfl, b3⟩
          try with_reducible replace b3 := New.undrawN b3
          try with_reducible replace b3 := New.undraw b3
          obtain ⟨c3, f3⟩ := b3.rules
          have z3 := b3.size
          try simp only [World.size_alloc, World.size_drew, World.heap_drewN, World.size_setCell] at z3
          go_wp2_with fail
          go_roundw
          case rel => exact ⟨k + 1, by omega, by go_num, HA', hb.trans b3⟩
          case measure => simp [intOf]; omega
        · have HA' := Lib.hid (HT.out.1 (by rw [h1]; rfl))
          simp only [isBlkE] at h1
          go_wp2_with fail
          refine (sIsBlock_any _ _ _ _ HX.out).mono ?_; rintro e w3 ⟨rfl, b3⟩
          try with_reducible replace b3 := New.undrawN b3
          try with_reducible replace b3 := New.undraw b3
          obtain ⟨c3, f3⟩ := b3.rules
          have z3 := b3.size
          try simp only [World.size_alloc, World.size_drew, World.heap_drewN, World.size_setCell] at z3
          go_wp2_with fail
          go_ret
          refine ⟨ret_bool ?_, (by repeat (first | with_reducible exact New.refl _ | with_reducible assumption | with_reducible refine New.drew ?_ | with_reducible refine New.drewN ?_ _ | with_reducible refine New.alloc ?_ _ | with_reducible refine New.setCell ?_ (by first | (simp; done) | (simp; omega) | omega) _ | with_reducible refine New.trans ?_ (by with_reducible assumption)))⟩
          have : (c.blocks.any fun t => !isBlkE t) = true := by rw [← idx_any, idx_some HA'.out]; simp
          rw [isCodeB, this]; simp
      · obtain rfl : k = c.blocks.length := by omega
        go_wp2_with fail
        refine (HA.out _ HSC.out (Rd.new HB.out (by repeat (first | with_reducible exact New.refl _ | with_reducible assumption | with_reducible refine New.drew ?_ | with_reducible refine New.drewN ?_ _ | with_reducible refine New.alloc ?_ _ | with_reducible refine New.setCell ?_ (by first | (simp; done) | (simp; omega) | omega) _ | with_reducible refine New.trans ?_ (by with_reducible assumption)))) (Rd.new HS.out (by repeat (first | with_reducible exact New.refl _ | with_reducible assumption | with_reducible refine New.drew ?_ | with_reducible refine New.drewN ?_ _ | with_reducible refine New.alloc ?_ _ | with_reducible refine New.setCell ?_ (by first | (simp; done) | (simp; omega) | omega) _ | with_reducible refine New.trans ?_ (by with_reducible assumption))))).mono ?_; rintro e w3 ⟨r, rfl, b3, own3⟩
        go_wp2_with fail
        go_ret
        refine ⟨ret_bool ?_, (by repeat (first | with_reducible exact New.refl _ | with_reducible assumption | with_reducible refine New.drew ?_ | with_reducible refine New.drewN ?_ _ | with_reducible refine New.alloc ?_ _ | with_reducible refine New.setCell ?_ (by first | (simp; done) | (simp; omega) | omega) _ | with_reducible refine New.trans ?_ (by with_reducible assumption)))⟩
        have : (c.blocks.any fun t => !isBlkE t) = false := by rw [← idx_any, idx_none (by have := hpre.out; rwa [List.take_length] at this)]; rfl
        rw [isCodeB, this, h0]; simp
  · have HZ := Lib.hid (show isCodeB c = false by rw [isCodeB, h0]; simp)
    rw [smallB] at h0
    go_enter Tryz.func39, Tryz.ntmps39
    go_wp2_with (first | (go_at_call 40; refine (l01In_any _ _ _ _).mono ?_; rintro e _ ⟨rfl, rfl⟩))
    all_goals first | (go_ret; exact ⟨ret_bool HZ.out.symm, (by repeat (first | with_reducible exact New.refl _ | with_reducible assumption | with_reducible refine New.drew ?_ | with_reducible refine New.drewN ?_ _ | with_reducible refine New.alloc ?_ _ | with_reducible refine New.setCell ?_ (by first | (simp; done) | (simp; omega) | omega) _ | with_reducible refine New.trans ?_ (by with_reducible assumption)))⟩) | skip
    all_goals (exfalso; simp_all; omega)
theorem iIsCode1_any (x : ETerm) (w : World) (hf : fitTerm x) (hk : KW w) :
    Calls Tryz.prog 46 #[.agg #[.int .i64 x.kind, .string x.name, .int .i64 x.num]] w fun e w' => e = .returned (.bool (!isBlkE x)) ∧ New w w' := by
  have HK := Lib.hid hk; clear hk
  go_enter Tryz.func46, Tryz.ntmps46
  go_wp2_with fail
  refine (iIsBlock_any _ _ _ _ hf (HK.out.new (by repeat (first | with_reducible exact New.refl _ | with_reducible assumption | with_reducible refine New.drew ?_ | with_reducible refine New.drewN ?_ _ | with_reducible refine New.alloc ?_ _ | with_reducible refine New.setCell ?_ (by first | (simp; done) | (simp; omega) | omega) _ | with_reducible refine New.trans ?_ (by with_reducible assumption))))).mono ?_; rintro e w1 ⟨rfl, b1⟩
  try with_reducible replace b1 := New.undrawN b1
  try with_reducible replace b1 := New.undraw b1
  obtain ⟨c1, f1⟩ := b1.rules
  have z1 := b1.size
  try simp only [World.size_alloc, World.size_drew, World.heap_drewN, World.size_setCell] at z1
  go_wp2_with fail
  go_ret
  exact ⟨rfl, (by repeat (first | with_reducible exact New.refl _ | with_reducible assumption | with_reducible refine New.drew ?_ | with_reducible refine New.drewN ?_ _ | with_reducible refine New.alloc ?_ _ | with_reducible refine New.setCell ?_ (by first | (simp; done) | (simp; omega) | omega) _ | with_reducible refine New.trans ?_ (by with_reducible assumption)))⟩
set_option maxHeartbeats 2000000 in
theorem iIsCode_any (c : CodeD) (bv sv : Value) (w : World) (hb : RdT w bv c.blocks) (hs : RdN w sv c.steps) (hf : ∀ x ∈ c.blocks, fitTerm x) (hk : KW w) :
    Calls Tryz.prog 16 #[.agg #[.int .i64 c.ins, .int .i64 c.vars, .int .i64 c.outs, bv, sv]] w fun e w' => e = .returned (.bool (isCodeB c)) ∧ New w w' := by
  have HB := Lib.hid hb
  have HS := Lib.hid hs
  have HF := Lib.hid hf; clear hf
  have HK := Lib.hid hk; clear hk
  obtain ⟨sa, scap, rfl, hsm, _⟩ := id hs
  obtain ⟨a, cap, rfl, hm, _⟩ := id hb
  clear hb hs
  rcases Bool.eq_false_or_eq_true (smallB c) with h0 | h0
  · have hsc := small_of h0
    have HSC := Lib.hid hsc
    obtain ⟨hi0, hi1, hv0, hv1, ho0, ho1, hbl, hsl⟩ := hsc
    have e1 : inB c.ins 0 20 = true := by simp [inB, hi0, hi1]
    have e2 : inB c.vars 0 20 = true := by simp [inB, hv0, hv1]
    have e3 : inB c.outs 0 20 = true := by simp [inB, ho0, ho1]
    have HA := Lib.hid (iStack_any c (.slice a c.blocks.length cap) (.slice sa c.steps.length scap))
    have HCF := Lib.hid (containsFuncTerm_any 46 #[] (fun t => !isBlkE t) (.slice a c.blocks.length cap) c.blocks)
    rcases Bool.eq_false_or_eq_true (c.blocks.any fun t => !isBlkE t) with h1 | h1
    · go_enter Tryz.func16, Tryz.ntmps16
      go_wp2_with (first | (go_at_call 37; refine (within_any _ _ _ _).mono ?_; rintro e _ ⟨rfl, rfl⟩))
      refine (HCF.out _ (Rd.new HB.out (by repeat (first | with_reducible exact New.refl _ | with_reducible assumption | with_reducible refine New.drew ?_ | with_reducible refine New.drewN ?_ _ | with_reducible refine New.alloc ?_ _ | with_reducible refine New.setCell ?_ (by first | (simp; done) | (simp; omega) | omega) _ | with_reducible refine New.trans ?_ (by with_reducible assumption)))) (fun args w => by kernel_rfl) (fun x w1 hx hn => iIsCode1_any x w1 (HF.out x hx) (HK.out.new (New.trans (by repeat (first | with_reducible exact New.refl _ | with_reducible assumption | with_reducible refine New.drew ?_ | with_reducible refine New.drewN ?_ _ | with_reducible refine New.alloc ?_ _ | with_reducible refine New.setCell ?_ (by first | (simp; done) | (simp; omega) | omega) _ | with_reducible refine New.trans ?_ (by with_reducible assumption))) hn)))).mono ?_; rintro e w2 ⟨rfl, b2⟩
      rw [h1]
      go_wp2_with fail
      go_ret
      exact ⟨ret_bool (by rw [isCodeB, h1]; simp), (by repeat (first | with_reducible exact New.refl _ | with_reducible assumption | with_reducible refine New.drew ?_ | with_reducible refine New.drewN ?_ _ | with_reducible refine New.alloc ?_ _ | with_reducible refine New.setCell ?_ (by first | (simp; done) | (simp; omega) | omega) _ | with_reducible refine New.trans ?_ (by with_reducible assumption)))⟩
    · go_enter Tryz.func16, Tryz.ntmps16
      go_wp2_with (first | (go_at_call 37; refine (within_any _ _ _ _).mono ?_; rintro e _ ⟨rfl, rfl⟩))
      refine (HCF.out _ (Rd.new HB.out (by repeat (first | with_reducible exact New.refl _ | with_reducible assumption | with_reducible refine New.drew ?_ | with_reducible refine New.drewN ?_ _ | with_reducible refine New.alloc ?_ _ | with_reducible refine New.setCell ?_ (by first | (simp; done) | (simp; omega) | omega) _ | with_reducible refine New.trans ?_ (by with_reducible assumption)))) (fun args w => by kernel_rfl) (fun x w1 hx hn => iIsCode1_any x w1 (HF.out x hx) (HK.out.new (New.trans (by repeat (first | with_reducible exact New.refl _ | with_reducible assumption | with_reducible refine New.drew ?_ | with_reducible refine New.drewN ?_ _ | with_reducible refine New.alloc ?_ _ | with_reducible refine New.setCell ?_ (by first | (simp; done) | (simp; omega) | omega) _ | with_reducible refine New.trans ?_ (by with_reducible assumption))) hn)))).mono ?_; rintro e w2 ⟨rfl, b2⟩
      rw [h1]
      obtain ⟨c2, f2⟩ := b2.rules
      have z2 := b2.size
      simp only [World.size_alloc] at z2
      have z2_0 : w.heap.size < w2.heap.size := by omega
      go_wp2_with fail
      refine (HA.out _ HSC.out (Rd.new HB.out (by repeat (first | with_reducible exact New.refl _ | with_reducible assumption | with_reducible refine New.drew ?_ | with_reducible refine New.drewN ?_ _ | with_reducible refine New.alloc ?_ _ | with_reducible refine New.setCell ?_ (by first | (simp; done) | (simp; omega) | omega) _ | with_reducible refine New.trans ?_ (by with_reducible assumption)))) (Rd.new HS.out (by repeat (first | with_reducible exact New.refl _ | with_reducible assumption | with_reducible refine New.drew ?_ | with_reducible refine New.drewN ?_ _ | with_reducible refine New.alloc ?_ _ | with_reducible refine New.setCell ?_ (by first | (simp; done) | (simp; omega) | omega) _ | with_reducible refine New.trans ?_ (by with_reducible assumption))))).mono ?_; rintro e w3 ⟨r, rfl, b3, own3⟩
      go_wp2_with fail
      go_ret
      exact ⟨ret_bool (by rw [isCodeB, h0, h1]; simp), (by repeat (first | with_reducible exact New.refl _ | with_reducible assumption | with_reducible refine New.drew ?_ | with_reducible refine New.drewN ?_ _ | with_reducible refine New.alloc ?_ _ | with_reducible refine New.setCell ?_ (by first | (simp; done) | (simp; omega) | omega) _ | with_reducible refine New.trans ?_ (by with_reducible assumption)))⟩
  · have HZ := Lib.hid (show isCodeB c = false by rw [isCodeB, h0]; simp)
    rw [smallB] at h0
    go_enter Tryz.func16, Tryz.ntmps16
    go_wp2_with (first | (go_at_call 37; refine (within_any _ _ _ _).mono ?_; rintro e _ ⟨rfl, rfl⟩))
    all_goals first | (go_ret; exact ⟨ret_bool HZ.out.symm, (by repeat (first | with_reducible exact New.refl _ | with_reducible assumption | with_reducible refine New.drew ?_ | with_reducible refine New.drewN ?_ _ | with_reducible refine New.alloc ?_ _ | with_reducible refine New.setCell ?_ (by first | (simp; done) | (simp; omega) | omega) _ | with_reducible refine New.trans ?_ (by with_reducible assumption)))⟩) | skip
    all_goals (exfalso; simp_all; omega)
end Go.Proofs.YteielmihlfakgaaGreatDoor
/- Contracts: the laws' helpers on codes; steps counted; the heights of the stack. -/
namespace Go.Proofs.YteielmihlfakgaaGreatDoor
open Go Go.Proofs Go.RowKit
set_option linter.unusedVariables false
set_option linter.unusedSimpArgs false
set_option maxRecDepth 100000
/-- A code's value. -/
abbrev valC (c : CodeD) (bv sv : Value) : Value := .agg #[.int .i64 c.ins, .int .i64 c.vars, .int .i64 c.outs, bv, sv]
def szC (c : CodeD) (left : Int) : Int := if szTermS c.blocks left < 0 then -1 else szL c.steps.length (szTermS c.blocks left)
theorem szC_bd (c : CodeD) (left : Int) (h : 0 ≤ left) : -1 ≤ szC c left ∧ szC c left ≤ left := by
  have h1 := szTermS_bd c.blocks left h
  rw [szC]; split
  · omega
  · have := szL_range (n := c.steps.length) (left := szTermS c.blocks left) (B := left) (by omega) (by omega); omega
theorem szC_fit (c : CodeD) (left : Int) (h : 0 ≤ left) (h' : left ≤ 1048576) (h2 : 0 ≤ szC c left) : (∀ x ∈ c.blocks, fitTerm x) ∧ c.blocks.length ≤ 1048576 ∧ c.steps.length ≤ 1048576 := by
  have h1 := szTermS_bd c.blocks left h
  rw [szC] at h2; split at h2
  · omega
  · have := szL_bd h2
    exact ⟨szTermS_fit c.blocks left h h' (by omega), by have := h1.2.2 (by omega); omega, by omega⟩
def stepsC (c : CodeD) (op : Int) : Int × Int := if isCodeB c = true then (if inB op 1 11 = true then (((c.steps.countP fun x => x.op == op : Nat) : Int), 0) else (0, 2)) else (0, 1)
theorem count_next {α : Type} (p : α → Bool) (xs : List α) (k : Nat) (h : k < xs.length) : (xs.take (k + 1)).countP p = (xs.take k).countP p + (if p xs[k] = true then 1 else 0) := by
  rw [List.take_succ_eq_append_getElem h, List.countP_append, List.countP_singleton]
theorem count_le {α : Type} (p : α → Bool) (xs : List α) (k : Nat) : (xs.take k).countP p ≤ xs.length := by
  refine Nat.le_trans List.countP_le_length ?_
  rw [List.length_take]; omega
set_option maxHeartbeats 1000000 in
theorem sCountSteps_any (c : CodeD) (op : Int) (bv sv : Value) (w : World) (hb : RdT w bv c.blocks) (hs : RdN w sv c.steps) (hf : ∀ x ∈ c.blocks, fitTerm x) (hsl : c.steps.length ≤ 1048576) :
    Calls Tryz.prog 13 #[valC c bv sv, .int .i64 op] w fun e w' => e = .returned (.tuple #[.int .i64 (stepsC c op).1, .int .i64 (stepsC c op).2]) ∧ New w w' := by
  have HB := Lib.hid hb; clear hb
  have HS := Lib.hid hs
  obtain ⟨a, cap, rfl, hm, HC⟩ := Rd.flat encInstruction_len (by omega) hs
  clear hs
  rcases Bool.eq_false_or_eq_true (isCodeB c) with h1 | h1
  · rcases Bool.eq_false_or_eq_true (inB op 1 11) with h2 | h2
    · have HZ := Lib.hid (show stepsC c op = (((c.steps.countP fun x => x.op == op : Nat) : Int), 0) by rw [stepsC, if_pos h1, if_pos h2])
      rw [HZ.out]
      go_enter Tryz.func13, Tryz.ntmps13
      go_wp2_with fail
      refine (sIsCode_any c bv _ _ (Rd.new HB.out (by repeat (first | with_reducible exact New.refl _ | with_reducible assumption | with_reducible refine New.drew ?_ | with_reducible refine New.drewN ?_ _ | with_reducible refine New.alloc ?_ _ | with_reducible refine New.setCell ?_ (by first | (simp; done) | (simp; omega) | omega) _ | with_reducible refine New.trans ?_ (by with_reducible assumption)))) (Rd.new HS.out (by repeat (first | with_reducible exact New.refl _ | with_reducible assumption | with_reducible refine New.drew ?_ | with_reducible refine New.drewN ?_ _ | with_reducible refine New.alloc ?_ _ | with_reducible refine New.setCell ?_ (by first | (simp; done) | (simp; omega) | omega) _ | with_reducible refine New.trans ?_ (by with_reducible assumption)))) hf).mono ?_; rintro e w1 ⟨rfl, b1⟩
      try with_reducible replace b1 := New.undrawN b1
      try with_reducible replace b1 := New.undraw b1
      obtain ⟨c1, f1⟩ := b1.rules
      have z1 := b1.size
      try simp only [World.size_alloc, World.size_drew, World.heap_drewN, World.size_setCell] at z1
      have z1_0 : w.heap.size < w1.heap.size := by omega
      go_wp2_with (first | (go_at_call 40; refine (l01In_any _ _ _ _).mono ?_; rintro e _ ⟨rfl, rfl⟩))
      go_loop [6, 7] (fun n i => ∃ k : Nat, k ≤ c.steps.length ∧ i = .int .i64 k ∧ n = .int .i64 ((c.steps.take k).countP fun x => x.op == op : Nat)) (fun _ i => c.steps.length - (intOf i).toNat)
      case atStart => exact ⟨0, Nat.zero_le _, rfl, by simp⟩
      case round =>
        obtain ⟨k, hk, rfl, rfl⟩ := hrel
        by_cases hlt : k < c.steps.length
        · obtain ⟨b, off, rfl, hbl, hx⟩ := HC.out k hlt
          have x0 := hx 0 _ (by omega) rfl
          rw [Nat.add_zero] at x0
          replace hx := Lib.hid hx
          have hbw : b < w1.heap.size := by omega
          have hbw1 : b < w.heap.size + 1 := by omega
          have HN := Lib.hid (count_next (fun x : EInstruction => x.op == op) c.steps k hlt)
          have hle := count_le (fun x : EInstruction => x.op == op) c.steps k
          rcases Bool.eq_false_or_eq_true (c.steps[k].op == op) with h3 | h3
          · go_wp2_with fail
            go_round
            case rel => exact ⟨k + 1, by omega, by go_num, by rw [HN.out, if_pos h3]; go_num⟩
            case measure => simp [intOf]; omega
          · go_wp2_with fail
            go_round
            case rel => exact ⟨k + 1, by omega, by go_num, by rw [HN.out, if_neg (by rw [h3]; simp)]; go_num⟩
            case measure => simp [intOf]; omega
        · obtain rfl : k = c.steps.length := by omega
          go_wp2_with fail
          go_ret2
          refine ⟨?_, (by repeat (first | with_reducible exact New.refl _ | with_reducible assumption | with_reducible refine New.drew ?_ | with_reducible refine New.drewN ?_ _ | with_reducible refine New.alloc ?_ _ | with_reducible refine New.setCell ?_ (by first | (simp; done) | (simp; omega) | omega) _ | with_reducible refine New.trans ?_ (by with_reducible assumption)))⟩
          first | rfl | (rw [List.take_length]; rfl)
    · go_enter Tryz.func13, Tryz.ntmps13
      go_wp2_with fail
      refine (sIsCode_any c bv _ _ (Rd.new HB.out (by repeat (first | with_reducible exact New.refl _ | with_reducible assumption | with_reducible refine New.drew ?_ | with_reducible refine New.drewN ?_ _ | with_reducible refine New.alloc ?_ _ | with_reducible refine New.setCell ?_ (by first | (simp; done) | (simp; omega) | omega) _ | with_reducible refine New.trans ?_ (by with_reducible assumption)))) (Rd.new HS.out (by repeat (first | with_reducible exact New.refl _ | with_reducible assumption | with_reducible refine New.drew ?_ | with_reducible refine New.drewN ?_ _ | with_reducible refine New.alloc ?_ _ | with_reducible refine New.setCell ?_ (by first | (simp; done) | (simp; omega) | omega) _ | with_reducible refine New.trans ?_ (by with_reducible assumption)))) hf).mono ?_; rintro e w1 ⟨rfl, b1⟩
      try with_reducible replace b1 := New.undrawN b1
      try with_reducible replace b1 := New.undraw b1
      obtain ⟨c1, f1⟩ := b1.rules
      have z1 := b1.size
      try simp only [World.size_alloc, World.size_drew, World.heap_drewN, World.size_setCell] at z1
      have z1_0 : w.heap.size < w1.heap.size := by omega
      go_wp2_with (first | (go_at_call 40; refine (l01In_any _ _ _ _).mono ?_; rintro e _ ⟨rfl, rfl⟩))
      go_ret2
      refine ⟨?_, (by repeat (first | with_reducible exact New.refl _ | with_reducible assumption | with_reducible refine New.drew ?_ | with_reducible refine New.drewN ?_ _ | with_reducible refine New.alloc ?_ _ | with_reducible refine New.setCell ?_ (by first | (simp; done) | (simp; omega) | omega) _ | with_reducible refine New.trans ?_ (by with_reducible assumption)))⟩
      rw [stepsC, if_pos h1, if_neg (by rw [h2]; simp)]; rfl
  · go_enter Tryz.func13, Tryz.ntmps13
    go_wp2_with fail
    refine (sIsCode_any c bv _ _ (Rd.new HB.out (by repeat (first | with_reducible exact New.refl _ | with_reducible assumption | with_reducible refine New.drew ?_ | with_reducible refine New.drewN ?_ _ | with_reducible refine New.alloc ?_ _ | with_reducible refine New.setCell ?_ (by first | (simp; done) | (simp; omega) | omega) _ | with_reducible refine New.trans ?_ (by with_reducible assumption)))) (Rd.new HS.out (by repeat (first | with_reducible exact New.refl _ | with_reducible assumption | with_reducible refine New.drew ?_ | with_reducible refine New.drewN ?_ _ | with_reducible refine New.alloc ?_ _ | with_reducible refine New.setCell ?_ (by first | (simp; done) | (simp; omega) | omega) _ | with_reducible refine New.trans ?_ (by with_reducible assumption)))) hf).mono ?_; rintro e w1 ⟨rfl, b1⟩
    try with_reducible replace b1 := New.undrawN b1
    try with_reducible replace b1 := New.undraw b1
    obtain ⟨c1, f1⟩ := b1.rules
    have z1 := b1.size
    try simp only [World.size_alloc, World.size_drew, World.heap_drewN, World.size_setCell] at z1
    have z1_0 : w.heap.size < w1.heap.size := by omega
    go_wp2_with fail
    go_ret2
    refine ⟨?_, (by repeat (first | with_reducible exact New.refl _ | with_reducible assumption | with_reducible refine New.drew ?_ | with_reducible refine New.drewN ?_ _ | with_reducible refine New.alloc ?_ _ | with_reducible refine New.setCell ?_ (by first | (simp; done) | (simp; omega) | omega) _ | with_reducible refine New.trans ?_ (by with_reducible assumption)))⟩
    rw [stepsC, if_neg (by rw [h1]; simp)]; rfl
theorem truth_any (b : Bool) (w : World) : Calls Tryz.prog 38 #[.bool b] w fun e w' => e = .returned (.int .i64 (if b = true then 1 else 0)) ∧ w = w' := by
  go_enter Tryz.func38, Tryz.ntmps38
  cases b
  all_goals go_wp2_with fail
  all_goals first | (go_ret; exact ⟨rfl, rfl⟩) | (exfalso; simp_all; done)
set_option maxHeartbeats 1000000 in
theorem iCountSteps_any (c : CodeD) (op : Int) (bv sv : Value) (w : World) (hb : RdT w bv c.blocks) (hs : RdN w sv c.steps) (hf : ∀ x ∈ c.blocks, fitTerm x) (hsl : c.steps.length ≤ 1048576) (hk : KW w) :
    Calls Tryz.prog 12 #[valC c bv sv, .int .i64 op] w fun e w' => e = .returned (.tuple #[.int .i64 (stepsC c op).1, .int .i64 (stepsC c op).2]) ∧ New w w' := by
  have HB := Lib.hid hb; clear hb
  have HS := Lib.hid hs
  have HK := Lib.hid hk; clear hk
  obtain ⟨a, cap, rfl, hm, HC⟩ := Rd.flat encInstruction_len (by omega) hs
  clear hs
  rcases Bool.eq_false_or_eq_true (isCodeB c) with h1 | h1
  · rcases Bool.eq_false_or_eq_true (inB op 1 11) with h2 | h2
    · have HZ := Lib.hid (show stepsC c op = (((c.steps.countP fun x => x.op == op : Nat) : Int), 0) by rw [stepsC, if_pos h1, if_pos h2])
      rw [HZ.out]
      go_enter Tryz.func12, Tryz.ntmps12
      go_wp2_with fail
      refine (iIsCode_any c bv _ _ (Rd.new HB.out (by repeat (first | with_reducible exact New.refl _ | with_reducible assumption | with_reducible refine New.drew ?_ | with_reducible refine New.drewN ?_ _ | with_reducible refine New.alloc ?_ _ | with_reducible refine New.setCell ?_ (by first | (simp; done) | (simp; omega) | omega) _ | with_reducible refine New.trans ?_ (by with_reducible assumption)))) (Rd.new HS.out (by repeat (first | with_reducible exact New.refl _ | with_reducible assumption | with_reducible refine New.drew ?_ | with_reducible refine New.drewN ?_ _ | with_reducible refine New.alloc ?_ _ | with_reducible refine New.setCell ?_ (by first | (simp; done) | (simp; omega) | omega) _ | with_reducible refine New.trans ?_ (by with_reducible assumption)))) hf (HK.out.new (by repeat (first | with_reducible exact New.refl _ | with_reducible assumption | with_reducible refine New.drew ?_ | with_reducible refine New.drewN ?_ _ | with_reducible refine New.alloc ?_ _ | with_reducible refine New.setCell ?_ (by first | (simp; done) | (simp; omega) | omega) _ | with_reducible refine New.trans ?_ (by with_reducible assumption))))).mono ?_; rintro e w1 ⟨rfl, b1⟩
      try with_reducible replace b1 := New.undrawN b1
      try with_reducible replace b1 := New.undraw b1
      obtain ⟨c1, f1⟩ := b1.rules
      have z1 := b1.size
      try simp only [World.size_alloc, World.size_drew, World.heap_drewN, World.size_setCell] at z1
      have z1_0 : w.heap.size < w1.heap.size := by omega
      go_wp2_with (first | (go_at_call 37; refine (within_any _ _ _ _).mono ?_; rintro e _ ⟨rfl, rfl⟩))
      go_loopw [6, 20] (fun n i wr => ∃ k : Nat, k ≤ c.steps.length ∧ i = .int .i64 k ∧ n = .int .i64 ((c.steps.take k).countP fun x => x.op == op : Nat) ∧ New w wr) (fun _ i _ => c.steps.length - (intOf i).toNat)
      case atStart => exact ⟨0, Nat.zero_le _, rfl, by simp, (by repeat (first | with_reducible exact New.refl _ | with_reducible assumption | with_reducible refine New.drew ?_ | with_reducible refine New.drewN ?_ _ | with_reducible refine New.alloc ?_ _ | with_reducible refine New.setCell ?_ (by first | (simp; done) | (simp; omega) | omega) _ | with_reducible refine New.trans ?_ (by with_reducible assumption)))⟩
      case round =>
        obtain ⟨k, hk, rfl, rfl, hb⟩ := hrel
        obtain ⟨cc, f'⟩ := hb.rules
        have hbz := hb.size
        by_cases hlt : k < c.steps.length
        · obtain ⟨b, off, rfl, hbl, hx⟩ := HC.out k hlt
          have x0 := hx 0 _ (by omega) rfl
          have x1 := hx 1 _ (by omega) rfl
          rw [Nat.add_zero] at x0
          replace hx := Lib.hid hx
          have hbw : b < wr.heap.size := by omega
          have HN := Lib.hid (count_next (fun x : EInstruction => x.op == op) c.steps k hlt)
          have hle := count_le (fun x : EInstruction => x.op == op) c.steps k
          rcases Bool.eq_false_or_eq_true (c.steps[k].op == op) with h3 | h3
          · go_wp2_with (first | (go_at_call 38; refine (truth_any _ _).mono ?_; rintro e _ ⟨rfl, rfl⟩))
            go_roundw
            case rel => exact ⟨k + 1, by omega, by go_num, by rw [HN.out, if_pos h3]; go_num, (by repeat (first | with_reducible exact New.refl _ | with_reducible assumption | with_reducible refine New.drew ?_ | with_reducible refine New.drewN ?_ _ | with_reducible refine New.alloc ?_ _ | with_reducible refine New.setCell ?_ (by first | (simp; done) | (simp; omega) | omega) _ | with_reducible refine New.trans ?_ (by with_reducible assumption)))⟩
            case measure => simp [intOf]; omega
          · go_wp2_with (first | (go_at_call 38; refine (truth_any _ _).mono ?_; rintro e _ ⟨rfl, rfl⟩))
            go_roundw
            case rel => exact ⟨k + 1, by omega, by go_num, by rw [HN.out, if_neg (by rw [h3]; simp)]; go_num, (by repeat (first | with_reducible exact New.refl _ | with_reducible assumption | with_reducible refine New.drew ?_ | with_reducible refine New.drewN ?_ _ | with_reducible refine New.alloc ?_ _ | with_reducible refine New.setCell ?_ (by first | (simp; done) | (simp; omega) | omega) _ | with_reducible refine New.trans ?_ (by with_reducible assumption)))⟩
            case measure => simp [intOf]; omega
        · obtain rfl : k = c.steps.length := by omega
          go_wp2_with fail
          go_ret2
          refine ⟨?_, (by repeat (first | with_reducible exact New.refl _ | with_reducible assumption | with_reducible refine New.drew ?_ | with_reducible refine New.drewN ?_ _ | with_reducible refine New.alloc ?_ _ | with_reducible refine New.setCell ?_ (by first | (simp; done) | (simp; omega) | omega) _ | with_reducible refine New.trans ?_ (by with_reducible assumption)))⟩
          first | rfl | (rw [List.take_length]; rfl)
    · go_enter Tryz.func12, Tryz.ntmps12
      go_wp2_with fail
      refine (iIsCode_any c bv _ _ (Rd.new HB.out (by repeat (first | with_reducible exact New.refl _ | with_reducible assumption | with_reducible refine New.drew ?_ | with_reducible refine New.drewN ?_ _ | with_reducible refine New.alloc ?_ _ | with_reducible refine New.setCell ?_ (by first | (simp; done) | (simp; omega) | omega) _ | with_reducible refine New.trans ?_ (by with_reducible assumption)))) (Rd.new HS.out (by repeat (first | with_reducible exact New.refl _ | with_reducible assumption | with_reducible refine New.drew ?_ | with_reducible refine New.drewN ?_ _ | with_reducible refine New.alloc ?_ _ | with_reducible refine New.setCell ?_ (by first | (simp; done) | (simp; omega) | omega) _ | with_reducible refine New.trans ?_ (by with_reducible assumption)))) hf (HK.out.new (by repeat (first | with_reducible exact New.refl _ | with_reducible assumption | with_reducible refine New.drew ?_ | with_reducible refine New.drewN ?_ _ | with_reducible refine New.alloc ?_ _ | with_reducible refine New.setCell ?_ (by first | (simp; done) | (simp; omega) | omega) _ | with_reducible refine New.trans ?_ (by with_reducible assumption))))).mono ?_; rintro e w1 ⟨rfl, b1⟩
      try with_reducible replace b1 := New.undrawN b1
      try with_reducible replace b1 := New.undraw b1
      obtain ⟨c1, f1⟩ := b1.rules
      have z1 := b1.size
      try simp only [World.size_alloc, World.size_drew, World.heap_drewN, World.size_setCell] at z1
      have z1_0 : w.heap.size < w1.heap.size := by omega
      go_wp2_with (first | (go_at_call 37; refine (within_any _ _ _ _).mono ?_; rintro e _ ⟨rfl, rfl⟩))
      go_ret2
      refine ⟨?_, (by repeat (first | with_reducible exact New.refl _ | with_reducible assumption | with_reducible refine New.drew ?_ | with_reducible refine New.drewN ?_ _ | with_reducible refine New.alloc ?_ _ | with_reducible refine New.setCell ?_ (by first | (simp; done) | (simp; omega) | omega) _ | with_reducible refine New.trans ?_ (by with_reducible assumption)))⟩
      rw [stepsC, if_pos h1, if_neg (by rw [h2]; simp)]; rfl
  · go_enter Tryz.func12, Tryz.ntmps12
    go_wp2_with fail
    refine (iIsCode_any c bv _ _ (Rd.new HB.out (by repeat (first | with_reducible exact New.refl _ | with_reducible assumption | with_reducible refine New.drew ?_ | with_reducible refine New.drewN ?_ _ | with_reducible refine New.alloc ?_ _ | with_reducible refine New.setCell ?_ (by first | (simp; done) | (simp; omega) | omega) _ | with_reducible refine New.trans ?_ (by with_reducible assumption)))) (Rd.new HS.out (by repeat (first | with_reducible exact New.refl _ | with_reducible assumption | with_reducible refine New.drew ?_ | with_reducible refine New.drewN ?_ _ | with_reducible refine New.alloc ?_ _ | with_reducible refine New.setCell ?_ (by first | (simp; done) | (simp; omega) | omega) _ | with_reducible refine New.trans ?_ (by with_reducible assumption)))) hf (HK.out.new (by repeat (first | with_reducible exact New.refl _ | with_reducible assumption | with_reducible refine New.drew ?_ | with_reducible refine New.drewN ?_ _ | with_reducible refine New.alloc ?_ _ | with_reducible refine New.setCell ?_ (by first | (simp; done) | (simp; omega) | omega) _ | with_reducible refine New.trans ?_ (by with_reducible assumption))))).mono ?_; rintro e w1 ⟨rfl, b1⟩
    try with_reducible replace b1 := New.undrawN b1
    try with_reducible replace b1 := New.undraw b1
    obtain ⟨c1, f1⟩ := b1.rules
    have z1 := b1.size
    try simp only [World.size_alloc, World.size_drew, World.heap_drewN, World.size_setCell] at z1
    have z1_0 : w.heap.size < w1.heap.size := by omega
    go_wp2_with fail
    go_ret2
    refine ⟨?_, (by repeat (first | with_reducible exact New.refl _ | with_reducible assumption | with_reducible refine New.drew ?_ | with_reducible refine New.drewN ?_ _ | with_reducible refine New.alloc ?_ _ | with_reducible refine New.setCell ?_ (by first | (simp; done) | (simp; omega) | omega) _ | with_reducible refine New.trans ?_ (by with_reducible assumption)))⟩
    rw [stepsC, if_neg (by rw [h1]; simp)]; rfl
/-- The heights, and a code. -/
def heightsC (c : CodeD) : List Int × Int := if isCodeB c = true then (stackOf c, 0) else ([], 1)
end Go.Proofs.YteielmihlfakgaaGreatDoor
