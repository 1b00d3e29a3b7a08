/- Contracts: the heights of a code's stack. -/
import Derived.Test.YtekpbmoagabmeaaDoorProg
import Derived.Test.YtekpbmoagabmeaaDoorCodes
namespace Go.Proofs.YtekpbmoagabmeaaDoor
open Go Go.Proofs Go.RowKit
set_option linter.unusedVariables false
set_option linter.unusedSimpArgs false
set_option maxRecDepth 100000
def crun (c : CodeD) : List EInstruction → Int → List Int → Option (List Int × Int)
  | [], n, acc => some (acc, n)
  | x :: xs, n, acc => if fitsC c x = true ∧ takesI c x ≤ n ∧ n - takesI c x + givesI x ≤ 40 then crun c xs (n - takesI c x + givesI x) (acc ++ [n - takesI c x + givesI x]) else none
def stackOf (c : CodeD) : List Int := match crun c c.steps 0 [] with | some (acc, _) => acc | none => []
def okC (c : CodeD) : Bool := match crun c c.steps 0 [] with | some (_, n) => n == 0 | none => false
theorem C_none {c : CodeD} (h : crun c c.steps 0 [] = none) : stackOf c = [] ∧ okC c = false := by
  refine ⟨?_, ?_⟩
  · rw [stackOf, h]
  · rw [okC, h]
theorem C_some {c : CodeD} {acc : List Int} {n : Int} (h : crun c c.steps 0 [] = some (acc, n)) : stackOf c = acc ∧ okC c = (n == 0) := by
  refine ⟨?_, ?_⟩
  · rw [stackOf, h]
  · rw [okC, h]
theorem crun_step {c : CodeD} {xs : List EInstruction} {k : Nat} {n : Int} {acc : List Int} (hk : k < xs.length) (h1 : fitsC c xs[k] = true) (h2 : takesI c xs[k] ≤ n) (h3 : n - takesI c xs[k] + givesI xs[k] ≤ 40) :
    crun c (xs.drop k) n acc = crun c (xs.drop (k + 1)) (n - takesI c xs[k] + givesI xs[k]) (acc ++ [n - takesI c xs[k] + givesI xs[k]]) := by
  rw [List.drop_eq_getElem_cons hk, crun, if_pos ⟨h1, h2, h3⟩]
theorem crun_stop {c : CodeD} {xs : List EInstruction} {k : Nat} {n : Int} {acc : List Int} (hk : k < xs.length) (h : fitsC c xs[k] = false ∨ n < takesI c xs[k] ∨ 40 < n - takesI c xs[k] + givesI xs[k]) :
    crun c (xs.drop k) n acc = none := by
  rw [List.drop_eq_getElem_cons hk, crun, if_neg]
  rintro ⟨h1, h2, h3⟩
  rcases h with h | h | h
  · rw [h] at h1; cases h1
  · omega
  · omega
theorem crun_end {c : CodeD} {xs : List EInstruction} {n : Int} {acc : List Int} : crun c (xs.drop xs.length) n acc = some (acc, n) := by rw [List.drop_length, crun]
set_option maxHeartbeats 2000000 in
theorem sStack_any (c : CodeD) (bv sv : Value) (w : World) (hc : SmallC c) (hb : RdT w bv c.blocks) (hs : RdN w sv c.steps) :
    Calls Tryd.prog 43 #[.agg #[.int .i64 c.ins, .int .i64 c.vars, .int .i64 c.outs, bv, sv]] w (RetIB w (stackOf c) (okC c)) := by
  obtain ⟨a, cap, rfl, hm, HC⟩ := Rd.flat encInstruction_len (by omega) hs
  clear hs
  have HB := Lib.hid hb; clear hb
  have hsl := hc.s1
  have zz : w.heap.size < w.heap.size + 1 + 1 := by omega
  have HSC := Lib.hid hc; clear hc
  have HT := Lib.hid (fun (x : EInstruction) (w' : World) (h : New w w') (hf : fitsC c x = true) => sTakesC_any c x bv (.slice a c.steps.length cap) w' (HB.out.new h) hf)
  have HF := Lib.hid (fun (x : EInstruction) (w' : World) (h : New w w') => sFits_any c x bv (.slice a c.steps.length cap) w' HSC.out (HB.out.new h))
  obtain ⟨i0, hi, hz0, hz1, hz2⟩ := info_parts infoI64h
  go_enter Tryd.func43, Tryd.ntmps43
  go_wp2_with fail
  go_loopw [4, 5, 6] (fun o n i wr => ∃ (k : Nat) (m : Int) (acc : List Int), k ≤ c.steps.length ∧ i = .int .i64 k ∧ n = .int .i64 m ∧ 0 ≤ m ∧ m ≤ k ∧ acc.length = k ∧ Hid (crun c c.steps 0 [] = crun c (c.steps.drop k) m acc) ∧ wr.ownsRow (w.heap.size + 1) 2 1 o acc.length (acc.map (Value.int .i64)) ∧ New (w.alloc (.cells #[.int .i64 c.ins, .int .i64 c.vars, .int .i64 c.outs, bv, .slice a c.steps.length cap] 30)) wr) (fun _ _ i _ => c.steps.length - (intOf i).toNat)
  case atStart => exact ⟨0, 0, [], Nat.zero_le _, rfl, rfl, by omega, by omega, rfl, Lib.hid (by simp), (by have := own_empty (w := w.alloc (.cells #[.int .i64 c.ins, .int .i64 c.vars, .int .i64 c.outs, bv, .slice a c.steps.length cap] 30)) (base := w.heap.size + 1) (e := 2) (sz := 1) (by rw [World.size_alloc]; exact Nat.le_refl _); simp only [World.size_alloc] at this; exact this), (by repeat (first | with_reducible exact New.refl _ | with_reducible assumption | with_reducible refine New.drew ?_ | with_reducible refine New.drewN ?_ _ | with_reducible refine New.alloc ?_ _ | with_reducible refine New.setCell ?_ (by first | (simp; done) | (simp; omega) | omega) _ | with_reducible refine New.trans ?_ (by with_reducible assumption)))⟩
  case round =>
    obtain ⟨k, m, acc, hk, rfl, rfl, hm0, hm1, hal, hr, hown, hb⟩ := hrel
    obtain ⟨cc, f'⟩ := hb.rules
    have hbz := hb.size
    simp only [World.size_alloc] at hbz
    have hb0 : New w wr := ((New.refl w).alloc _).trans hb
    by_cases hlt : k < c.steps.length
    · obtain ⟨b, off, rfl, hbl, hx⟩ := HC.out k hlt
      have x0 := hx 0 _ (by omega) rfl
      have x1 := hx 1 _ (by omega) rfl
      rw [Nat.add_zero] at x0
      replace hx := Lib.hid hx
      have hbw : b < wr.heap.size := by omega
      have hww : w.heap.size < wr.heap.size := by omega
      have hbw1 : b < w.heap.size + 1 := by omega
      have htb := takesI_bd c c.steps[k]
      have hgb := givesI_bd c.steps[k]
      generalize hX : c.steps[k] = X at *
      rcases Bool.eq_false_or_eq_true (fitsC c X) with h1 | h1
      · go_wp2_with fail
        have hq := fun (n : NewOf wr) b o => NewOf.cell n b o
        refine wp_region_new (by kernel_rfl) (by kernel_rfl) ?_
        repeat (first | go_big_quiet_skip | go_big_quiet_step ((first | exact newq (HF.out X _ (hb0.trans (NewOf.property _))))) | quiet_step ((first | exact newq (HF.out X _ (hb0.trans (NewOf.property _))))))
        refine wpQuiet_nil ?_
        rintro ⟨w3, b3⟩
        dsimp only
        try with_reducible replace b3 := New.undrawN b3
        try with_reducible replace b3 := New.undraw b3
        obtain ⟨c3, f3⟩ := b3.rules
        have z3 := b3.size
        try simp only [World.size_alloc, World.size_drew, World.heap_drewN, World.size_setCell] at z3
        have z3_0 : w.heap.size < w3.heap.size := by omega
        have z3_1 : b < w3.heap.size := by omega
        go_wp2_with fail
        have hq3 := fun (n : NewOf w3) b o => NewOf.cell n b o
        by_cases h2 : m < takesI c X
        · have HA := Lib.hid (C_none (hr.out.trans (crun_stop (acc := acc) hlt (.inr (.inl (by rw [hX]; exact h2))))))
          refine wp_region_new (by kernel_rfl) (by kernel_rfl) ?_
          repeat (first | go_big_quiet_skip | go_big_quiet_step ((first | exact newq (HT.out X _ ((hb0.trans b3).trans (NewOf.property _)) h1))) | quiet_step ((first | exact newq (HT.out X _ ((hb0.trans b3).trans (NewOf.property _)) h1))))
          refine wpQuiet_nil ?_
          rintro ⟨w5, b5⟩
          dsimp only
          try with_reducible replace b5 := New.undrawN b5
          try with_reducible replace b5 := New.undraw b5
          obtain ⟨c5, f5⟩ := b5.rules
          have z5 := b5.size
          try simp only [World.size_alloc, World.size_drew, World.heap_drewN, World.size_setCell] at z5
          go_wp2_with fail
          go_ret2
          rw [HA.out.1, HA.out.2]
          exact ⟨_, rfl, (by repeat (first | with_reducible exact New.refl _ | with_reducible assumption | with_reducible refine New.drew ?_ | with_reducible refine New.drewN ?_ _ | with_reducible refine New.alloc ?_ _ | with_reducible refine New.setCell ?_ (by first | (simp; done) | (simp; omega) | omega) _ | with_reducible refine New.trans ?_ (by with_reducible assumption))), World.ownsRow_nil _ _ _ _⟩
        · by_cases h3 : 40 < m - takesI c X + givesI X
          · have HA := Lib.hid (C_none (hr.out.trans (crun_stop (acc := acc) hlt (.inr (.inr (by rw [hX]; exact h3))))))
            refine wp_region_new (by kernel_rfl) (by kernel_rfl) ?_
            repeat (first | go_big_quiet_skip | go_big_quiet_step ((first | exact newq (HT.out X _ ((hb0.trans b3).trans (NewOf.property _)) h1))) | quiet_step ((first | exact newq (HT.out X _ ((hb0.trans b3).trans (NewOf.property _)) h1))))
            refine wpQuiet_nil ?_
            rintro ⟨w5, b5⟩
            dsimp only
            try with_reducible replace b5 := New.undrawN b5
            try with_reducible replace b5 := New.undraw b5
            obtain ⟨c5, f5⟩ := b5.rules
            have z5 := b5.size
            try simp only [World.size_alloc, World.size_drew, World.heap_drewN, World.size_setCell] at z5
            go_wp2_with fail
            go_ret2
            rw [HA.out.1, HA.out.2]
            exact ⟨_, rfl, (by repeat (first | with_reducible exact New.refl _ | with_reducible assumption | with_reducible refine New.drew ?_ | with_reducible refine New.drewN ?_ _ | with_reducible refine New.alloc ?_ _ | with_reducible refine New.setCell ?_ (by first | (simp; done) | (simp; omega) | omega) _ | with_reducible refine New.trans ?_ (by with_reducible assumption))), World.ownsRow_nil _ _ _ _⟩
          · have HA := Lib.hid (hr.out.trans (crun_step (acc := acc) hlt (by rw [hX]; exact h1) (by rw [hX]; omega) (by rw [hX]; omega)))
            rw [hX] at HA
            refine wp_region_new (by kernel_rfl) (by kernel_rfl) ?_
            repeat (first | go_big_quiet_skip | go_big_quiet_step ((first | exact newq (HT.out X _ ((hb0.trans b3).trans (NewOf.property _)) h1))) | quiet_step ((first | exact newq (HT.out X _ ((hb0.trans b3).trans (NewOf.property _)) h1))))
            refine wpQuiet_nil ?_
            rintro ⟨w5, b5⟩
            dsimp only
            try with_reducible replace b5 := New.undrawN b5
            try with_reducible replace b5 := New.undraw b5
            obtain ⟨c5, f5⟩ := b5.rules
            have z5 := b5.size
            try simp only [World.size_alloc, World.size_drew, World.heap_drewN, World.size_setCell] at z5
            go_wp2_with (first | (at_builtin; refine wpList_append_own _ rfl _ _ 40 rfl (w.heap.size + 1) 2 i0 (.int .i64 0) 1 8 Tryd.underlying40 hi hz0 hz1 hz2 rfl (by decide) _ _ _ rfl ((own_new hown (b3.trans b5)).alloc _) ⟨w5.heap.size, 0, none⟩ 1 1 [.int .i64 (m - takesI c X + givesI X)] rfl rfl (by intro j u hj; match j, hj with | 0, hj => simp at hj; subst hj; first | (simp [Addr.add]; done) | exact alloc_one rfl) (by intro u hu; simp at hu; subst hu; rfl) (by unfold maxLen; omega) (by omega) (by first | (simp; done) | (simp; omega) | omega) ?_; intro va wa howna hgra _))
            have ba : New (w.alloc (.cells #[.int .i64 c.ins, .int .i64 c.vars, .int .i64 c.outs, bv, .slice (some ⟨b, off, none⟩) c.steps.length cap] 30)) wa := New.grown ((hb.trans (b3.trans b5)).alloc _) hgra (fun q hq => by have := (own_block_lt hown q hq).1; simpa using this)
            go_roundw
            case rel => exact ⟨k + 1, m - takesI c X + givesI X, acc ++ [m - takesI c X + givesI X], by omega, by go_num, rfl, by omega, by omega, by simp [hal], HA, by simpa using howna, ba⟩
            case measure => simp [intOf]; omega
      · have HA := Lib.hid (C_none (hr.out.trans (crun_stop (acc := acc) hlt (.inl (by rw [hX]; exact h1)))))
        go_wp2_with fail
        have hq := fun (n : NewOf wr) b o => NewOf.cell n b o
        refine wp_region_new (by kernel_rfl) (by kernel_rfl) ?_
        repeat (first | go_big_quiet_skip | go_big_quiet_step ((first | exact newq (HF.out X _ (hb0.trans (NewOf.property _))))) | quiet_step ((first | exact newq (HF.out X _ (hb0.trans (NewOf.property _))))))
        refine wpQuiet_nil ?_
        rintro ⟨w3, b3⟩
        dsimp only
        try with_reducible replace b3 := New.undrawN b3
        try with_reducible replace b3 := New.undraw b3
        obtain ⟨c3, f3⟩ := b3.rules
        have z3 := b3.size
        try simp only [World.size_alloc, World.size_drew, World.heap_drewN, World.size_setCell] at z3
        go_wp2_with fail
        go_ret2
        rw [HA.out.1, HA.out.2]
        exact ⟨_, rfl, (by repeat (first | with_reducible exact New.refl _ | with_reducible assumption | with_reducible refine New.drew ?_ | with_reducible refine New.drewN ?_ _ | with_reducible refine New.alloc ?_ _ | with_reducible refine New.setCell ?_ (by first | (simp; done) | (simp; omega) | omega) _ | with_reducible refine New.trans ?_ (by with_reducible assumption))), World.ownsRow_nil _ _ _ _⟩
    · obtain rfl : k = c.steps.length := by omega
      have HA := Lib.hid (C_some (hr.out.trans crun_end))
      go_wp2_with fail
      all_goals go_ret2
      all_goals rw [HA.out.1, HA.out.2]
      all_goals first | exact ⟨_, rfl, (by repeat (first | with_reducible exact New.refl _ | with_reducible assumption | with_reducible refine New.drew ?_ | with_reducible refine New.drewN ?_ _ | with_reducible refine New.alloc ?_ _ | with_reducible refine New.setCell ?_ (by first | (simp; done) | (simp; omega) | omega) _ | with_reducible refine New.trans ?_ (by with_reducible assumption))), own_base hown (by omega)⟩ | (refine ⟨_, ?_, (by repeat (first | with_reducible exact New.refl _ | with_reducible assumption | with_reducible refine New.drew ?_ | with_reducible refine New.drewN ?_ _ | with_reducible refine New.alloc ?_ _ | with_reducible refine New.setCell ?_ (by first | (simp; done) | (simp; omega) | omega) _ | with_reducible refine New.trans ?_ (by with_reducible assumption))), by simpa [hal] using own_base hown (by omega)⟩; simp_all)
set_option maxHeartbeats 2000000 in
theorem iStack_any (c : CodeD) (bv sv : Value) (w : World) (hc : SmallC c) (hb : RdT w bv c.blocks) (hs : RdN w sv c.steps) :
    Calls Tryd.prog 42 #[.agg #[.int .i64 c.ins, .int .i64 c.vars, .int .i64 c.outs, bv, sv]] w (RetIB w (stackOf c) (okC c)) := by
  obtain ⟨a, cap, rfl, hm, HC⟩ := Rd.flat encInstruction_len (by omega) hs
  clear hs
  have HB := Lib.hid hb; clear hb
  have hsl := hc.s1
  have zz : w.heap.size < w.heap.size + 1 + 1 := by omega
  have HSC := Lib.hid hc; clear hc
  have HT := Lib.hid (fun (x : EInstruction) (w' : World) (h : New w w') (hf : fitsC c x = true) => effect_any c x bv (.slice a c.steps.length cap) w' (HB.out.new h) hf)
  have HF := Lib.hid (fun (op : Int) (w' : World) (h : New w w') => many_any c bv (.slice a c.steps.length cap) op w' (HB.out.new h))
  obtain ⟨i0, hi, hz0, hz1, hz2⟩ := info_parts infoI64h
  go_enter Tryd.func42, Tryd.ntmps42
  go_wp2_with fail
  go_loopw [4, 5, 13] (fun o n i wr => ∃ (k : Nat) (m : Int) (acc : List Int), k ≤ c.steps.length ∧ i = .int .i64 k ∧ n = .int .i64 m ∧ 0 ≤ m ∧ m ≤ k ∧ acc.length = k ∧ Hid (crun c c.steps 0 [] = crun c (c.steps.drop k) m acc) ∧ wr.ownsRow (w.heap.size + 1) 2 1 o acc.length (acc.map (Value.int .i64)) ∧ New (w.alloc (.cells #[.int .i64 c.ins, .int .i64 c.vars, .int .i64 c.outs, bv, .slice a c.steps.length cap] 30)) wr) (fun _ _ i _ => c.steps.length - (intOf i).toNat)
  case atStart => exact ⟨0, 0, [], Nat.zero_le _, rfl, rfl, by omega, by omega, rfl, Lib.hid (by simp), World.ownsRow_nil _ _ _ _, (by repeat (first | with_reducible exact New.refl _ | with_reducible assumption | with_reducible refine New.drew ?_ | with_reducible refine New.drewN ?_ _ | with_reducible refine New.alloc ?_ _ | with_reducible refine New.setCell ?_ (by first | (simp; done) | (simp; omega) | omega) _ | with_reducible refine New.trans ?_ (by with_reducible assumption)))⟩
  case round =>
    obtain ⟨k, m, acc, hk, rfl, rfl, hm0, hm1, hal, hr, hown, hb⟩ := hrel
    obtain ⟨cc, f'⟩ := hb.rules
    have hbz := hb.size
    simp only [World.size_alloc] at hbz
    have hb0 : New w wr := ((New.refl w).alloc _).trans hb
    by_cases hlt : k < c.steps.length
    · obtain ⟨b, off, rfl, hbl, hx⟩ := HC.out k hlt
      have x0 := hx 0 _ (by omega) rfl
      have x1 := hx 1 _ (by omega) rfl
      rw [Nat.add_zero] at x0
      replace hx := Lib.hid hx
      have hbw : b < wr.heap.size := by omega
      have hww : w.heap.size < wr.heap.size := by omega
      have hbw1 : b < w.heap.size + 1 := by omega
      have hww1 : w.heap.size < wr.heap.size + 1 := by omega
      have htb := takesI_bd c c.steps[k]
      have hgb := givesI_bd c.steps[k]
      generalize hX : c.steps[k] = X at *
      go_wp2_with fail
      by_cases ha : X.arg < 0
      · have h1 : fitsC c X = false := by rw [fitsC]; simp; omega
        have HA := Lib.hid (C_none (hr.out.trans (crun_stop (acc := acc) hlt (.inl (by rw [hX]; exact h1)))))
        have hq := fun (n : NewOf (wr.alloc (.cells #[.int .i64 X.op, .int .i64 X.arg] 58))) b o => NewOf.cell n b o
        refine wp_region_new (by kernel_rfl) (by kernel_rfl) ?_
        repeat (first | go_big_quiet_skip | go_big_quiet_step ((first | exact newq (HF.out X.op _ ((hb0.alloc _).trans (NewOf.property _))))) | quiet_step ((first | exact newq (HF.out X.op _ ((hb0.alloc _).trans (NewOf.property _))))))
        refine wpQuiet_nil ?_
        rintro ⟨w3, b3⟩
        dsimp only
        try with_reducible replace b3 := New.undrawN b3
        try with_reducible replace b3 := New.undraw b3
        obtain ⟨c3, f3⟩ := b3.rules
        have z3 := b3.size
        try simp only [World.size_alloc, World.size_drew, World.heap_drewN, World.size_setCell] at z3
        have z3_0 : w.heap.size < w3.heap.size := by omega
        have z3_1 : b < w3.heap.size := by omega
        have z3_2 : wr.heap.size < w3.heap.size := by omega
        go_wp2_with fail
        go_ret2
        rw [HA.out.1, HA.out.2]
        exact ⟨_, rfl, (by repeat (first | with_reducible exact New.refl _ | with_reducible assumption | with_reducible refine New.drew ?_ | with_reducible refine New.drewN ?_ _ | with_reducible refine New.alloc ?_ _ | with_reducible refine New.setCell ?_ (by first | (simp; done) | (simp; omega) | omega) _ | with_reducible refine New.trans ?_ (by with_reducible assumption))), World.ownsRow_nil _ _ _ _⟩
      · by_cases ha2 : X.arg < manyOf c X.op
        · have h1 : fitsC c X = true := by rw [fitsC]; simp; omega
          have hq := fun (n : NewOf (wr.alloc (.cells #[.int .i64 X.op, .int .i64 X.arg] 58))) b o => NewOf.cell n b o
          refine wp_region_new (by kernel_rfl) (by kernel_rfl) ?_
          repeat (first | go_big_quiet_skip | go_big_quiet_step ((first | exact newq (HF.out X.op _ ((hb0.alloc _).trans (NewOf.property _))))) | quiet_step ((first | exact newq (HF.out X.op _ ((hb0.alloc _).trans (NewOf.property _))))))
          refine wpQuiet_nil ?_
          rintro ⟨w3, b3⟩
          dsimp only
          try with_reducible replace b3 := New.undrawN b3
          try with_reducible replace b3 := New.undraw b3
          obtain ⟨c3, f3⟩ := b3.rules
          have z3 := b3.size
          try simp only [World.size_alloc, World.size_drew, World.heap_drewN, World.size_setCell] at z3
          have z3_0 : w.heap.size < w3.heap.size := by omega
          have z3_1 : b < w3.heap.size := by omega
          have z3_2 : wr.heap.size < w3.heap.size := by omega
          go_wp2_with fail
          have ha3 : ¬ manyOf c X.op ≤ X.arg := by omega
          by_cases h2 : m < takesI c X
          · have HA := Lib.hid (C_none (hr.out.trans (crun_stop (acc := acc) hlt (.inr (.inl (by rw [hX]; exact h2))))))
            refine (HT.out X _ ((hb0.alloc _).trans b3) h1).mono ?_; rintro e w5 ⟨rfl, b5⟩
            try with_reducible replace b5 := New.undrawN b5
            try with_reducible replace b5 := New.undraw b5
            obtain ⟨c5, f5⟩ := b5.rules
            have z5 := b5.size
            try simp only [World.size_alloc, World.size_drew, World.heap_drewN, World.size_setCell] at z5
            have z5_0 : wr.heap.size < w5.heap.size := by omega
            go_wp2_with fail
            go_ret2
            rw [HA.out.1, HA.out.2]
            exact ⟨_, rfl, (by repeat (first | with_reducible exact New.refl _ | with_reducible assumption | with_reducible refine New.drew ?_ | with_reducible refine New.drewN ?_ _ | with_reducible refine New.alloc ?_ _ | with_reducible refine New.setCell ?_ (by first | (simp; done) | (simp; omega) | omega) _ | with_reducible refine New.trans ?_ (by with_reducible assumption))), World.ownsRow_nil _ _ _ _⟩
          · by_cases h3 : 40 < m - takesI c X + givesI X
            · have HA := Lib.hid (C_none (hr.out.trans (crun_stop (acc := acc) hlt (.inr (.inr (by rw [hX]; exact h3))))))
              refine (HT.out X _ ((hb0.alloc _).trans b3) h1).mono ?_; rintro e w5 ⟨rfl, b5⟩
              try with_reducible replace b5 := New.undrawN b5
              try with_reducible replace b5 := New.undraw b5
              obtain ⟨c5, f5⟩ := b5.rules
              have z5 := b5.size
              try simp only [World.size_alloc, World.size_drew, World.heap_drewN, World.size_setCell] at z5
              have z5_0 : wr.heap.size < w5.heap.size := by omega
              go_wp2_with fail
              go_ret2
              rw [HA.out.1, HA.out.2]
              exact ⟨_, rfl, (by repeat (first | with_reducible exact New.refl _ | with_reducible assumption | with_reducible refine New.drew ?_ | with_reducible refine New.drewN ?_ _ | with_reducible refine New.alloc ?_ _ | with_reducible refine New.setCell ?_ (by first | (simp; done) | (simp; omega) | omega) _ | with_reducible refine New.trans ?_ (by with_reducible assumption))), World.ownsRow_nil _ _ _ _⟩
            · have HA := Lib.hid (hr.out.trans (crun_step (acc := acc) hlt (by rw [hX]; exact h1) (by rw [hX]; omega) (by rw [hX]; omega)))
              rw [hX] at HA
              have hG : m - takesI c X + givesI X = m + (givesI X - takesI c X) := by omega
              rw [hG] at HA h3
              refine (HT.out X _ ((hb0.alloc _).trans b3) h1).mono ?_; rintro e w5 ⟨rfl, b5⟩
              try with_reducible replace b5 := New.undrawN b5
              try with_reducible replace b5 := New.undraw b5
              obtain ⟨c5, f5⟩ := b5.rules
              have z5 := b5.size
              try simp only [World.size_alloc, World.size_drew, World.heap_drewN, World.size_setCell] at z5
              have z5_0 : wr.heap.size < w5.heap.size := by omega
              go_wp2_with (first | (at_builtin; refine wpList_append_own _ rfl _ _ 40 rfl (w.heap.size + 1) 2 i0 (.int .i64 0) 1 8 Tryd.underlying40 hi hz0 hz1 hz2 rfl (by decide) _ _ _ rfl ((own_new (hown.alloc _) (b3.trans b5)).alloc _) ⟨w5.heap.size, 0, none⟩ 1 1 [.int .i64 (m + (givesI X - takesI c X))] rfl rfl (by intro j u hj; match j, hj with | 0, hj => simp at hj; subst hj; first | (simp [Addr.add]; done) | exact alloc_one rfl) (by intro u hu; simp at hu; subst hu; rfl) (by unfold maxLen; omega) (by omega) (by first | (simp; done) | (simp; omega) | omega) ?_; intro va wa howna hgra _))
              have ba : New (w.alloc (.cells #[.int .i64 c.ins, .int .i64 c.vars, .int .i64 c.outs, bv, .slice (some ⟨b, off, none⟩) c.steps.length cap] 30)) wa := New.grown (((hb.alloc _).trans (b3.trans b5)).alloc _) hgra (fun q hq => by have := (own_block_lt hown q hq).1; simpa using this)
              go_roundw
              case rel => exact ⟨k + 1, m + (givesI X - takesI c X), acc ++ [m + (givesI X - takesI c X)], by omega, by go_num, by go_num, by omega, by omega, by simp [hal], HA, by simpa using howna, ba⟩
              case measure => simp [intOf]; omega
        · have h1 : fitsC c X = false := by rw [fitsC]; simp; omega
          have HA := Lib.hid (C_none (hr.out.trans (crun_stop (acc := acc) hlt (.inl (by rw [hX]; exact h1)))))
          have ha3 : manyOf c X.op ≤ X.arg := by omega
          have hq := fun (n : NewOf (wr.alloc (.cells #[.int .i64 X.op, .int .i64 X.arg] 58))) b o => NewOf.cell n b o
          refine wp_region_new (by kernel_rfl) (by kernel_rfl) ?_
          repeat (first | go_big_quiet_skip | go_big_quiet_step ((first | exact newq (HF.out X.op _ ((hb0.alloc _).trans (NewOf.property _))))) | quiet_step ((first | exact newq (HF.out X.op _ ((hb0.alloc _).trans (NewOf.property _))))))
          refine wpQuiet_nil ?_
          rintro ⟨w3, b3⟩
          dsimp only
          try with_reducible replace b3 := New.undrawN b3
          try with_reducible replace b3 := New.undraw b3
          obtain ⟨c3, f3⟩ := b3.rules
          have z3 := b3.size
          try simp only [World.size_alloc, World.size_drew, World.heap_drewN, World.size_setCell] at z3
          have z3_0 : w.heap.size < w3.heap.size := by omega
          have z3_1 : b < w3.heap.size := by omega
          have z3_2 : wr.heap.size < w3.heap.size := by omega
          go_wp2_with fail
          go_ret2
          rw [HA.out.1, HA.out.2]
          exact ⟨_, rfl, (by repeat (first | with_reducible exact New.refl _ | with_reducible assumption | with_reducible refine New.drew ?_ | with_reducible refine New.drewN ?_ _ | with_reducible refine New.alloc ?_ _ | with_reducible refine New.setCell ?_ (by first | (simp; done) | (simp; omega) | omega) _ | with_reducible refine New.trans ?_ (by with_reducible assumption))), World.ownsRow_nil _ _ _ _⟩
    · obtain rfl : k = c.steps.length := by omega
      have HA := Lib.hid (C_some (hr.out.trans crun_end))
      go_wp2_with fail
      all_goals go_ret2
      all_goals rw [HA.out.1, HA.out.2]
      all_goals first | exact ⟨_, rfl, (by repeat (first | with_reducible exact New.refl _ | with_reducible assumption | with_reducible refine New.drew ?_ | with_reducible refine New.drewN ?_ _ | with_reducible refine New.alloc ?_ _ | with_reducible refine New.setCell ?_ (by first | (simp; done) | (simp; omega) | omega) _ | with_reducible refine New.trans ?_ (by with_reducible assumption))), own_base hown (by omega)⟩ | (refine ⟨_, ?_, (by repeat (first | with_reducible exact New.refl _ | with_reducible assumption | with_reducible refine New.drew ?_ | with_reducible refine New.drewN ?_ _ | with_reducible refine New.alloc ?_ _ | with_reducible refine New.setCell ?_ (by first | (simp; done) | (simp; omega) | omega) _ | with_reducible refine New.trans ?_ (by with_reducible assumption))), by simpa [hal] using own_base hown (by omega)⟩; simp_all)
end Go.Proofs.YtekpbmoagabmeaaDoor
