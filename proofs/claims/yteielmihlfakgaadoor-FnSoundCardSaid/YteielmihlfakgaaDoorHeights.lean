/- Contracts: the heights of an expression list. -/
import Derived.Test.YteielmihlfakgaaDoorProg
import Derived.Test.YteielmihlfakgaaDoorTermS
import Derived.Test.YteielmihlfakgaaDoorCells
namespace Go.Proofs.YteielmihlfakgaaDoor
open Go Go.Proofs Go.RowKit
set_option linter.unusedVariables false
set_option linter.unusedSimpArgs false
set_option maxRecDepth 100000
theorem infoI64h : (Tryd.prog.info? 2).map (fun i => (i.zero, i.size, i.bytes)) = some (some (.int .i64 0), 1, 8) := by kernel_rfl
def termE (t : ETerm) : Bool := termB t.kind t.name t.num
def hrun : List ETerm → Int → List Int → Option (List Int × Int)
  | [], n, acc => some (acc, n)
  | t :: ts, n, acc => if termE t = true ∧ takes t.kind ≤ n then hrun ts (n - takes t.kind + 1) (acc ++ [n - takes t.kind + 1]) else none
def heightsOf (ts : List ETerm) : List Int := match hrun ts 0 [] with | some (acc, _) => acc | none => []
def okH (ts : List ETerm) : Bool := match hrun ts 0 [] with | some (_, n) => n == 1 && decide (ts.length ≤ 40) | none => false
def oneH (ts : List ETerm) : Bool := match hrun ts 0 [] with | some (_, n) => n == 1 | none => false
def maxL (l : List Int) : Int := l.foldl max 0
theorem H_none {ts : List ETerm} (h : hrun ts 0 [] = none) : heightsOf ts = [] ∧ okH ts = false ∧ oneH ts = false := by
  refine ⟨?_, ?_, ?_⟩
  · rw [heightsOf, h]
  · rw [okH, h]
  · rw [oneH, h]
theorem H_some {ts : List ETerm} {acc : List Int} {n : Int} (h : hrun ts 0 [] = some (acc, n)) : heightsOf ts = acc ∧ okH ts = (n == 1 && decide (ts.length ≤ 40)) ∧ oneH ts = (n == 1) := by
  refine ⟨?_, ?_, ?_⟩
  · rw [heightsOf, h]
  · rw [okH, h]
  · rw [oneH, h]
theorem hrun_step {ts : List ETerm} {k : Nat} {n : Int} {acc : List Int} (hk : k < ts.length) (h1 : termE ts[k] = true) (h2 : takes ts[k].kind ≤ n) :
    hrun (ts.drop k) n acc = hrun (ts.drop (k + 1)) (n - takes ts[k].kind + 1) (acc ++ [n - takes ts[k].kind + 1]) := by
  rw [List.drop_eq_getElem_cons hk, hrun, if_pos ⟨h1, h2⟩]
theorem hrun_stop {ts : List ETerm} {k : Nat} {n : Int} {acc : List Int} (hk : k < ts.length) (h : termE ts[k] = false ∨ n < takes ts[k].kind) :
    hrun (ts.drop k) n acc = none := by
  rw [List.drop_eq_getElem_cons hk, hrun, if_neg]
  rintro ⟨h1, h2⟩
  rcases h with h | h
  · rw [h] at h1; cases h1
  · omega
theorem hrun_end {ts : List ETerm} {n : Int} {acc : List Int} : hrun (ts.drop ts.length) n acc = some (acc, n) := by rw [List.drop_length, hrun]
/-- A slice of numbers in new memory and a bool. -/
def RetIB (w : World) (L : List Int) (b : Bool) (e : Ending) (w' : World) : Prop := ∃ r, e = .returned (.tuple #[r, .bool b]) ∧ New w w' ∧ w'.ownsRow w.heap.size 2 1 r L.length (L.map (Value.int .i64))
set_option maxHeartbeats 1000000 in
theorem sHeights_any (v : Value) (xs : List ETerm) (w : World) (hv : Rd w v xs.length (xs.flatMap encTerm)) (hf : ∀ x ∈ xs, fitTerm x) (hn : xs.length ≤ 1048576) :
    Calls Tryd.prog 108 #[v] w (RetIB w (heightsOf xs) (okH xs)) := by
  obtain ⟨a, cap, rfl, hm, HC⟩ := Rd.flat encTerm_len (by omega) hv
  clear hv
  have HF := Lib.hid hf; clear hf
  obtain ⟨i0, hi, hz0, hz1, hz2⟩ := info_parts infoI64h
  go_enter Tryd.func108, Tryd.ntmps108
  go_wp2_with fail
  go_loopw [4, 5, 6] (fun o n i wr => ∃ (k : Nat) (m : Int) (acc : List Int), k ≤ xs.length ∧ i = .int .i64 k ∧ n = .int .i64 m ∧ 0 ≤ m ∧ m ≤ k ∧ acc.length = k ∧ Hid (hrun xs 0 [] = hrun (xs.drop k) m acc) ∧ wr.ownsRow w.heap.size 2 1 o acc.length (acc.map (Value.int .i64)) ∧ New w wr) (fun _ _ i _ => xs.length - (intOf i).toNat)
  case atStart => exact ⟨0, 0, [], Nat.zero_le _, rfl, rfl, by omega, by omega, rfl, Lib.hid (by simp), own_empty (Nat.le_refl _), (by repeat (first | with_reducible exact New.refl _ | with_reducible assumption | with_reducible refine New.drew ?_ | with_reducible refine New.drewN ?_ _ | with_reducible refine New.alloc ?_ _ | with_reducible refine New.setCell ?_ (by first | (simp; done) | (simp; omega) | omega) _ | with_reducible refine New.trans ?_ (by with_reducible assumption)))⟩
  case round =>
    obtain ⟨k, m, acc, hk, rfl, rfl, hm0, hm1, hal, hr, hown, hb⟩ := hrel
    obtain ⟨c, f'⟩ := hb.rules
    have hbz := hb.size
    by_cases hlt : k < xs.length
    · obtain ⟨b, off, rfl, hbl, hx⟩ := HC.out k hlt
      have x0 := hx 0 _ (by omega) rfl
      have x1 := hx 1 _ (by omega) rfl
      have x2 := hx 2 _ (by omega) rfl
      rw [Nat.add_zero] at x0
      replace hx := Lib.hid hx
      have hbw : b < wr.heap.size := by omega
      have HX := Lib.hid (HF.out xs[k] (List.getElem_mem hlt))
      have htb := takes_bd xs[k].kind
      rcases Bool.eq_false_or_eq_true (termE xs[k]) with h1 | h1
      · by_cases h2 : m < takes xs[k].kind
        · have HA := Lib.hid (hr.out.trans (hrun_stop (acc := acc) hlt (.inr h2)))
          simp only [termE] at h1
          go_wp2_with fail
          refine (sTerm_any _ _ _ _ HX.out).mono ?_; rintro e w1 ⟨rfl, b1⟩
          try with_reducible replace b1 := New.undrawN b1
          try with_reducible replace b1 := New.undraw b1
          obtain ⟨c1, f1⟩ := b1.rules
          have z1 := b1.size
          try simp only [World.size_alloc, World.size_drew, World.heap_drewN, World.size_setCell] at z1
          have z1_0 : b < w1.heap.size := by omega
          go_wp2_with fail
          go_wp2_with (first | (go_at_call 110; refine (sTakes_any _ _).mono ?_; rintro e _ ⟨rfl, rfl⟩))
          go_ret2
          rw [(H_none HA.out).1, (H_none HA.out).2.1]
          exact ⟨_, rfl, (by repeat (first | with_reducible exact New.refl _ | with_reducible assumption | with_reducible refine New.drew ?_ | with_reducible refine New.drewN ?_ _ | with_reducible refine New.alloc ?_ _ | with_reducible refine New.setCell ?_ (by first | (simp; done) | (simp; omega) | omega) _ | with_reducible refine New.trans ?_ (by with_reducible assumption))), World.ownsRow_nil _ _ _ _⟩
        · have HA := Lib.hid (hr.out.trans (hrun_step (acc := acc) hlt h1 (by omega)))
          simp only [termE] at h1
          go_wp2_with fail
          refine (sTerm_any _ _ _ _ HX.out).mono ?_; rintro e w1 ⟨rfl, b1⟩
          try with_reducible replace b1 := New.undrawN b1
          try with_reducible replace b1 := New.undraw b1
          obtain ⟨c1, f1⟩ := b1.rules
          have z1 := b1.size
          try simp only [World.size_alloc, World.size_drew, World.heap_drewN, World.size_setCell] at z1
          have z1_0 : b < w1.heap.size := by omega
          go_wp2_with fail
          go_wp2_with (first | (go_at_call 110; refine (sTakes_any _ _).mono ?_; rintro e _ ⟨rfl, rfl⟩) | (at_builtin; refine wpList_append_own _ rfl _ _ 32 rfl (w.heap.size) 2 i0 (.int .i64 0) 1 8 Tryd.underlying32 hi hz0 hz1 hz2 rfl (by decide) _ _ _ rfl ((own_new hown b1).alloc _) ⟨w1.heap.size, 0, none⟩ 1 1 [.int .i64 (m - takes xs[k].kind + 1)] rfl rfl (by intro j u hj; match j, hj with | 0, hj => simp at hj; subst hj; first | (simp [Addr.add]; done) | exact alloc_one rfl) (by intro u hu; simp at hu; subst hu; rfl) (by unfold maxLen; omega) (by omega) (by first | (simp; done) | (simp; omega) | omega) ?_; intro va wa howna hgra _))
          have ba : New w wa := New.grown ((hb.trans b1).alloc _) hgra (fun q hq => by have := (own_block_lt hown q hq).1; simpa using this)
          go_roundw
          case rel => exact ⟨k + 1, m - takes xs[k].kind + 1, acc ++ [m - takes xs[k].kind + 1], by omega, by go_num, rfl, by omega, by omega, by simp [hal], HA, by simpa using howna, ba⟩
          case measure => simp [intOf]; omega
      · have HA := Lib.hid (hr.out.trans (hrun_stop (acc := acc) hlt (.inl h1)))
        simp only [termE] at h1
        go_wp2_with fail
        refine (sTerm_any _ _ _ _ HX.out).mono ?_; rintro e w1 ⟨rfl, b1⟩
        try with_reducible replace b1 := New.undrawN b1
        try with_reducible replace b1 := New.undraw b1
        obtain ⟨c1, f1⟩ := b1.rules
        have z1 := b1.size
        try simp only [World.size_alloc, World.size_drew, World.heap_drewN, World.size_setCell] at z1
        have z1_0 : b < w1.heap.size := by omega
        go_wp2_with fail
        go_ret2
        rw [(H_none HA.out).1, (H_none HA.out).2.1]
        exact ⟨_, rfl, (by repeat (first | with_reducible exact New.refl _ | with_reducible assumption | with_reducible refine New.drew ?_ | with_reducible refine New.drewN ?_ _ | with_reducible refine New.alloc ?_ _ | with_reducible refine New.setCell ?_ (by first | (simp; done) | (simp; omega) | omega) _ | with_reducible refine New.trans ?_ (by with_reducible assumption))), World.ownsRow_nil _ _ _ _⟩
    · obtain rfl : k = xs.length := by omega
      have HA := Lib.hid (H_some (hr.out.trans hrun_end))
      go_wp2_with fail
      all_goals go_ret2
      all_goals rw [HA.out.1, HA.out.2.1]
      all_goals first | exact ⟨_, rfl, (by repeat (first | with_reducible exact New.refl _ | with_reducible assumption | with_reducible refine New.drew ?_ | with_reducible refine New.drewN ?_ _ | with_reducible refine New.alloc ?_ _ | with_reducible refine New.setCell ?_ (by first | (simp; done) | (simp; omega) | omega) _ | with_reducible refine New.trans ?_ (by with_reducible assumption))), hown⟩ | (refine ⟨_, ?_, (by repeat (first | with_reducible exact New.refl _ | with_reducible assumption | with_reducible refine New.drew ?_ | with_reducible refine New.drewN ?_ _ | with_reducible refine New.alloc ?_ _ | with_reducible refine New.setCell ?_ (by first | (simp; done) | (simp; omega) | omega) _ | with_reducible refine New.trans ?_ (by with_reducible assumption))), by simpa [hal] using hown⟩; by_cases h40 : xs.length ≤ 40 <;> simp_all <;> omega)
theorem maxL_app (l : List Int) (x : Int) : maxL (l ++ [x]) = max (maxL l) x := by simp [maxL]
theorem sIsExpression_any (v : Value) (xs : List ETerm) (w : World) (hv : Rd w v xs.length (xs.flatMap encTerm)) (hf : ∀ x ∈ xs, fitTerm x) (hn : xs.length ≤ 1048576) :
    Calls Tryd.prog 59 #[v] w fun e w' => e = .returned (.bool (okH xs)) ∧ New w w' := by
  have HV := Lib.hid hv; clear hv
  go_enter Tryd.func59, Tryd.ntmps59
  go_wp2_with fail
  refine (sHeights_any v xs _ HV.out hf hn).mono ?_; rintro e w1 ⟨r, rfl, b1, own1⟩
  obtain ⟨c1, f1⟩ := b1.rules
  have z1 := b1.size
  try simp only [World.size_alloc, World.size_drew, World.heap_drewN, World.size_setCell] at z1
  go_wp2_with fail
  go_ret
  exact ⟨rfl, (by repeat (first | with_reducible exact New.refl _ | with_reducible assumption | with_reducible refine New.drew ?_ | with_reducible refine New.drewN ?_ _ | with_reducible refine New.alloc ?_ _ | with_reducible refine New.setCell ?_ (by first | (simp; done) | (simp; omega) | omega) _ | with_reducible refine New.trans ?_ (by with_reducible assumption)))⟩
set_option maxHeartbeats 1000000 in
theorem height_any (v : Value) (xs : List ETerm) (w : World) (hv : Rd w v xs.length (xs.flatMap encTerm)) (hf : ∀ x ∈ xs, fitTerm x) (hn : xs.length ≤ 1048576) (hk : KW w) :
    Calls Tryd.prog 112 #[v] w fun e w' => e = .returned (.tuple #[.int .i64 (maxL (heightsOf xs)), .bool (oneH xs)]) ∧ New w w' := by
  obtain ⟨a, cap, rfl, hm, HC⟩ := Rd.flat encTerm_len (by omega) hv
  clear hv
  have HF := Lib.hid hf; clear hf
  have HK := Lib.hid hk; clear hk
  go_enter Tryd.func112, Tryd.ntmps112
  go_wp2_with fail
  go_loopw [4, 5, 10] (fun n mo i wr => ∃ (k : Nat) (m : Int) (acc : List Int), k ≤ xs.length ∧ i = .int .i64 k ∧ n = .int .i64 m ∧ mo = .int .i64 (maxL acc) ∧ 0 ≤ m ∧ m ≤ k ∧ Hid (hrun xs 0 [] = hrun (xs.drop k) m acc) ∧ New w wr) (fun _ _ i _ => xs.length - (intOf i).toNat)
  case atStart => exact ⟨0, 0, [], Nat.zero_le _, rfl, rfl, rfl, by omega, by omega, Lib.hid (by simp), (by repeat (first | with_reducible exact New.refl _ | with_reducible assumption | with_reducible refine New.drew ?_ | with_reducible refine New.drewN ?_ _ | with_reducible refine New.alloc ?_ _ | with_reducible refine New.setCell ?_ (by first | (simp; done) | (simp; omega) | omega) _ | with_reducible refine New.trans ?_ (by with_reducible assumption)))⟩
  case round =>
    obtain ⟨k, m, acc, hk, rfl, rfl, rfl, hm0, hm1, hr, hb⟩ := hrel
    obtain ⟨c, f'⟩ := hb.rules
    have hbz := hb.size
    by_cases hlt : k < xs.length
    · obtain ⟨b, off, rfl, hbl, hx⟩ := HC.out k hlt
      have x0 := hx 0 _ (by omega) rfl
      have x1 := hx 1 _ (by omega) rfl
      have x2 := hx 2 _ (by omega) rfl
      rw [Nat.add_zero] at x0
      replace hx := Lib.hid hx
      have hbw : b < wr.heap.size := by omega
      have HX := Lib.hid (HF.out xs[k] (List.getElem_mem hlt))
      have htb := takes_bd xs[k].kind
      have ht1 : 0 ≤ 1 - takes xs[k].kind + 1 := by omega
      rcases Bool.eq_false_or_eq_true (termE xs[k]) with h1 | h1
      · by_cases h2 : m < takes xs[k].kind
        · have HA := Lib.hid (H_none (hr.out.trans (hrun_stop (acc := acc) hlt (.inr h2))))
          simp only [termE] at h1
          go_wp2_with fail
          refine (iTerm_any _ _ _ _ HX.out (HK.out.new (by repeat (first | with_reducible exact New.refl _ | with_reducible assumption | with_reducible refine New.drew ?_ | with_reducible refine New.drewN ?_ _ | with_reducible refine New.alloc ?_ _ | with_reducible refine New.setCell ?_ (by first | (simp; done) | (simp; omega) | omega) _ | with_reducible refine New.trans ?_ (by with_reducible assumption))))).mono ?_; rintro e w1 ⟨rfl, b1⟩
          try with_reducible replace b1 := New.undrawN b1
          try with_reducible replace b1 := New.undraw b1
          obtain ⟨c1, f1⟩ := b1.rules
          have z1 := b1.size
          try simp only [World.size_alloc, World.size_drew, World.heap_drewN, World.size_setCell] at z1
          have z1_0 : wr.heap.size < w1.heap.size := by omega
          go_wp2_with fail
          go_wp2_with (first | (go_at_call 117; refine (iArguments_any _ _).mono ?_; rintro e _ ⟨rfl, rfl⟩))
          go_ret2
          rw [HA.out.1, HA.out.2.2]
          exact ⟨rfl, (by repeat (first | with_reducible exact New.refl _ | with_reducible assumption | with_reducible refine New.drew ?_ | with_reducible refine New.drewN ?_ _ | with_reducible refine New.alloc ?_ _ | with_reducible refine New.setCell ?_ (by first | (simp; done) | (simp; omega) | omega) _ | with_reducible refine New.trans ?_ (by with_reducible assumption)))⟩
        · have HA := Lib.hid (hr.out.trans (hrun_step (acc := acc) hlt h1 (by omega)))
          simp only [termE] at h1
          go_wp2_with fail
          refine (iTerm_any _ _ _ _ HX.out (HK.out.new (by repeat (first | with_reducible exact New.refl _ | with_reducible assumption | with_reducible refine New.drew ?_ | with_reducible refine New.drewN ?_ _ | with_reducible refine New.alloc ?_ _ | with_reducible refine New.setCell ?_ (by first | (simp; done) | (simp; omega) | omega) _ | with_reducible refine New.trans ?_ (by with_reducible assumption))))).mono ?_; rintro e w1 ⟨rfl, b1⟩
          try with_reducible replace b1 := New.undrawN b1
          try with_reducible replace b1 := New.undraw b1
          obtain ⟨c1, f1⟩ := b1.rules
          have z1 := b1.size
          try simp only [World.size_alloc, World.size_drew, World.heap_drewN, World.size_setCell] at z1
          have z1_0 : wr.heap.size < w1.heap.size := by omega
          go_wp2_with fail
          go_wp2_with (first | (go_at_call 117; refine (iArguments_any _ _).mono ?_; rintro e _ ⟨rfl, rfl⟩))
          go_roundw
          case rel => exact ⟨k + 1, m - takes xs[k].kind + 1, acc ++ [m - takes xs[k].kind + 1], by omega, by go_num, by go_num, by rw [maxL_app]; go_num, by omega, by omega, HA, (by repeat (first | with_reducible exact New.refl _ | with_reducible assumption | with_reducible refine New.drew ?_ | with_reducible refine New.drewN ?_ _ | with_reducible refine New.alloc ?_ _ | with_reducible refine New.setCell ?_ (by first | (simp; done) | (simp; omega) | omega) _ | with_reducible refine New.trans ?_ (by with_reducible assumption)))⟩
          case measure => simp [intOf]; omega
      · have HA := Lib.hid (H_none (hr.out.trans (hrun_stop (acc := acc) hlt (.inl h1))))
        simp only [termE] at h1
        go_wp2_with fail
        refine (iTerm_any _ _ _ _ HX.out (HK.out.new (by repeat (first | with_reducible exact New.refl _ | with_reducible assumption | with_reducible refine New.drew ?_ | with_reducible refine New.drewN ?_ _ | with_reducible refine New.alloc ?_ _ | with_reducible refine New.setCell ?_ (by first | (simp; done) | (simp; omega) | omega) _ | with_reducible refine New.trans ?_ (by with_reducible assumption))))).mono ?_; rintro e w1 ⟨rfl, b1⟩
        try with_reducible replace b1 := New.undrawN b1
        try with_reducible replace b1 := New.undraw b1
        obtain ⟨c1, f1⟩ := b1.rules
        have z1 := b1.size
        try simp only [World.size_alloc, World.size_drew, World.heap_drewN, World.size_setCell] at z1
        have z1_0 : wr.heap.size < w1.heap.size := by omega
        go_wp2_with fail
        go_ret2
        rw [HA.out.1, HA.out.2.2]
        exact ⟨rfl, (by repeat (first | with_reducible exact New.refl _ | with_reducible assumption | with_reducible refine New.drew ?_ | with_reducible refine New.drewN ?_ _ | with_reducible refine New.alloc ?_ _ | with_reducible refine New.setCell ?_ (by first | (simp; done) | (simp; omega) | omega) _ | with_reducible refine New.trans ?_ (by with_reducible assumption)))⟩
    · obtain rfl : k = xs.length := by omega
      have HA := Lib.hid (H_some (hr.out.trans hrun_end))
      go_wp2_with fail
      all_goals go_ret2
      all_goals rw [HA.out.1, HA.out.2.2]
      all_goals exact ⟨rfl, (by repeat (first | with_reducible exact New.refl _ | with_reducible assumption | with_reducible refine New.drew ?_ | with_reducible refine New.drewN ?_ _ | with_reducible refine New.alloc ?_ _ | with_reducible refine New.setCell ?_ (by first | (simp; done) | (simp; omega) | omega) _ | with_reducible refine New.trans ?_ (by with_reducible assumption)))⟩
theorem okH_one (xs : List ETerm) : okH xs = (oneH xs && decide (xs.length ≤ 40)) := by
  rw [okH, oneH]; split <;> simp
theorem iIsExpression_any (v : Value) (xs : List ETerm) (w : World) (hv : Rd w v xs.length (xs.flatMap encTerm)) (hf : ∀ x ∈ xs, fitTerm x) (hn : xs.length ≤ 1048576) (hk : KW w) :
    Calls Tryd.prog 63 #[v] w fun e w' => e = .returned (.bool (okH xs)) ∧ New w w' := by
  obtain ⟨a, cap, rfl, _⟩ := id hv
  have HV := Lib.hid hv; clear hv
  have HK := Lib.hid hk; clear hk
  have HO := Lib.hid (okH_one xs)
  rcases Bool.eq_false_or_eq_true (oneH xs) with h1 | h1
  all_goals go_enter Tryd.func63, Tryd.ntmps63
  all_goals go_wp2_with fail
  all_goals refine (height_any _ xs _ HV.out hf hn HK.out).mono ?_; rintro e w1 ⟨rfl, b1⟩
  all_goals go_wp2_with fail
  all_goals go_ret
  all_goals refine ⟨ret_bool ?_, (by repeat (first | with_reducible exact New.refl _ | with_reducible assumption | with_reducible refine New.drew ?_ | with_reducible refine New.drewN ?_ _ | with_reducible refine New.alloc ?_ _ | with_reducible refine New.setCell ?_ (by first | (simp; done) | (simp; omega) | omega) _ | with_reducible refine New.trans ?_ (by with_reducible assumption)))⟩
  all_goals rw [HO.out, h1]
  all_goals (simp; try omega)
end Go.Proofs.YteielmihlfakgaaDoor
