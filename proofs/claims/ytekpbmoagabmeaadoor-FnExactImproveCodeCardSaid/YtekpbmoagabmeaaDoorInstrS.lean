/- Contracts: the laws' helpers on lists of instructions. -/
import Derived.Test.YtekpbmoagabmeaaDoorProg
import Derived.Test.YtekpbmoagabmeaaDoorInts
namespace Go.Proofs.YtekpbmoagabmeaaDoor
open Go Go.Proofs Go.RowKit
set_option linter.unusedVariables false
set_option linter.unusedSimpArgs false
set_option maxRecDepth 100000
structure EInstruction where (op : Int) (arg : Int)
  deriving DecidableEq
def encInstruction (x : EInstruction) : List Value := [.int .i64 x.op, .int .i64 x.arg]
theorem encInstruction_len (x : EInstruction) : (encInstruction x).length = 2 := rfl
def valInstruction (x : EInstruction) : Value := .agg #[.int .i64 x.op, .int .i64 x.arg]
def mkInstruction (k : Nat) (j : Nat) : EInstruction := ⟨((k + j * 2 : Nat) : Int), ((k + j * 2 + 1 : Nat) : Int)⟩
theorem infoInstruction : (Tryd.prog.info? 58).map (fun i => (i.zero, i.size, i.bytes)) = some (some (Value.agg #[Value.int .i64 0, Value.int .i64 0]), 2, 16) := by kernel_rfl
theorem toInstruction_any (op : Int) (arg : Int) (w : World) : Calls Tryd.prog 57 #[.agg #[.int .i64 op, .int .i64 arg]] w fun e w' => e = .returned (.agg #[.int .i64 op, .int .i64 arg]) ∧ New w w' := by
  go_enter Tryd.func57, Tryd.ntmps57
  go_wp2_with fail
  refine bodyPost_ret (v := .agg #[.int .i64 op, .int .i64 arg]) (by simp [results, Tryd.results57, go_sem]) rfl ⟨rfl, (by repeat (first | with_reducible exact New.refl _ | with_reducible assumption | with_reducible refine New.drew ?_ | with_reducible refine New.drewN ?_ _ | with_reducible refine New.alloc ?_ _ | with_reducible refine New.setCell ?_ (by first | (simp; done) | (simp; omega) | omega) _ | with_reducible refine New.trans ?_ (by with_reducible assumption)))⟩
theorem eqInstruction_any (x y : EInstruction) (w : World) : Calls Tryd.prog 64 #[.agg #[.int .i64 x.op, .int .i64 x.arg], .agg #[.int .i64 y.op, .int .i64 y.arg]] w fun e w' => e = .returned (.bool (decide (x = y))) ∧ New w w' := by
  obtain ⟨op, arg⟩ := x
  obtain ⟨op', arg'⟩ := y
  dsimp only
  go_enter Tryd.func64, Tryd.ntmps64
  go_wp2_with fail
  all_goals (go_ret; exact ⟨ret_bool (by simp_all), (by repeat (first | with_reducible exact New.refl _ | with_reducible assumption | with_reducible refine New.drew ?_ | with_reducible refine New.drewN ?_ _ | with_reducible refine New.alloc ?_ _ | with_reducible refine New.setCell ?_ (by first | (simp; done) | (simp; omega) | omega) _ | with_reducible refine New.trans ?_ (by with_reducible assumption)))⟩)
set_option maxHeartbeats 800000 in
theorem toInstructionS_any (v : Value) (xs : List EInstruction) (w : World) (hv : Rd w v xs.length (xs.flatMap encInstruction)) (hn : xs.length ≤ 1048576) :
    Calls Tryd.prog 27 #[v] w (RetSlice w 58 2 xs.length (xs.flatMap encInstruction)) := by
  obtain ⟨a, cap, rfl, hm, HC⟩ := Rd.flat encInstruction_len (by omega) hv
  clear hv
  obtain ⟨i0, hi, hz0, hz1, hz2⟩ := info_parts infoInstruction
  go_enter Tryd.func27, Tryd.ntmps27
  go_wp2_with (at_make; refine wpList_make_full _ rfl _ _ 28 rfl w.heap.size 58 i0 (Value.agg #[Value.int .i64 0, Value.int .i64 0]) 2 Tryd.underlying28 hi hz0 hz1 .i64 .i64 _ _ xs.length rfl rfl rfl rfl (by rw [hz2]; omega) (by unfold maxLen; omega) (Nat.le_refl _) ?_; intro w1 hown hgr)
  have b1 : New w w1 := (New.refl w).grown hgr (fun k hk => by cases hk)
  have hown1 : w1.ownsRow w.heap.size 58 2 (.slice (some ⟨w.heap.size, 0, none⟩) xs.length xs.length) xs.length ((xs.take 0).flatMap encInstruction ++ (List.replicate (xs.length - 0) [Value.int .i64 0, Value.int .i64 0]).flatten) := by
    have e := made_flat #[Value.int .i64 0, Value.int .i64 0] xs.length (by decide)
    simp only [List.take_zero, List.flatMap_nil, List.nil_append, Nat.sub_zero]
    rw [← e]; exact hown
  clear hown hgr hz2 hz1 hz0 hi
  go_wp2_with fail
  go_loopw [4] (fun i wr => ∃ k : Nat, k ≤ xs.length ∧ i = .int .i64 k ∧ New w wr ∧ wr.ownsRow w.heap.size 58 2 (.slice (some ⟨w.heap.size, 0, none⟩) xs.length xs.length) xs.length ((xs.take k).flatMap encInstruction ++ (List.replicate (xs.length - k) [Value.int .i64 0, Value.int .i64 0]).flatten)) (fun i _ => xs.length - (intOf i).toNat)
  case atStart => exact ⟨0, Nat.zero_le _, rfl, b1, hown1⟩
  case round =>
    obtain ⟨k, hk, rfl, hb, hown⟩ := hrel
    clear b1 hown1
    obtain ⟨c, f⟩ := hb.rules
    by_cases hlt : k < xs.length
    · obtain ⟨b, off, rfl, hbl, hx⟩ := HC.out k hlt
      have x0 := hx 0 _ (by omega) rfl
      have x1 := hx 1 _ (by omega) rfl
      rw [Nat.add_zero] at x0
      replace hx := Lib.hid hx
      have hdn : ∀ i u, i < 2 → ([Value.int .i64 0, Value.int .i64 0] : List Value)[i]? = some u → wr.cell? ⟨w.heap.size, k * 2 + i, none⟩ = some u := fun i u hi hu => by
        rw [hown.cellAt (k * 2 + i) (by omega), flat_zero_at encInstruction 2 encInstruction_len _ rfl xs k hlt i hi, hu]
      have d0 := hdn 0 _ (by omega) rfl
      have d1 := hdn 1 _ (by omega) rfl
      rw [Nat.add_zero] at d0
      clear hdn
      have hwr : w.heap.size < wr.heap.size := (own_block_lt hown _ rfl).2
      have f0 := hown.frozenAt (k * 2)
      have f1 := hown.frozenAt (k * 2 + 1)
      go_wp2_with fail
      refine (toInstruction_any _ _ _).mono ?_; rintro e w2 ⟨rfl, b2⟩
      try with_reducible replace b2 := New.undrawN b2
      try with_reducible replace b2 := New.undraw b2
      obtain ⟨c2, f2⟩ := b2.rules
      have z2 := b2.size
      try simp only [World.size_alloc, World.size_drew, World.heap_drewN, World.size_setCell] at z2
      have z2_0 : w.heap.size < w2.heap.size := by omega
      go_wp2_with fail
      go_roundw
      case rel =>
        have h1 := (((own_new hown b2).stored (k * 2) (.int .i64 xs[k].op)).1.stored (k * 2 + 1) (.int .i64 xs[k].arg)).1
        have h2 := set_flat encInstruction 2 encInstruction_len [Value.int .i64 0, Value.int .i64 0] rfl xs k hlt
        simp only [setFrom, encInstruction] at h2
        rw [h2] at h1
        exact ⟨k + 1, by omega, by go_num, (((hb.trans b2).setCell (Nat.le_refl _) _).setCell (Nat.le_refl _) _), h1⟩
      case measure => simp [intOf]; omega
    · obtain rfl : k = xs.length := by omega
      go_wp2_with fail
      go_ret
      exact ⟨_, rfl, hb, by simpa using hown⟩
theorem szInstructionS_any (v : Value) (n : Nat) (cs : List Value) (left : Int) (w : World) (hv : Rd w v n cs) (hl : 0 ≤ left) (hl' : left ≤ 1048576) :
    Calls Tryd.prog 24 #[v, .int .i64 left] w fun e w' => e = .returned (.int .i64 (szL n left)) ∧ w = w' := by
  obtain ⟨a, cap, rfl, hn, h0, hc⟩ := hv
  go_enter Tryd.func24, Tryd.ntmps24
  go_wp2_with fail
  all_goals go_ret
  all_goals refine ⟨ret_int ?_, rfl⟩
  · unfold szL; rw [if_neg (by omega)]
  · unfold szL; rw [if_pos (by omega)]
set_option maxHeartbeats 800000 in
theorem eqInstructionS_any (v u : Value) (xs ys : List EInstruction) (w : World) (hv : Rd w v xs.length (xs.flatMap encInstruction)) (hu : Rd w u ys.length (ys.flatMap encInstruction)) :
    Calls Tryd.prog 32 #[v, u] w fun e w' => e = .returned (.bool (decide (xs = ys))) ∧ New w w' := by
  obtain ⟨a, cap, rfl, hn, HC⟩ := Rd.flat encInstruction_len (by omega) hv
  obtain ⟨a', cap', rfl, hn', HC'⟩ := Rd.flat encInstruction_len (by omega) hu
  clear hv hu
  by_cases hlen : xs.length = ys.length
  · have hne : ((xs.length : Int) != ys.length) = false := by simp [hlen]
    have HL : Hid (xs.length = ys.length) := hlen
    have hle : xs.length ≤ ys.length := by omega
    have hge : ys.length ≤ xs.length := by omega
    clear hlen
    go_enter Tryd.func32, Tryd.ntmps32
    go_wp2_with fail
    go_loopw [5] (fun i wr => ∃ k : Nat, k ≤ xs.length ∧ i = .int .i64 k ∧ Hid (xs.take k = ys.take k) ∧ New w wr) (fun i _ => xs.length - (intOf i).toNat)
    case atStart => exact ⟨0, Nat.zero_le _, rfl, rfl, New.refl w⟩
    case round =>
      obtain ⟨k, hk, rfl, hpre, hb⟩ := hrel
      obtain ⟨c, f⟩ := hb.rules
      have hsz := hb.size
      by_cases hlt : k < xs.length
      · have hlt' : k < ys.length := by omega
        obtain ⟨b, off, rfl, hbl, hx⟩ := HC.out k hlt
        obtain ⟨b', off', rfl, hbl', hy⟩ := HC'.out k hlt'
        have hbw : b < wr.heap.size := by omega
        have hbw' : b' < wr.heap.size := by omega
        have x0 := hx 0 _ (by omega) rfl
        have x1 := hx 1 _ (by omega) rfl
        rw [Nat.add_zero] at x0
        have y0 := hy 0 _ (by omega) rfl
        have y1 := hy 1 _ (by omega) rfl
        rw [Nat.add_zero] at y0
        replace hx := Lib.hid hx
        replace hy := Lib.hid hy
        go_wp2_with fail
        have hq := fun (n : NewOf wr) b o => NewOf.cell n b o
        refine wp_region_new (by kernel_rfl) (by kernel_rfl) ?_
        repeat (first | go_big_quiet_skip | go_big_quiet_step ((first | exact newq (eqInstruction_any xs[k] ys[k] _))) | quiet_step ((first | exact newq (eqInstruction_any xs[k] ys[k] _))))
        refine wpQuiet_nil ?_
        rintro ⟨w3, b3⟩
        dsimp only
        try with_reducible replace b3 := New.undrawN b3
        try with_reducible replace b3 := New.undraw b3
        obtain ⟨c3, f3⟩ := b3.rules
        have z3 := b3.size
        try simp only [World.size_alloc, World.size_drew, World.heap_drewN, World.size_setCell] at z3
        go_wp2_with fail
        · go_ret
          have hh : (!decide (xs[k] = ys[k])) = true := by assumption
          refine ⟨ret_bool (Eq.symm (decide_eq_false ?_)), (by repeat (first | with_reducible exact New.refl _ | with_reducible assumption | with_reducible refine New.drew ?_ | with_reducible refine New.drewN ?_ _ | with_reducible refine New.alloc ?_ _ | with_reducible refine New.setCell ?_ (by first | (simp; done) | (simp; omega) | omega) _ | with_reducible refine New.trans ?_ (by with_reducible assumption)))⟩
          rintro rfl
          simp at hh
        · have hh : (!decide (xs[k] = ys[k])) = false := by assumption
          replace hh : xs[k] = ys[k] := by simpa using hh
          replace hh := Lib.hid hh
          go_roundw
          case rel => exact ⟨k + 1, by omega, by go_num, Lib.hid (by rw [List.take_succ_eq_append_getElem hlt, List.take_succ_eq_append_getElem hlt', hpre.out, hh.out]), (by repeat (first | with_reducible exact New.refl _ | with_reducible assumption | with_reducible refine New.drew ?_ | with_reducible refine New.drewN ?_ _ | with_reducible refine New.alloc ?_ _ | with_reducible refine New.setCell ?_ (by first | (simp; done) | (simp; omega) | omega) _ | with_reducible refine New.trans ?_ (by with_reducible assumption)))⟩
          case measure => simp [intOf]; omega
      · have hkx : k = xs.length := by omega
        have hky : k = ys.length := by omega
        have he : xs = ys := by
          have := hpre.out
          rwa [List.take_of_length_le (by omega), List.take_of_length_le (by omega)] at this
        have HE := Lib.hid he
        clear hkx hky he
        go_wp2_with fail
        go_ret
        exact ⟨ret_bool (decide_eq_true HE.out).symm, hb⟩
  · have hne : ((xs.length : Int) != ys.length) = true := by simp; omega
    go_enter Tryd.func32, Tryd.ntmps32
    go_wp2_with fail
    go_ret
    exact ⟨ret_bool (decide_eq_false (fun h => hlen (by rw [h]))).symm, New.refl w⟩
set_option maxHeartbeats 1600000 in
theorem markInstructionS_any (v : Value) (xs : List EInstruction) (base k : Nat) (w : World) (hv : w.ownsRow base 58 2 v xs.length (xs.flatMap encInstruction)) (hn : xs.length ≤ 1048576) (hk : k ≤ 1048576000) :
    Calls Tryd.prog 34 #[v, .int .i64 k] w (MarkedE encInstruction 2 (mkInstruction k) v base xs.length (k + xs.length * 2) 58 w) := by
  by_cases h0 : xs.length = 0
  · have hx : xs = [] := List.eq_nil_of_length_eq_zero h0
    subst hx
    obtain ⟨a, cap, hve⟩ := own_slice hv
    subst hve
    go_enter Tryd.func34, Tryd.ntmps34
    go_wp2_with fail
    refine wp_loop_rounds 1 ?_
    rw [rounds_succ]
    go_wp2_with fail
    go_ret
    exact ⟨rfl, Only.refl _ _, hv⟩
  · obtain ⟨g, cap, rfl⟩ : ∃ g cap, v = .slice (some ⟨g, 0, none⟩) xs.length cap := by
      rcases hv.2 with ⟨_, h⟩ | ⟨g, cap, cur, h, _⟩
      · exact absurd h h0
      · exact ⟨g, cap, h⟩
    clear h0
    go_enter Tryd.func34, Tryd.ntmps34
    go_wp2_with fail
    go_loopw [1, 5] (fun kk i wr => ∃ j : Nat, j ≤ xs.length ∧ i = .int .i64 j ∧ kk = .int .i64 ((k + j * 2 : Nat) : Int) ∧ Only (.slice (some ⟨g, 0, none⟩) xs.length cap) w wr ∧ wr.ownsRow base 58 2 (.slice (some ⟨g, 0, none⟩) xs.length cap) xs.length ((marksE (mkInstruction k) j ++ xs.drop j).flatMap encInstruction)) (fun _ i _ => xs.length - (intOf i).toNat)
    case atStart => exact ⟨0, Nat.zero_le _, rfl, by simp, Only.refl _ _, by simpa [marksE] using hv⟩
    case round =>
      obtain ⟨j, hj, rfl, rfl, ho, hown⟩ := hrel
      clear hv
      by_cases hlt : j < xs.length
      · have hln := marksE_len (mkInstruction k) xs j hj
        have hdn : ∀ i u, i < 2 → (encInstruction xs[j])[i]? = some u → wr.cell? ⟨g, j * 2 + i, none⟩ = some u := fun i u hi hu => by
          rw [hown.cellAt (j * 2 + i) (by omega), flat_at encInstruction 2 encInstruction_len _ j (by rw [hln]; exact hlt) i hi, marksE_at _ _ _ hlt, hu]
        have d0 := hdn 0 _ (by omega) rfl
        have d1 := hdn 1 _ (by omega) rfl
        rw [Nat.add_zero] at d0
        clear hdn
        have f0 := hown.frozenAt (j * 2)
        have f1 := hown.frozenAt (j * 2 + 1)
        clear hln
        have hgw : g < wr.heap.size := (own_block_lt hown g rfl).2
        go_wp2_with fail
        go_roundw
        case rel =>
          have h1 := ((hown.stored (j * 2) (.int .i64 (((k + j * 2 : Nat) : Int)))).1.stored (j * 2 + 1) (.int .i64 (((k + j * 2 + 1 : Nat) : Int)))).1
          have h2 := set_flat2 encInstruction 2 encInstruction_len (marksE (mkInstruction k) j ++ xs.drop j) j (by rw [marksE_len _ _ _ hj]; exact hlt) (mkInstruction k j)
          rw [marksE_set _ _ _ hlt] at h2
          simp only [setFrom, encInstruction, mkInstruction] at h2
          rw [h2] at h1
          refine ⟨j + 1, by omega, by go_num, by go_num, ?_⟩
          try simp only [Int.natCast_add, Int.natCast_mul, Int.natCast_one, Int.cast_ofNat_Int, Int.add_assoc, Int.reduceAdd, Nat.cast_ofNat] at h1 ⊢
          exact ⟨((ho.set rfl _).set rfl _), h1⟩
        case measure => simp [intOf]; omega
      · obtain rfl : j = xs.length := by omega
        go_wp2_with fail
        go_ret
        exact ⟨rfl, ho, by simpa using hown⟩
set_option maxHeartbeats 1600000 in
theorem heldInstructionS_any (v : Value) (k n : Nat) (w : World) (hv : Rd w v n ((marksE (mkInstruction k) n).flatMap encInstruction)) (hn : n ≤ 1048576) (hk : k ≤ 1048576000) :
    Calls Tryd.prog 36 #[v, .int .i64 k] w fun e w' => e = .returned (.int .i64 ((k + n * 2 : Nat) : Int)) ∧ w = w' := by
  have hl := marksE_length (mkInstruction k) n
  obtain ⟨a, cap, rfl, hm, HC⟩ := Rd.flat (xs := marksE (mkInstruction k) n) encInstruction_len (by omega) (by rw [hl]; exact hv)
  rw [hl] at hm ⊢
  clear hv
  go_enter Tryd.func36, Tryd.ntmps36
  go_wp2_with fail
  go_loop [1, 5] (fun kk i => ∃ j : Nat, j ≤ n ∧ i = .int .i64 j ∧ kk = .int .i64 ((k + j * 2 : Nat) : Int)) (fun _ i => n - (intOf i).toNat)
  case atStart => exact ⟨0, Nat.zero_le _, rfl, by simp⟩
  case round =>
    obtain ⟨j, hj, rfl, rfl⟩ := hrel
    by_cases hlt : j < n
    · obtain ⟨b, off, rfl, hb, hx⟩ := HC.out j (by rw [hl]; exact hlt)
      rw [marksE_get _ n j hlt] at hx
      have x0 := hx 0 _ (by omega) rfl
      have x1 := hx 1 _ (by omega) rfl
      rw [Nat.add_zero] at x0
      simp only [mkInstruction] at x0
      simp only [mkInstruction] at x1
      replace hx := Lib.hid hx
      clear hl
      go_wp2_with fail
      go_round
      case rel => exact ⟨j + 1, by omega, by go_num, by go_num⟩
      case measure => simp [intOf]; omega
    · obtain rfl : j = n := by omega
      go_wp2_with fail
      go_ret
      exact ⟨rfl, rfl⟩
end Go.Proofs.YtekpbmoagabmeaaDoor
