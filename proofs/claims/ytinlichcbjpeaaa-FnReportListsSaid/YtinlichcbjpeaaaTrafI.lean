/- Contracts: the blocks that trains use: the program. -/
import Derived.Test.YtinlichcbjpeaaaProg
import Derived.Test.YtinlichcbjpeaaaTrafP
namespace Go.Proofs.Ytinlichcbjpeaaa
open Go Go.Proofs Go.RowKit
set_option linter.unusedVariables false
set_option linter.unusedSimpArgs false
set_option maxRecDepth 100000
theorem own_cells {w : World} {base b n : Nat} {e : TypeId} {cs : Array Value} (h : base ≤ w.heap.size) (hb : b = w.heap.size) (hn : n = cs.size) (hm : cs.size ≤ 1000) : (w.alloc (.cells cs e)).ownsRow base e 1 (.slice (some ⟨b, 0, none⟩) n n) n cs.toList := by
  subst hb hn
  refine ⟨by simp, .inr ⟨w.heap.size, cs.size, cs, rfl, h, Array.getElem?_push_size, Nat.le_refl _, by unfold maxLen; omega, by simp, by rw [Nat.mul_one, List.take_of_length_le (by simp)]⟩⟩
theorem sort2_len (x y : Int) : (sort2 x y).length = 2 := by unfold sort2; split <;> rfl
set_option maxHeartbeats 1600000 in
theorem iUsed_any (n : Int) (s : Value) (ps : List Int) (t : Nat) (w : World) (hv : RdI w s ps) (hn : 2 ≤ n ∧ n ≤ 8) (hl : ps.length ≤ 4) (hp : PlacesOk n ps) (ht : t < ps.length) :
    Calls Try.prog 82 #[.agg #[.int .i64 n, s], .int .i64 t] w fun e w' => ∃ r, e = .returned r ∧ New w w' ∧ w'.ownsRow (w.heap.size + 1) 2 1 r (usedQ n ps[t]).length ((usedQ n ps[t]).map (Value.int .i64)) := by
  obtain ⟨a, cap, rfl, hm, HC⟩ := hv.open
  clear hv
  obtain ⟨b, off, rfl, hbl, hx⟩ := HC.out w (New.refl w) t ht
  obtain ⟨hp1, hp2⟩ := hp ps[t] (List.getElem_mem ht)
  have HU := Lib.hid (usedQ_eq hn ⟨hp1, hp2⟩)
  rw [HU.out]
  clear hp
  generalize ps[t] = x at *
  obtain ⟨hn1, hn2⟩ := hn
  have hbw1 : b < w.heap.size + 1 := by omega
  have e1 : IntKind.i64.wrap (x / 3 + 1) = x / 3 + 1 := IntWalk.i64_in _ (by omega)
  by_cases h2 : x % 3 = 2
  · rw [if_pos h2]
    have hb2 : (x % 3 != 2) = false := by simp [h2]
    clear h2
    go_enter Try.func82, Try.ntmps82
    go_wp2_with fail
    go_quiet (fail)
    go_wp2_with fail
    refine (sort2_any (x / 3) ((x / 3 + 1) % n) (w.heap.size + 1) 2 (w.heap.size + 1) _ (own_cells (cs := #[.int .i64 (x / 3), .int .i64 ((x / 3 + 1) % n)]) (by simp) (by simp) rfl (by simp))).mono ?_
    rintro e w2 ⟨rfl, t2, own2⟩
    have b2 : New w w2 := t2.new (show New w _ by exact (by repeat (first | with_reducible exact New.refl _ | with_reducible assumption | with_reducible refine New.drew ?_ | with_reducible refine New.drewN ?_ _ | with_reducible refine New.alloc ?_ _ | with_reducible refine New.setCell ?_ (by first | (simp; done) | (simp; omega) | omega) _ | with_reducible refine New.trans ?_ (by with_reducible assumption)))) (Nat.le_succ _)
    go_wp2_with fail
    go_ret
    refine ⟨_, rfl, b2, ?_⟩
    rw [sort2_len]
    exact own2
  · rw [if_neg h2]
    have hb2 : (x % 3 != 2) = true := by simp [h2]
    clear h2
    go_enter Try.func82, Try.ntmps82
    go_wp2_with fail
    go_quiet (fail)
    go_wp2_with fail
    go_ret
    refine ⟨_, rfl, (by repeat (first | with_reducible exact New.refl _ | with_reducible assumption | with_reducible refine New.drew ?_ | with_reducible refine New.drewN ?_ _ | with_reducible refine New.alloc ?_ _ | with_reducible refine New.setCell ?_ (by first | (simp; done) | (simp; omega) | omega) _ | with_reducible refine New.trans ?_ (by with_reducible assumption))), ?_⟩
    exact own_cells (by simp) (by simp) rfl (by simp)
set_option maxHeartbeats 800000 in
theorem max_any (v : Value) (xs : List Int) (w : World) (hv : RdI w v xs) (h0 : 0 < xs.length) :
    Calls Try.prog 110 #[v] w fun e w' => e = .returned (.int .i64 (maxOf xs)) ∧ w = w' := by
  obtain ⟨a, cap, rfl, hm, HC⟩ := hv.open
  clear hv
  obtain ⟨b, off, rfl, hbl, hx0⟩ := HC.out w (New.refl w) 0 h0
  rw [Nat.add_zero] at hx0
  have HM := Lib.hid (fun k (h : k < xs.length) (h1 : 0 < k) => maxOf_next xs k h h1)
  have HM1 := Lib.hid (show maxOf (xs.take 1) = xs[0] by cases xs with | nil => simp at h0 | cons y ys => rfl)
  go_enter Try.func110, Try.ntmps110
  go_wp2_with fail
  go_loop [3, 4] (fun m i => ∃ k : Nat, 1 ≤ k ∧ k ≤ xs.length ∧ i = .int .i64 k ∧ m = .int .i64 (maxOf (xs.take k))) (fun _ i => xs.length - (intOf i).toNat)
  case atStart => exact ⟨1, Nat.le_refl _, h0, rfl, by rw [HM1.out]⟩
  case round =>
    obtain ⟨k, hk1, hk, rfl, rfl⟩ := hrel
    by_cases hlt : k < xs.length
    · obtain ⟨b', off', he, _, hx⟩ := HC.out w (New.refl w) k hlt
      cases he
      have HA := Lib.hid (HM.out k hlt hk1)
      go_wp2_with fail
      go_round
      case rel => exact ⟨k + 1, by omega, by omega, by go_num, by rw [HA.out]; exact congrArg (Value.int .i64) (by split <;> omega)⟩
      case measure => simp [intOf]; omega
    · obtain rfl : k = xs.length := by omega
      go_wp2_with fail
      go_ret
      exact ⟨rfl, rfl⟩
set_option maxHeartbeats 4000000 in
theorem iLoads_any (n : Int) (s : Value) (ps : List Int) (w : World) (hv : RdI w s ps) (h1 : isTraf n ps = true) :
    Calls Try.prog 84 #[.agg #[.int .i64 n, s]] w fun e w' => ∃ r, e = .returned r ∧ New w w' ∧ w'.ownsRow (w.heap.size + 1) 2 1 r (loadsQ n ps).length ((loadsQ n ps).map (Value.int .i64)) := by
  obtain ⟨i0, hi, hz0, hz1, hz2⟩ := info_parts infoInt
  have HV := Lib.hid hv
  obtain ⟨a, cap, rfl, hm, _⟩ := hv
  have zz : w.heap.size < w.heap.size + 1 := by omega
  obtain ⟨hn, hl, hp⟩ := isTraf_ok h1
  have HP := Lib.hid hp; clear hp h1
  have hl4 := hl.2
  have HN := Lib.hid hn
  obtain ⟨hn1, hn2⟩ := hn
  have HST := Lib.hid (fun k (h : k < ps.length) => loads_step (n := n) h)
  have HZ := Lib.hid (loads_zero n)
  have HLL := Lib.hid (fun qs => show (loadsQ n qs).length = n.toNat from loadsTo_len n qs _)
  have HUM := Lib.hid (fun p u (h : u ∈ usedQ n p) => usedQ_mem h)
  have HLB := Lib.hid (fun qs => loads_bd n qs)
  have HUL := Lib.hid (fun p => show (usedQ n p).length ≤ n.toNat from usedTo_len n p _)
  have hnn : n = (n.toNat : Int) := by omega
  generalize n.toNat = m at *
  subst hnn
  go_enter Try.func84, Try.ntmps84
  go_wp2_with (at_make; refine wpList_make_full _ rfl _ _ 24 rfl (w.heap.size + 1) 2 i0 (.int .i64 0) 1 Try.underlying24 hi hz0 hz1 .i64 .i64 _ _ m rfl rfl rfl rfl (by rw [hz2]; omega) (by unfold maxLen; omega) (by simp) ?_; intro w1 hown hgr; have b1 : New (w.alloc (.cells #[.int .i64 (m : Int), .slice a ps.length cap] 32)) w1 := (New.refl _).grown hgr (fun k hk => by cases hk); obtain ⟨c1, f1⟩ := b1.rules; have z1 := b1.size; simp only [World.size_alloc] at z1)
  have hw1 := own_block_lt hown _ rfl
  have hown1 : w1.ownsRow (w.heap.size + 1) 2 1 (.slice (some ⟨w.heap.size + 1, 0, none⟩) m m) m ((List.replicate m (0 : Int)).map (Value.int .i64)) := by
    have e : (madeCells (Value.int .i64 0).cells (m * 1)).toList = (List.replicate m (0 : Int)).map (Value.int .i64) := by
      rw [show (Value.int .i64 0).cells = #[.int .i64 0] from rfl, toList_madeCells_one]; simp
    rw [← e]; have := hown; simp only [World.size_alloc] at this; exact this
  clear hown hgr
  refine (lengthI_any _ ps.length (ps.map (Value.int .i64)) _ (HV.out.new (((New.refl w).alloc _).trans b1))).mono ?_; rintro e w2 ⟨rfl, rfl⟩
  go_wp2_with fail
  go_loopw [13] (fun i wr => ∃ k : Nat, k ≤ ps.length ∧ i = .int .i64 k ∧ New (w.alloc (.cells #[.int .i64 (m : Int), .slice a ps.length cap] 32)) wr ∧ wr.ownsRow (w.heap.size + 1) 2 1 (.slice (some ⟨w.heap.size + 1, 0, none⟩) m m) m ((loadsQ m (ps.take k)).map (Value.int .i64))) (fun i _ => ps.length - (intOf i).toNat)
  case atStart => exact ⟨0, Nat.zero_le _, rfl, b1, by rw [List.take_zero, HZ.out]; exact hown1⟩
  case round =>
    rename World => wr1
    obtain ⟨k, hk, rfl, hb, hown⟩ := hrel
    clear c1 f1 z1 b1 hown1 hw1
    obtain ⟨cc, f'⟩ := hb.rules
    have hbz := hb.size
    simp only [World.size_alloc] at hbz
    have hb0 : New w wr1 := ((New.refl w).alloc _).trans hb
    have hww : w.heap.size < wr1.heap.size := by omega
    by_cases hlt : k < ps.length
    · have HS := Lib.hid (HST.out k hlt)
      have HU := Lib.hid (HUM.out ps[k])
      have HUK := HUL.out ps[k]
      go_wp2_with fail
      refine (iUsed_any _ _ ps k _ (HV.out.new (by repeat (first | with_reducible exact New.refl _ | with_reducible assumption | with_reducible refine New.drew ?_ | with_reducible refine New.drewN ?_ _ | with_reducible refine New.alloc ?_ _ | with_reducible refine New.setCell ?_ (by first | (simp; done) | (simp; omega) | omega) _ | with_reducible refine New.trans ?_ (by with_reducible assumption)))) HN.out hl4 HP.out hlt).mono ?_; rintro e w3 ⟨r, rfl, b3, own3⟩
      obtain ⟨ra, rc, rfl⟩ := own_slice own3
      obtain ⟨c3, f3⟩ := b3.rules
      have z3 := b3.size
      try simp only [World.size_alloc, World.size_drew, World.heap_drewN, World.size_setCell] at z3
      have z3_0 : w.heap.size < w3.heap.size := by omega
      go_wp2_with fail
      have HLB2 := Lib.hid (HLB.out (ps.take k))
      have HINC := Lib.hid (fun (j : Nat) (h : j < (usedQ m ps[k]).length) => incs_next (loadsQ m (ps.take k)) (usedQ m ps[k]) j h)
      have HIL := Lib.hid (fun us => show (incs (loadsQ m (ps.take k)) us).length = m by rw [incs_len, HLL.out])
      have HIB := Lib.hid (fun us => incs_bd us (loadsQ m (ps.take k)) 4 (by omega) (fun x hx => by have h1 := HLB2.out x hx; have h2 : (ps.take k).length ≤ 4 := (by rw [List.length_take]; omega); omega))
      generalize usedQ m ps[k] = U at *
      generalize loadsQ m (ps.take k) = L at *
      go_loopw [20] (fun i wr2 => ∃ j : Nat, j ≤ U.length ∧ i = .int .i64 j ∧ New (w.alloc (.cells #[.int .i64 (m : Int), .slice a ps.length cap] 32)) wr2 ∧ wr2.ownsRow (w.heap.size + 1) 2 1 (.slice (some ⟨w.heap.size + 1, 0, none⟩) m m) m ((incs L (U.take j)).map (Value.int .i64)) ∧ wr2.ownsRow (wr1.heap.size + 1) 2 1 (.slice ra U.length rc) U.length (U.map (Value.int .i64))) (fun i _ => U.length - (intOf i).toNat)
      case atStart => exact ⟨0, Nat.zero_le _, rfl, hb.trans b3, by rw [List.take_zero]; exact own_new hown b3, own3⟩
      case round =>
        rename World => wr2
        obtain ⟨j, hj, rfl, hb2, hown2, hown3⟩ := hrel
        by_cases hlj : j < U.length
        · obtain ⟨ra', rc', he, hrm, HR⟩ := RdI.open (show RdI wr2 (.slice ra U.length rc) U from own_rd hown3)
          cases he
          obtain ⟨b', off', rfl, hbl', hy⟩ := HR.out wr2 (New.refl _) j hlj
          obtain ⟨hu1, hu2⟩ := HU.out U[j] (List.getElem_mem hlj)
          have HIN := Lib.hid (HINC.out j hlj)
          have hil := HIL.out (U.take j)
          obtain ⟨un, hun⟩ : ∃ un : Nat, U[j] = (un : Int) := ⟨U[j].toNat, by omega⟩
          have hum : un < m := by rw [hun] at hu2; simpa using hu2
          have hvv : (incs L (U.take j)).getD un 0 = (incs L (U.take j))[un]'(by omega) := by simp [List.getD, show un < (incs L (U.take j)).length by omega]
          have hvb := HIB.out (U.take j) _ (List.getElem_mem (show un < (incs L (U.take j)).length by omega))
          have hle : (U.take j).length ≤ 8 := by rw [List.length_take]; omega
          have hcell : wr2.cell? ⟨w.heap.size + 1, un, none⟩ = some (.int .i64 ((incs L (U.take j))[un]'(by omega))) := by
            rw [hown2.cellAt un (by omega)]; simp [show un < (incs L (U.take j)).length by omega]
          have hfz := hown2.frozenAt un
          have HNX := Lib.hid (show incs L (U.take (j + 1)) = (incs L (U.take j)).set un ((incs L (U.take j))[un]'(by omega) + 1) by rw [HIN.out, hun, Int.toNat_natCast, hvv])
          rw [hun] at hy
          replace hun := Lib.hid hun
          replace hil := Lib.hid hil
          replace hvv := Lib.hid hvv
          generalize (incs L (U.take j))[un]'(by have := hil.out; omega) = v at *
          have hgr : w.heap.size + 1 < wr2.heap.size := (own_block_lt hown2 _ rfl).2
          go_wp2_with fail
          go_roundw
          case rel =>
            have h1 := (hown2.stored un (.int .i64 (v + 1))).1
            have e1 : ((incs L (U.take j)).map (Value.int .i64)).set un (.int .i64 (v + 1)) = (incs L (U.take (j + 1))).map (Value.int .i64) := by rw [HNX.out, List.map_set]
            rw [e1] at h1
            exact ⟨j + 1, by omega, by go_num, hb2.setCell (by simp) _, h1, ownsRow_setCell_below hown3 (by dsimp; omega) _⟩
          case measure => simp [intOf]; omega
        · obtain rfl : j = U.length := by omega
          go_wp2_with fail
          go_roundw
          case rel => exact ⟨k + 1, by omega, by go_num, hb2, by rw [List.take_length, HS.out] at hown2; exact hown2⟩
          case measure => simp [intOf]; omega
    · obtain rfl : k = ps.length := by omega
      go_wp2_with fail
      go_ret
      refine ⟨_, rfl, hb0, ?_⟩
      rw [List.take_length] at hown
      rw [HLL.out]; exact hown
theorem iSafe0_any (n : Int) (s : Value) (ps : List Int) (w : World) (hv : RdI w s ps) (h1 : isTraf n ps = true) :
    Calls Try.prog 78 #[.agg #[.int .i64 n, s]] w fun e w' => e = .returned (.bool (safeQ n ps)) ∧ New w w' := by
  have HV := Lib.hid hv; clear hv
  obtain ⟨hn, hl, hp⟩ := isTraf_ok h1
  clear hp hl
  have HM := Lib.hid (safe_max (n := n) (ps := ps) hn.1)
  have hlp : 0 < (loadsQ n ps).length := by rw [loadsQ, loadsTo_len]; omega
  clear hn
  go_enter Try.func78, Try.ntmps78
  go_wp2_with fail
  refine (iLoads_any n s ps _ (HV.out.new (by repeat (first | with_reducible exact New.refl _ | with_reducible assumption | with_reducible refine New.drew ?_ | with_reducible refine New.drewN ?_ _ | with_reducible refine New.alloc ?_ _ | with_reducible refine New.setCell ?_ (by first | (simp; done) | (simp; omega) | omega) _ | with_reducible refine New.trans ?_ (by with_reducible assumption)))) h1).mono ?_; rintro e w2 ⟨r, rfl, b2, own2⟩
  obtain ⟨c2, f2⟩ := b2.rules
  have z2 := b2.size
  try simp only [World.size_alloc, World.size_drew, World.heap_drewN, World.size_setCell] at z2
  go_wp2_with fail
  refine (max_any r (loadsQ n ps) _ (own_rd own2) hlp).mono ?_; rintro e w3 ⟨rfl, rfl⟩
  go_wp2_with fail
  go_ret
  exact ⟨ret_bool HM.out, (by repeat (first | with_reducible exact New.refl _ | with_reducible assumption | with_reducible refine New.drew ?_ | with_reducible refine New.drewN ?_ _ | with_reducible refine New.alloc ?_ _ | with_reducible refine New.setCell ?_ (by first | (simp; done) | (simp; omega) | omega) _ | with_reducible refine New.trans ?_ (by with_reducible assumption)))⟩
theorem iIsSafe_any (n : Int) (s : Value) (ps : List Int) (w : World) (hv : RdI w s ps) :
    Calls Try.prog 25 #[.agg #[.int .i64 n, s]] w fun e w' => e = .returned (.bool (isTraf n ps && safeQ n ps)) ∧ New w w' := by
  have HV := Lib.hid hv; clear hv
  rcases Bool.eq_false_or_eq_true (isTraf n ps) with h1 | h1
  · go_enter Try.func25, Try.ntmps25
    go_wp2_with fail
    refine (iIsTraffic_any _ s ps _ (HV.out.new (by repeat (first | with_reducible exact New.refl _ | with_reducible assumption | with_reducible refine New.drew ?_ | with_reducible refine New.drewN ?_ _ | with_reducible refine New.alloc ?_ _ | with_reducible refine New.setCell ?_ (by first | (simp; done) | (simp; omega) | omega) _ | with_reducible refine New.trans ?_ (by with_reducible assumption))))).mono ?_; rintro e w1 ⟨rfl, b1⟩
    try with_reducible replace b1 := New.undrawN b1
    try with_reducible replace b1 := New.undraw b1
    obtain ⟨c1, f1⟩ := b1.rules
    have z1 := b1.size
    try simp only [World.size_alloc, World.size_drew, World.heap_drewN, World.size_setCell] at z1
    have z1_0 : w.heap.size < w1.heap.size := by omega
    go_wp2_with fail
    refine (iSafe0_any _ s ps _ (HV.out.new (by repeat (first | with_reducible exact New.refl _ | with_reducible assumption | with_reducible refine New.drew ?_ | with_reducible refine New.drewN ?_ _ | with_reducible refine New.alloc ?_ _ | with_reducible refine New.setCell ?_ (by first | (simp; done) | (simp; omega) | omega) _ | with_reducible refine New.trans ?_ (by with_reducible assumption)))) h1).mono ?_; rintro e w2 ⟨rfl, b2⟩
    try with_reducible replace b2 := New.undrawN b2
    try with_reducible replace b2 := New.undraw b2
    obtain ⟨c2, f2⟩ := b2.rules
    have z2 := b2.size
    try simp only [World.size_alloc, World.size_drew, World.heap_drewN, World.size_setCell] at z2
    have z2_0 : w.heap.size < w2.heap.size := by omega
    go_wp2_with fail
    go_ret
    exact ⟨ret_bool (by rw [h1]; rfl), (by repeat (first | with_reducible exact New.refl _ | with_reducible assumption | with_reducible refine New.drew ?_ | with_reducible refine New.drewN ?_ _ | with_reducible refine New.alloc ?_ _ | with_reducible refine New.setCell ?_ (by first | (simp; done) | (simp; omega) | omega) _ | with_reducible refine New.trans ?_ (by with_reducible assumption)))⟩
  · go_enter Try.func25, Try.ntmps25
    go_wp2_with fail
    refine (iIsTraffic_any _ s ps _ (HV.out.new (by repeat (first | with_reducible exact New.refl _ | with_reducible assumption | with_reducible refine New.drew ?_ | with_reducible refine New.drewN ?_ _ | with_reducible refine New.alloc ?_ _ | with_reducible refine New.setCell ?_ (by first | (simp; done) | (simp; omega) | omega) _ | with_reducible refine New.trans ?_ (by with_reducible assumption))))).mono ?_; rintro e w1 ⟨rfl, b1⟩
    try with_reducible replace b1 := New.undrawN b1
    try with_reducible replace b1 := New.undraw b1
    obtain ⟨c1, f1⟩ := b1.rules
    have z1 := b1.size
    try simp only [World.size_alloc, World.size_drew, World.heap_drewN, World.size_setCell] at z1
    have z1_0 : w.heap.size < w1.heap.size := by omega
    go_wp2_with fail
    go_ret
    exact ⟨ret_bool (by rw [h1]; rfl), (by repeat (first | with_reducible exact New.refl _ | with_reducible assumption | with_reducible refine New.drew ?_ | with_reducible refine New.drewN ?_ _ | with_reducible refine New.alloc ?_ _ | with_reducible refine New.setCell ?_ (by first | (simp; done) | (simp; omega) | omega) _ | with_reducible refine New.trans ?_ (by with_reducible assumption)))⟩
theorem iLoadsR_any (n : Int) (s : Value) (ps : List Int) (w : World) (hv : RdI w s ps) :
    Calls Try.prog 34 #[.agg #[.int .i64 n, s]] w (RetIC w (loadsR n ps)) := by
  have HV := Lib.hid hv; clear hv
  rcases Bool.eq_false_or_eq_true (isTraf n ps) with h1 | h1
  · rw [show loadsR n ps = (loadsQ n ps, 0) by rw [loadsR, if_pos h1]]
    go_enter Try.func34, Try.ntmps34
    go_wp2_with fail
    refine (iIsTraffic_any _ s ps _ (HV.out.new (by repeat (first | with_reducible exact New.refl _ | with_reducible assumption | with_reducible refine New.drew ?_ | with_reducible refine New.drewN ?_ _ | with_reducible refine New.alloc ?_ _ | with_reducible refine New.setCell ?_ (by first | (simp; done) | (simp; omega) | omega) _ | with_reducible refine New.trans ?_ (by with_reducible assumption))))).mono ?_; rintro e w1 ⟨rfl, b1⟩
    try with_reducible replace b1 := New.undrawN b1
    try with_reducible replace b1 := New.undraw b1
    obtain ⟨c1, f1⟩ := b1.rules
    have z1 := b1.size
    try simp only [World.size_alloc, World.size_drew, World.heap_drewN, World.size_setCell] at z1
    have z1_0 : w.heap.size < w1.heap.size := by omega
    go_wp2_with fail
    refine (iLoads_any _ s ps _ (HV.out.new (by repeat (first | with_reducible exact New.refl _ | with_reducible assumption | with_reducible refine New.drew ?_ | with_reducible refine New.drewN ?_ _ | with_reducible refine New.alloc ?_ _ | with_reducible refine New.setCell ?_ (by first | (simp; done) | (simp; omega) | omega) _ | with_reducible refine New.trans ?_ (by with_reducible assumption)))) h1).mono ?_; rintro e w2 ⟨r, rfl, b2, own2⟩
    obtain ⟨c2, f2⟩ := b2.rules
    have z2 := b2.size
    try simp only [World.size_alloc, World.size_drew, World.heap_drewN, World.size_setCell] at z2
    have z2_0 : w.heap.size < w2.heap.size := by omega
    go_wp2_with fail
    go_ret2
    exact ⟨r, rfl, (by repeat (first | with_reducible exact New.refl _ | with_reducible assumption | with_reducible refine New.drew ?_ | with_reducible refine New.drewN ?_ _ | with_reducible refine New.alloc ?_ _ | with_reducible refine New.setCell ?_ (by first | (simp; done) | (simp; omega) | omega) _ | with_reducible refine New.trans ?_ (by with_reducible assumption))), own_base own2 (by omega)⟩
  · rw [show loadsR n ps = ([], 1) by rw [loadsR, if_neg (by simp [h1])]]
    go_enter Try.func34, Try.ntmps34
    go_wp2_with fail
    refine (iIsTraffic_any _ s ps _ (HV.out.new (by repeat (first | with_reducible exact New.refl _ | with_reducible assumption | with_reducible refine New.drew ?_ | with_reducible refine New.drewN ?_ _ | with_reducible refine New.alloc ?_ _ | with_reducible refine New.setCell ?_ (by first | (simp; done) | (simp; omega) | omega) _ | with_reducible refine New.trans ?_ (by with_reducible assumption))))).mono ?_; rintro e w1 ⟨rfl, b1⟩
    try with_reducible replace b1 := New.undrawN b1
    try with_reducible replace b1 := New.undraw b1
    obtain ⟨c1, f1⟩ := b1.rules
    have z1 := b1.size
    try simp only [World.size_alloc, World.size_drew, World.heap_drewN, World.size_setCell] at z1
    have z1_0 : w.heap.size < w1.heap.size := by omega
    go_wp2_with fail
    go_ret2
    exact ⟨_, rfl, (by repeat (first | with_reducible exact New.refl _ | with_reducible assumption | with_reducible refine New.drew ?_ | with_reducible refine New.drewN ?_ _ | with_reducible refine New.alloc ?_ _ | with_reducible refine New.setCell ?_ (by first | (simp; done) | (simp; omega) | omega) _ | with_reducible refine New.trans ?_ (by with_reducible assumption))), World.ownsRow_nil _ _ _ _⟩
theorem iHasTrain_any (n : Int) (s : Value) (ps : List Int) (t : Int) (w : World) (hv : RdI w s ps) (hl : ps.length ≤ 4) :
    Calls Try.prog 81 #[.agg #[.int .i64 n, s], .int .i64 t] w fun e w' => e = .returned (.bool (inB t 0 ((ps.length : Int) - 1))) ∧ New w w' := by
  have HV := Lib.hid hv
  obtain ⟨a, cap, rfl, hm, _⟩ := hv
  go_enter Try.func81, Try.ntmps81
  go_wp2_with fail
  refine (lengthI_any _ ps.length (ps.map (Value.int .i64)) _ (HV.out.new (by repeat (first | with_reducible exact New.refl _ | with_reducible assumption | with_reducible refine New.drew ?_ | with_reducible refine New.drewN ?_ _ | with_reducible refine New.alloc ?_ _ | with_reducible refine New.setCell ?_ (by first | (simp; done) | (simp; omega) | omega) _ | with_reducible refine New.trans ?_ (by with_reducible assumption))))).mono ?_; rintro e w2 ⟨rfl, rfl⟩
  go_wp2_with fail
  refine (within_any _ _ _ _).mono ?_; rintro e w2 ⟨rfl, rfl⟩
  go_wp2_with fail
  go_ret
  exact ⟨rfl, (by repeat (first | with_reducible exact New.refl _ | with_reducible assumption | with_reducible refine New.drew ?_ | with_reducible refine New.drewN ?_ _ | with_reducible refine New.alloc ?_ _ | with_reducible refine New.setCell ?_ (by first | (simp; done) | (simp; omega) | omega) _ | with_reducible refine New.trans ?_ (by with_reducible assumption)))⟩
theorem iUsedR_any (n : Int) (s : Value) (ps : List Int) (t : Int) (w : World) (hv : RdI w s ps) :
    Calls Try.prog 28 #[.agg #[.int .i64 n, s], .int .i64 t] w (RetIC w (usedR n ps t)) := by
  have HV := Lib.hid hv; clear hv
  rcases Bool.eq_false_or_eq_true (isTraf n ps) with h1 | h1
  · obtain ⟨hn, hl, hp⟩ := isTraf_ok h1
    have HP := Lib.hid hp; clear hp
    have hl4 := hl.2
    rcases Bool.eq_false_or_eq_true (inB t 0 ((ps.length : Int) - 1)) with h2 | h2
    · have h2' := inB_iff.1 h2
      have htl : t.toNat < ps.length := by omega
      have HR := Lib.hid (show usedR n ps t = (usedQ n ps[t.toNat], 0) by rw [usedR, if_pos h1, if_pos h2]; simp [List.getD, htl])
      rw [HR.out]
      have htn : t = (t.toNat : Int) := by omega
      clear h2'
      generalize t.toNat = tn at *
      subst htn
      go_enter Try.func28, Try.ntmps28
      go_wp2_with fail
      refine (iIsTraffic_any _ s ps _ (HV.out.new (by repeat (first | with_reducible exact New.refl _ | with_reducible assumption | with_reducible refine New.drew ?_ | with_reducible refine New.drewN ?_ _ | with_reducible refine New.alloc ?_ _ | with_reducible refine New.setCell ?_ (by first | (simp; done) | (simp; omega) | omega) _ | with_reducible refine New.trans ?_ (by with_reducible assumption))))).mono ?_; rintro e w1 ⟨rfl, b1⟩
      try with_reducible replace b1 := New.undrawN b1
      try with_reducible replace b1 := New.undraw b1
      obtain ⟨c1, f1⟩ := b1.rules
      have z1 := b1.size
      try simp only [World.size_alloc, World.size_drew, World.heap_drewN, World.size_setCell] at z1
      have z1_0 : w.heap.size < w1.heap.size := by omega
      go_wp2_with fail
      refine (iHasTrain_any _ s ps _ _ (HV.out.new (by repeat (first | with_reducible exact New.refl _ | with_reducible assumption | with_reducible refine New.drew ?_ | with_reducible refine New.drewN ?_ _ | with_reducible refine New.alloc ?_ _ | with_reducible refine New.setCell ?_ (by first | (simp; done) | (simp; omega) | omega) _ | with_reducible refine New.trans ?_ (by with_reducible assumption)))) hl4).mono ?_; rintro e w2 ⟨rfl, b2⟩
      try with_reducible replace b2 := New.undrawN b2
      try with_reducible replace b2 := New.undraw b2
      obtain ⟨c2, f2⟩ := b2.rules
      have z2 := b2.size
      try simp only [World.size_alloc, World.size_drew, World.heap_drewN, World.size_setCell] at z2
      have z2_0 : w.heap.size < w2.heap.size := by omega
      go_wp2_with fail
      refine (iUsed_any _ s ps tn _ (HV.out.new (by repeat (first | with_reducible exact New.refl _ | with_reducible assumption | with_reducible refine New.drew ?_ | with_reducible refine New.drewN ?_ _ | with_reducible refine New.alloc ?_ _ | with_reducible refine New.setCell ?_ (by first | (simp; done) | (simp; omega) | omega) _ | with_reducible refine New.trans ?_ (by with_reducible assumption)))) hn hl4 HP.out htl).mono ?_; rintro e w3 ⟨r, rfl, b3, own3⟩
      obtain ⟨c3, f3⟩ := b3.rules
      have z3 := b3.size
      try simp only [World.size_alloc, World.size_drew, World.heap_drewN, World.size_setCell] at z3
      have z3_0 : w.heap.size < w3.heap.size := by omega
      go_wp2_with fail
      go_ret2
      exact ⟨r, rfl, (by repeat (first | with_reducible exact New.refl _ | with_reducible assumption | with_reducible refine New.drew ?_ | with_reducible refine New.drewN ?_ _ | with_reducible refine New.alloc ?_ _ | with_reducible refine New.setCell ?_ (by first | (simp; done) | (simp; omega) | omega) _ | with_reducible refine New.trans ?_ (by with_reducible assumption))), own_base own3 (by omega)⟩
    · rw [show usedR n ps t = ([], 2) by rw [usedR, if_pos h1, if_neg (by simp [h2])]]
      go_enter Try.func28, Try.ntmps28
      go_wp2_with fail
      refine (iIsTraffic_any _ s ps _ (HV.out.new (by repeat (first | with_reducible exact New.refl _ | with_reducible assumption | with_reducible refine New.drew ?_ | with_reducible refine New.drewN ?_ _ | with_reducible refine New.alloc ?_ _ | with_reducible refine New.setCell ?_ (by first | (simp; done) | (simp; omega) | omega) _ | with_reducible refine New.trans ?_ (by with_reducible assumption))))).mono ?_; rintro e w1 ⟨rfl, b1⟩
      try with_reducible replace b1 := New.undrawN b1
      try with_reducible replace b1 := New.undraw b1
      obtain ⟨c1, f1⟩ := b1.rules
      have z1 := b1.size
      try simp only [World.size_alloc, World.size_drew, World.heap_drewN, World.size_setCell] at z1
      have z1_0 : w.heap.size < w1.heap.size := by omega
      go_wp2_with fail
      refine (iHasTrain_any _ s ps _ _ (HV.out.new (by repeat (first | with_reducible exact New.refl _ | with_reducible assumption | with_reducible refine New.drew ?_ | with_reducible refine New.drewN ?_ _ | with_reducible refine New.alloc ?_ _ | with_reducible refine New.setCell ?_ (by first | (simp; done) | (simp; omega) | omega) _ | with_reducible refine New.trans ?_ (by with_reducible assumption)))) hl4).mono ?_; rintro e w2 ⟨rfl, b2⟩
      try with_reducible replace b2 := New.undrawN b2
      try with_reducible replace b2 := New.undraw b2
      obtain ⟨c2, f2⟩ := b2.rules
      have z2 := b2.size
      try simp only [World.size_alloc, World.size_drew, World.heap_drewN, World.size_setCell] at z2
      have z2_0 : w.heap.size < w2.heap.size := by omega
      go_wp2_with fail
      go_ret2
      exact ⟨_, rfl, (by repeat (first | with_reducible exact New.refl _ | with_reducible assumption | with_reducible refine New.drew ?_ | with_reducible refine New.drewN ?_ _ | with_reducible refine New.alloc ?_ _ | with_reducible refine New.setCell ?_ (by first | (simp; done) | (simp; omega) | omega) _ | with_reducible refine New.trans ?_ (by with_reducible assumption))), World.ownsRow_nil _ _ _ _⟩
  · rw [show usedR n ps t = ([], 1) by rw [usedR, if_neg (by simp [h1])]]
    go_enter Try.func28, Try.ntmps28
    go_wp2_with fail
    refine (iIsTraffic_any _ s ps _ (HV.out.new (by repeat (first | with_reducible exact New.refl _ | with_reducible assumption | with_reducible refine New.drew ?_ | with_reducible refine New.drewN ?_ _ | with_reducible refine New.alloc ?_ _ | with_reducible refine New.setCell ?_ (by first | (simp; done) | (simp; omega) | omega) _ | with_reducible refine New.trans ?_ (by with_reducible assumption))))).mono ?_; rintro e w1 ⟨rfl, b1⟩
    try with_reducible replace b1 := New.undrawN b1
    try with_reducible replace b1 := New.undraw b1
    obtain ⟨c1, f1⟩ := b1.rules
    have z1 := b1.size
    try simp only [World.size_alloc, World.size_drew, World.heap_drewN, World.size_setCell] at z1
    have z1_0 : w.heap.size < w1.heap.size := by omega
    go_wp2_with fail
    go_ret2
    exact ⟨_, rfl, (by repeat (first | with_reducible exact New.refl _ | with_reducible assumption | with_reducible refine New.drew ?_ | with_reducible refine New.drewN ?_ _ | with_reducible refine New.alloc ?_ _ | with_reducible refine New.setCell ?_ (by first | (simp; done) | (simp; omega) | omega) _ | with_reducible refine New.trans ?_ (by with_reducible assumption))), World.ownsRow_nil _ _ _ _⟩
end Go.Proofs.Ytinlichcbjpeaaa
