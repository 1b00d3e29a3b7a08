/- Contracts: the laws' helpers on lists of segments. -/
import Derived.Test.YtinkhjjeflhagaaProg
import Derived.Test.YtinkhjjeflhagaaInts
import Derived.Test.YtinkhjjeflhagaaLaunch
import Derived.Test.YtinkhjjeflhagaaSeg
namespace Go.Proofs.Ytinkhjjeflhagaa
open Go Go.Proofs Go.RowKit
set_option linter.unusedVariables false
set_option linter.unusedSimpArgs false
set_option maxRecDepth 100000
structure ESegment where (kind : Int) (len : Int) (rise : Int) (rl : Int) (rh : Int) (fl : Int) (fh : Int)
  deriving DecidableEq
def encSegment (x : ESegment) : List Value := [.int .i64 x.kind, .int .i64 x.len, .int .i64 x.rise, .int .i64 x.rl, .int .i64 x.rh, .int .i64 x.fl, .int .i64 x.fh]
theorem encSegment_len (x : ESegment) : (encSegment x).length = 7 := rfl
def valSegment (x : ESegment) : Value := .agg #[.int .i64 x.kind, .int .i64 x.len, .int .i64 x.rise, .int .i64 x.rl, .int .i64 x.rh, .int .i64 x.fl, .int .i64 x.fh]
def mkSegment (k : Nat) (j : Nat) : ESegment := ⟨((k + j * 7 : Nat) : Int), ((k + j * 7 + 1 : Nat) : Int), ((k + j * 7 + 2 : Nat) : Int), ((k + j * 7 + 3 : Nat) : Int), ((k + j * 7 + 4 : Nat) : Int), ((k + j * 7 + 5 : Nat) : Int), ((k + j * 7 + 6 : Nat) : Int)⟩
theorem infoSegment : (Try.prog.info? 48).map (fun i => (i.zero, i.size, i.bytes)) = some (some (Value.agg #[Value.int .i64 0, Value.int .i64 0, Value.int .i64 0, Value.int .i64 0, Value.int .i64 0, Value.int .i64 0, Value.int .i64 0]), 7, 56) := by kernel_rfl
theorem eqSegment_any (x y : ESegment) (w : World) : Calls Try.prog 31 #[.agg #[.int .i64 x.kind, .int .i64 x.len, .int .i64 x.rise, .int .i64 x.rl, .int .i64 x.rh, .int .i64 x.fl, .int .i64 x.fh], .agg #[.int .i64 y.kind, .int .i64 y.len, .int .i64 y.rise, .int .i64 y.rl, .int .i64 y.rh, .int .i64 y.fl, .int .i64 y.fh]] w fun e w' => e = .returned (.bool (decide (x = y))) ∧ New w w' := by
  obtain ⟨k, l, r, a, b, c, d⟩ := x
  obtain ⟨k', l', r', a', b', c', d'⟩ := y
  dsimp only
  have zz : w.heap.size < w.heap.size + 1 + 1 := by omega
  by_cases h1 : k = k'
  · by_cases h2 : l = l'
    · by_cases h3 : r = r'
      · subst h1 h2 h3
        have n1 : (k != k) = false := by simp
        have n2 : (l != l) = false := by simp
        have n3 : (r != r) = false := by simp
        by_cases h4 : a = a' ∧ b = b'
        · by_cases h5 : c = c' ∧ d = d'
          · have e4 : decide (a = a' ∧ b = b') = true := decide_eq_true h4
            have e5 : decide (c = c' ∧ d = d') = true := decide_eq_true h5
            have hd : decide ((⟨k, l, r, a, b, c, d⟩ : ESegment) = ⟨k, l, r, a', b', c', d'⟩) = true := by simp [h4, h5]
            rw [hd]
            clear h4 h5
            go_enter Try.func31, Try.ntmps31
            go_wp2_with fail
            refine (eqInterval_any _ _ _ _ _).mono ?_; rintro e w1 ⟨rfl, b1⟩
            try with_reducible replace b1 := New.undrawN b1
            try with_reducible replace b1 := New.undraw b1
            obtain ⟨c1, f1⟩ := b1.rules
            have z1 := b1.size
            try simp only [World.size_alloc, World.size_drew, World.heap_drewN, World.size_setCell] at z1
            have z1_0 : w.heap.size < w1.heap.size := by omega
            have z1_1 : w.heap.size + 1 < w1.heap.size := by omega
            go_wp2_with fail
            refine (eqInterval_any _ _ _ _ _).mono ?_; rintro e w2 ⟨rfl, b2⟩
            try with_reducible replace b2 := New.undrawN b2
            try with_reducible replace b2 := New.undraw b2
            obtain ⟨c2, f2⟩ := b2.rules
            have z2 := b2.size
            try simp only [World.size_alloc, World.size_drew, World.heap_drewN, World.size_setCell] at z2
            go_wp2_with fail
            all_goals first | (go_ret; exact ⟨rfl, (by repeat (first | with_reducible exact New.refl _ | with_reducible assumption | with_reducible refine New.drew ?_ | with_reducible refine New.drewN ?_ _ | with_reducible refine New.alloc ?_ _ | with_reducible refine New.setCell ?_ (by first | (simp; done) | (simp; omega) | omega) _ | with_reducible refine New.trans ?_ (by with_reducible assumption)))⟩) | (exfalso; simp_all; done)
          · have e4 : decide (a = a' ∧ b = b') = true := decide_eq_true h4
            have e5 : decide (c = c' ∧ d = d') = false := decide_eq_false h5
            have hd : decide ((⟨k, l, r, a, b, c, d⟩ : ESegment) = ⟨k, l, r, a', b', c', d'⟩) = false := by simp; intro _ _ h; exact fun h' => h5 ⟨h, h'⟩
            rw [hd]
            clear h4 h5
            go_enter Try.func31, Try.ntmps31
            go_wp2_with fail
            refine (eqInterval_any _ _ _ _ _).mono ?_; rintro e w1 ⟨rfl, b1⟩
            try with_reducible replace b1 := New.undrawN b1
            try with_reducible replace b1 := New.undraw b1
            obtain ⟨c1, f1⟩ := b1.rules
            have z1 := b1.size
            try simp only [World.size_alloc, World.size_drew, World.heap_drewN, World.size_setCell] at z1
            have z1_0 : w.heap.size < w1.heap.size := by omega
            have z1_1 : w.heap.size + 1 < w1.heap.size := by omega
            go_wp2_with fail
            refine (eqInterval_any _ _ _ _ _).mono ?_; rintro e w2 ⟨rfl, b2⟩
            try with_reducible replace b2 := New.undrawN b2
            try with_reducible replace b2 := New.undraw b2
            obtain ⟨c2, f2⟩ := b2.rules
            have z2 := b2.size
            try simp only [World.size_alloc, World.size_drew, World.heap_drewN, World.size_setCell] at z2
            go_wp2_with fail
            all_goals first | (go_ret; exact ⟨rfl, (by repeat (first | with_reducible exact New.refl _ | with_reducible assumption | with_reducible refine New.drew ?_ | with_reducible refine New.drewN ?_ _ | with_reducible refine New.alloc ?_ _ | with_reducible refine New.setCell ?_ (by first | (simp; done) | (simp; omega) | omega) _ | with_reducible refine New.trans ?_ (by with_reducible assumption)))⟩) | (exfalso; simp_all; done)
        · have e4 : decide (a = a' ∧ b = b') = false := decide_eq_false h4
          have hd : decide ((⟨k, l, r, a, b, c, d⟩ : ESegment) = ⟨k, l, r, a', b', c', d'⟩) = false := by simp; intro h h'; exact absurd ⟨h, h'⟩ h4
          rw [hd]
          clear h4
          go_enter Try.func31, Try.ntmps31
          go_wp2_with fail
          refine (eqInterval_any _ _ _ _ _).mono ?_; rintro e w1 ⟨rfl, b1⟩
          try with_reducible replace b1 := New.undrawN b1
          try with_reducible replace b1 := New.undraw b1
          obtain ⟨c1, f1⟩ := b1.rules
          have z1 := b1.size
          try simp only [World.size_alloc, World.size_drew, World.heap_drewN, World.size_setCell] at z1
          have z1_0 : w.heap.size < w1.heap.size := by omega
          have z1_1 : w.heap.size + 1 < w1.heap.size := by omega
          go_wp2_with fail
          all_goals first | (go_ret; exact ⟨rfl, (by repeat (first | with_reducible exact New.refl _ | with_reducible assumption | with_reducible refine New.drew ?_ | with_reducible refine New.drewN ?_ _ | with_reducible refine New.alloc ?_ _ | with_reducible refine New.setCell ?_ (by first | (simp; done) | (simp; omega) | omega) _ | with_reducible refine New.trans ?_ (by with_reducible assumption)))⟩) | (exfalso; simp_all; done)
      · have n3 : (r != r') = true := by simpa using h3
        have hd : decide ((⟨k, l, r, a, b, c, d⟩ : ESegment) = ⟨k', l', r', a', b', c', d'⟩) = false := by simp [h3]
        rw [hd]
        go_enter Try.func31, Try.ntmps31
        go_wp2_with fail
        all_goals first | (go_ret; exact ⟨rfl, (by repeat (first | with_reducible exact New.refl _ | with_reducible assumption | with_reducible refine New.drew ?_ | with_reducible refine New.drewN ?_ _ | with_reducible refine New.alloc ?_ _ | with_reducible refine New.setCell ?_ (by first | (simp; done) | (simp; omega) | omega) _ | with_reducible refine New.trans ?_ (by with_reducible assumption)))⟩) | (exfalso; simp_all; done)
    · have n3 : (l != l') = true := by simpa using h2
      have hd : decide ((⟨k, l, r, a, b, c, d⟩ : ESegment) = ⟨k', l', r', a', b', c', d'⟩) = false := by simp [h2]
      rw [hd]
      go_enter Try.func31, Try.ntmps31
      go_wp2_with fail
      all_goals first | (go_ret; exact ⟨rfl, (by repeat (first | with_reducible exact New.refl _ | with_reducible assumption | with_reducible refine New.drew ?_ | with_reducible refine New.drewN ?_ _ | with_reducible refine New.alloc ?_ _ | with_reducible refine New.setCell ?_ (by first | (simp; done) | (simp; omega) | omega) _ | with_reducible refine New.trans ?_ (by with_reducible assumption)))⟩) | (exfalso; simp_all; done)
  · have n3 : (k != k') = true := by simpa using h1
    have hd : decide ((⟨k, l, r, a, b, c, d⟩ : ESegment) = ⟨k', l', r', a', b', c', d'⟩) = false := by simp [h1]
    rw [hd]
    go_enter Try.func31, Try.ntmps31
    go_wp2_with fail
    all_goals first | (go_ret; exact ⟨rfl, (by repeat (first | with_reducible exact New.refl _ | with_reducible assumption | with_reducible refine New.drew ?_ | with_reducible refine New.drewN ?_ _ | with_reducible refine New.alloc ?_ _ | with_reducible refine New.setCell ?_ (by first | (simp; done) | (simp; omega) | omega) _ | with_reducible refine New.trans ?_ (by with_reducible assumption)))⟩) | (exfalso; simp_all; done)
set_option maxHeartbeats 800000 in
theorem toSegmentS_any (v : Value) (xs : List ESegment) (w : World) (hv : Rd w v xs.length (xs.flatMap encSegment)) (hn : xs.length ≤ 1048576) :
    Calls Try.prog 17 #[v] w (RetSlice w 48 7 xs.length (xs.flatMap encSegment)) := by
  obtain ⟨a, cap, rfl, hm, HC⟩ := Rd.flat encSegment_len (by omega) hv
  clear hv
  obtain ⟨i0, hi, hz0, hz1, hz2⟩ := info_parts infoSegment
  go_enter Try.func17, Try.ntmps17
  go_wp2_with (at_make; refine wpList_make_full _ rfl _ _ 29 rfl w.heap.size 48 i0 (Value.agg #[Value.int .i64 0, Value.int .i64 0, Value.int .i64 0, Value.int .i64 0, Value.int .i64 0, Value.int .i64 0, Value.int .i64 0]) 7 Try.underlying29 hi hz0 hz1 .i64 .i64 _ _ xs.length rfl rfl rfl rfl (by rw [hz2]; omega) (by unfold maxLen; omega) (Nat.le_refl _) ?_; intro w1 hown hgr)
  have b1 : New w w1 := (New.refl w).grown hgr (fun k hk => by cases hk)
  have hown1 : w1.ownsRow w.heap.size 48 7 (.slice (some ⟨w.heap.size, 0, none⟩) xs.length xs.length) xs.length ((xs.take 0).flatMap encSegment ++ (List.replicate (xs.length - 0) [Value.int .i64 0, Value.int .i64 0, Value.int .i64 0, Value.int .i64 0, Value.int .i64 0, Value.int .i64 0, Value.int .i64 0]).flatten) := by
    have e := made_flat #[Value.int .i64 0, Value.int .i64 0, Value.int .i64 0, Value.int .i64 0, Value.int .i64 0, Value.int .i64 0, Value.int .i64 0] xs.length (by decide)
    simp only [List.take_zero, List.flatMap_nil, List.nil_append, Nat.sub_zero]
    rw [← e]; exact hown
  clear hown hgr hz2 hz1 hz0 hi
  go_wp2_with fail
  go_loopw [4] (fun i wr => ∃ k : Nat, k ≤ xs.length ∧ i = .int .i64 k ∧ New w wr ∧ wr.ownsRow w.heap.size 48 7 (.slice (some ⟨w.heap.size, 0, none⟩) xs.length xs.length) xs.length ((xs.take k).flatMap encSegment ++ (List.replicate (xs.length - k) [Value.int .i64 0, Value.int .i64 0, Value.int .i64 0, Value.int .i64 0, Value.int .i64 0, Value.int .i64 0, Value.int .i64 0]).flatten)) (fun i _ => xs.length - (intOf i).toNat)
  case atStart => exact ⟨0, Nat.zero_le _, rfl, b1, hown1⟩
  case round =>
    obtain ⟨k, hk, rfl, hb, hown⟩ := hrel
    clear b1 hown1
    obtain ⟨c, f⟩ := hb.rules
    by_cases hlt : k < xs.length
    · obtain ⟨b, off, rfl, hbl, hx⟩ := HC.out k hlt
      have x0 := hx 0 _ (by omega) rfl
      have x1 := hx 1 _ (by omega) rfl
      have x2 := hx 2 _ (by omega) rfl
      have x3 := hx 3 _ (by omega) rfl
      have x4 := hx 4 _ (by omega) rfl
      have x5 := hx 5 _ (by omega) rfl
      have x6 := hx 6 _ (by omega) rfl
      rw [Nat.add_zero] at x0
      replace hx := Lib.hid hx
      have hdn : ∀ i u, i < 7 → ([Value.int .i64 0, Value.int .i64 0, Value.int .i64 0, Value.int .i64 0, Value.int .i64 0, Value.int .i64 0, Value.int .i64 0] : List Value)[i]? = some u → wr.cell? ⟨w.heap.size, k * 7 + i, none⟩ = some u := fun i u hi hu => by
        rw [hown.cellAt (k * 7 + i) (by omega), flat_zero_at encSegment 7 encSegment_len _ rfl xs k hlt i hi, hu]
      have d0 := hdn 0 _ (by omega) rfl
      have d1 := hdn 1 _ (by omega) rfl
      have d2 := hdn 2 _ (by omega) rfl
      have d3 := hdn 3 _ (by omega) rfl
      have d4 := hdn 4 _ (by omega) rfl
      have d5 := hdn 5 _ (by omega) rfl
      have d6 := hdn 6 _ (by omega) rfl
      rw [Nat.add_zero] at d0
      clear hdn
      have hwr : w.heap.size < wr.heap.size := (own_block_lt hown _ rfl).2
      have f0 := hown.frozenAt (k * 7)
      have f1 := hown.frozenAt (k * 7 + 1)
      have f2 := hown.frozenAt (k * 7 + 2)
      have f3 := hown.frozenAt (k * 7 + 3)
      have f4 := hown.frozenAt (k * 7 + 4)
      have f5 := hown.frozenAt (k * 7 + 5)
      have f6 := hown.frozenAt (k * 7 + 6)
      go_wp2_with fail
      refine (toSegment_any _ _ _ _ _ _ _ _).mono ?_; rintro e w2 ⟨rfl, b2⟩
      try with_reducible replace b2 := New.undrawN b2
      try with_reducible replace b2 := New.undraw b2
      obtain ⟨c2, f2⟩ := b2.rules
      have z2 := b2.size
      try simp only [World.size_alloc, World.size_drew, World.heap_drewN, World.size_setCell] at z2
      have z2_0 : w.heap.size < w2.heap.size := by omega
      go_wp2_with fail
      go_roundw
      case rel =>
        have h1 := ((((((((own_new hown b2).stored (k * 7) (.int .i64 xs[k].kind)).1.stored (k * 7 + 1) (.int .i64 xs[k].len)).1.stored (k * 7 + 2) (.int .i64 xs[k].rise)).1.stored (k * 7 + 3) (.int .i64 xs[k].rl)).1.stored (k * 7 + 4) (.int .i64 xs[k].rh)).1.stored (k * 7 + 5) (.int .i64 xs[k].fl)).1.stored (k * 7 + 6) (.int .i64 xs[k].fh)).1
        have h2 := set_flat encSegment 7 encSegment_len [Value.int .i64 0, Value.int .i64 0, Value.int .i64 0, Value.int .i64 0, Value.int .i64 0, Value.int .i64 0, Value.int .i64 0] rfl xs k hlt
        simp only [setFrom, encSegment] at h2
        rw [h2] at h1
        exact ⟨k + 1, by omega, by go_num, ((((((((hb.trans b2).setCell (Nat.le_refl _) _).setCell (Nat.le_refl _) _).setCell (Nat.le_refl _) _).setCell (Nat.le_refl _) _).setCell (Nat.le_refl _) _).setCell (Nat.le_refl _) _).setCell (Nat.le_refl _) _), h1⟩
      case measure => simp [intOf]; omega
    · obtain rfl : k = xs.length := by omega
      go_wp2_with fail
      go_ret
      exact ⟨_, rfl, hb, by simpa using hown⟩
theorem szSegmentS_any (v : Value) (n : Nat) (cs : List Value) (left : Int) (w : World) (hv : Rd w v n cs) (hl : 0 ≤ left) (hl' : left ≤ 1048576) :
    Calls Try.prog 13 #[v, .int .i64 left] w fun e w' => e = .returned (.int .i64 (szL n left)) ∧ w = w' := by
  obtain ⟨a, cap, rfl, hn, h0, hc⟩ := hv
  go_enter Try.func13, Try.ntmps13
  go_wp2_with fail
  all_goals go_ret
  all_goals refine ⟨ret_int ?_, rfl⟩
  · unfold szL; rw [if_neg (by omega)]
  · unfold szL; rw [if_pos (by omega)]
set_option maxHeartbeats 800000 in
theorem eqSegmentS_any (v u : Value) (xs ys : List ESegment) (w : World) (hv : Rd w v xs.length (xs.flatMap encSegment)) (hu : Rd w u ys.length (ys.flatMap encSegment)) :
    Calls Try.prog 22 #[v, u] w fun e w' => e = .returned (.bool (decide (xs = ys))) ∧ New w w' := by
  obtain ⟨a, cap, rfl, hn, HC⟩ := Rd.flat encSegment_len (by omega) hv
  obtain ⟨a', cap', rfl, hn', HC'⟩ := Rd.flat encSegment_len (by omega) hu
  clear hv hu
  by_cases hlen : xs.length = ys.length
  · have hne : ((xs.length : Int) != ys.length) = false := by simp [hlen]
    have HL : Hid (xs.length = ys.length) := hlen
    have hle : xs.length ≤ ys.length := by omega
    have hge : ys.length ≤ xs.length := by omega
    clear hlen
    go_enter Try.func22, Try.ntmps22
    go_wp2_with fail
    go_loopw [5] (fun i wr => ∃ k : Nat, k ≤ xs.length ∧ i = .int .i64 k ∧ Hid (xs.take k = ys.take k) ∧ New w wr) (fun i _ => xs.length - (intOf i).toNat)
    case atStart => exact ⟨0, Nat.zero_le _, rfl, rfl, New.refl w⟩
    case round =>
      obtain ⟨k, hk, rfl, hpre, hb⟩ := hrel
      obtain ⟨c, f⟩ := hb.rules
      have hsz := hb.size
      by_cases hlt : k < xs.length
      · have hlt' : k < ys.length := by omega
        obtain ⟨b, off, rfl, hbl, hx⟩ := HC.out k hlt
        obtain ⟨b', off', rfl, hbl', hy⟩ := HC'.out k hlt'
        have hbw : b < wr.heap.size := by omega
        have hbw' : b' < wr.heap.size := by omega
        have x0 := hx 0 _ (by omega) rfl
        have x1 := hx 1 _ (by omega) rfl
        have x2 := hx 2 _ (by omega) rfl
        have x3 := hx 3 _ (by omega) rfl
        have x4 := hx 4 _ (by omega) rfl
        have x5 := hx 5 _ (by omega) rfl
        have x6 := hx 6 _ (by omega) rfl
        rw [Nat.add_zero] at x0
        have y0 := hy 0 _ (by omega) rfl
        have y1 := hy 1 _ (by omega) rfl
        have y2 := hy 2 _ (by omega) rfl
        have y3 := hy 3 _ (by omega) rfl
        have y4 := hy 4 _ (by omega) rfl
        have y5 := hy 5 _ (by omega) rfl
        have y6 := hy 6 _ (by omega) rfl
        rw [Nat.add_zero] at y0
        replace hx := Lib.hid hx
        replace hy := Lib.hid hy
        go_wp2_with fail
        have hq := fun (n : NewOf wr) b o => NewOf.cell n b o
        refine wp_region_new (by kernel_rfl) (by kernel_rfl) ?_
        repeat (first | go_big_quiet_skip | go_big_quiet_step ((first | exact newq (eqSegment_any xs[k] ys[k] _))) | quiet_step ((first | exact newq (eqSegment_any xs[k] ys[k] _))))
        refine wpQuiet_nil ?_
        rintro ⟨w3, b3⟩
        dsimp only
        try with_reducible replace b3 := New.undrawN b3
        try with_reducible replace b3 := New.undraw b3
        obtain ⟨c3, f3⟩ := b3.rules
        have z3 := b3.size
        try simp only [World.size_alloc, World.size_drew, World.heap_drewN, World.size_setCell] at z3
        go_wp2_with fail
        · go_ret
          have hh : (!decide (xs[k] = ys[k])) = true := by assumption
          refine ⟨ret_bool (Eq.symm (decide_eq_false ?_)), (by repeat (first | with_reducible exact New.refl _ | with_reducible assumption | with_reducible refine New.drew ?_ | with_reducible refine New.drewN ?_ _ | with_reducible refine New.alloc ?_ _ | with_reducible refine New.setCell ?_ (by first | (simp; done) | (simp; omega) | omega) _ | with_reducible refine New.trans ?_ (by with_reducible assumption)))⟩
          rintro rfl
          simp at hh
        · have hh : (!decide (xs[k] = ys[k])) = false := by assumption
          replace hh : xs[k] = ys[k] := by simpa using hh
          replace hh := Lib.hid hh
          go_roundw
          case rel => exact ⟨k + 1, by omega, by go_num, Lib.hid (by rw [List.take_succ_eq_append_getElem hlt, List.take_succ_eq_append_getElem hlt', hpre.out, hh.out]), (by repeat (first | with_reducible exact New.refl _ | with_reducible assumption | with_reducible refine New.drew ?_ | with_reducible refine New.drewN ?_ _ | with_reducible refine New.alloc ?_ _ | with_reducible refine New.setCell ?_ (by first | (simp; done) | (simp; omega) | omega) _ | with_reducible refine New.trans ?_ (by with_reducible assumption)))⟩
          case measure => simp [intOf]; omega
      · have hkx : k = xs.length := by omega
        have hky : k = ys.length := by omega
        have he : xs = ys := by
          have := hpre.out
          rwa [List.take_of_length_le (by omega), List.take_of_length_le (by omega)] at this
        have HE := Lib.hid he
        clear hkx hky he
        go_wp2_with fail
        go_ret
        exact ⟨ret_bool (decide_eq_true HE.out).symm, hb⟩
  · have hne : ((xs.length : Int) != ys.length) = true := by simp; omega
    go_enter Try.func22, Try.ntmps22
    go_wp2_with fail
    go_ret
    exact ⟨ret_bool (decide_eq_false (fun h => hlen (by rw [h]))).symm, New.refl w⟩































































end Go.Proofs.Ytinkhjjeflhagaa
