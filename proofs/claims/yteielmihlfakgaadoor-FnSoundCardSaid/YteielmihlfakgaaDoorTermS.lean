/- Contracts: the laws' helpers on lists of terms. -/
import Derived.Test.YteielmihlfakgaaDoorProg
import Derived.Test.YteielmihlfakgaaDoorInts
import Derived.Test.YteielmihlfakgaaDoorBlocks
namespace Go.Proofs.YteielmihlfakgaaDoor
open Go Go.Proofs Go.RowKit
set_option linter.unusedVariables false
set_option linter.unusedSimpArgs false
set_option maxRecDepth 100000
structure ETerm where (kind : Int) (name : ByteArray) (num : Int)
  deriving DecidableEq
def encTerm (x : ETerm) : List Value := [.int .i64 x.kind, .string x.name, .int .i64 x.num]
theorem encTerm_len (x : ETerm) : (encTerm x).length = 3 := rfl
def valTerm (x : ETerm) : Value := .agg #[.int .i64 x.kind, .string x.name, .int .i64 x.num]
theorem infoTerm : (Tryd.prog.info? 43).map (fun i => (i.zero, i.size, i.bytes)) = some (some (Value.agg #[Value.int .i64 0, Value.string ⟨#[]⟩, Value.int .i64 0]), 3, 32) := by kernel_rfl
theorem strEqTerm (s t : ByteArray) : (s.toList = t.toList) ↔ (s = t) := ⟨fun h => by rw [ByteArray.toList_eq, ByteArray.toList_eq] at h; exact ByteArray.ext (Array.toList_inj.1 h), fun h => by rw [h]⟩
theorem eqTerm_any (x y : ETerm) (w : World) : Calls Tryd.prog 66 #[.agg #[.int .i64 x.kind, .string x.name, .int .i64 x.num], .agg #[.int .i64 y.kind, .string y.name, .int .i64 y.num]] w fun e w' => e = .returned (.bool (decide (x = y))) ∧ New w w' := by
  obtain ⟨kind, name, num⟩ := x
  obtain ⟨kind', name', num'⟩ := y
  dsimp only
  go_enter Tryd.func66, Tryd.ntmps66
  go_wp2_with fail
  all_goals (go_ret; exact ⟨ret_bool (by simp_all [strEqTerm]), (by repeat (first | with_reducible exact New.refl _ | with_reducible assumption | with_reducible refine New.drew ?_ | with_reducible refine New.drewN ?_ _ | with_reducible refine New.alloc ?_ _ | with_reducible refine New.setCell ?_ (by first | (simp; done) | (simp; omega) | omega) _ | with_reducible refine New.trans ?_ (by with_reducible assumption)))⟩)
set_option maxHeartbeats 800000 in
theorem toTermS_any (v : Value) (xs : List ETerm) (w : World) (hv : Rd w v xs.length (xs.flatMap encTerm)) (hn : xs.length ≤ 1048576) :
    Calls Tryd.prog 31 #[v] w (RetSlice w 43 3 xs.length (xs.flatMap encTerm)) := by
  obtain ⟨a, cap, rfl, hm, HC⟩ := Rd.flat encTerm_len (by omega) hv
  clear hv
  obtain ⟨i0, hi, hz0, hz1, hz2⟩ := info_parts infoTerm
  go_enter Tryd.func31, Tryd.ntmps31
  go_wp2_with (at_make; refine wpList_make_full _ rfl _ _ 36 rfl w.heap.size 43 i0 (Value.agg #[Value.int .i64 0, Value.string ⟨#[]⟩, Value.int .i64 0]) 3 Tryd.underlying36 hi hz0 hz1 .i64 .i64 _ _ xs.length rfl rfl rfl rfl (by rw [hz2]; omega) (by unfold maxLen; omega) (Nat.le_refl _) ?_; intro w1 hown hgr)
  have b1 : New w w1 := (New.refl w).grown hgr (fun k hk => by cases hk)
  have hown1 : w1.ownsRow w.heap.size 43 3 (.slice (some ⟨w.heap.size, 0, none⟩) xs.length xs.length) xs.length ((xs.take 0).flatMap encTerm ++ (List.replicate (xs.length - 0) [Value.int .i64 0, Value.string ⟨#[]⟩, Value.int .i64 0]).flatten) := by
    have e := made_flat #[Value.int .i64 0, Value.string ⟨#[]⟩, Value.int .i64 0] xs.length (by decide)
    simp only [List.take_zero, List.flatMap_nil, List.nil_append, Nat.sub_zero]
    rw [← e]; exact hown
  clear hown hgr hz2 hz1 hz0 hi
  go_wp2_with fail
  go_loopw [4] (fun i wr => ∃ k : Nat, k ≤ xs.length ∧ i = .int .i64 k ∧ New w wr ∧ wr.ownsRow w.heap.size 43 3 (.slice (some ⟨w.heap.size, 0, none⟩) xs.length xs.length) xs.length ((xs.take k).flatMap encTerm ++ (List.replicate (xs.length - k) [Value.int .i64 0, Value.string ⟨#[]⟩, Value.int .i64 0]).flatten)) (fun i _ => xs.length - (intOf i).toNat)
  case atStart => exact ⟨0, Nat.zero_le _, rfl, b1, hown1⟩
  case round =>
    obtain ⟨k, hk, rfl, hb, hown⟩ := hrel
    clear b1 hown1
    obtain ⟨c, f⟩ := hb.rules
    by_cases hlt : k < xs.length
    · obtain ⟨b, off, rfl, hbl, hx⟩ := HC.out k hlt
      have x0 := hx 0 _ (by omega) rfl
      have x1 := hx 1 _ (by omega) rfl
      have x2 := hx 2 _ (by omega) rfl
      rw [Nat.add_zero] at x0
      replace hx := Lib.hid hx
      have hdn : ∀ i u, i < 3 → ([Value.int .i64 0, Value.string ⟨#[]⟩, Value.int .i64 0] : List Value)[i]? = some u → wr.cell? ⟨w.heap.size, k * 3 + i, none⟩ = some u := fun i u hi hu => by
        rw [hown.cellAt (k * 3 + i) (by omega), flat_zero_at encTerm 3 encTerm_len _ rfl xs k hlt i hi, hu]
      have d0 := hdn 0 _ (by omega) rfl
      have d1 := hdn 1 _ (by omega) rfl
      have d2 := hdn 2 _ (by omega) rfl
      rw [Nat.add_zero] at d0
      clear hdn
      have hwr : w.heap.size < wr.heap.size := (own_block_lt hown _ rfl).2
      have f0 := hown.frozenAt (k * 3)
      have f1 := hown.frozenAt (k * 3 + 1)
      have f2 := hown.frozenAt (k * 3 + 2)
      go_wp2_with fail
      refine (toTerm_any _ _ _ _).mono ?_; rintro e w2 ⟨rfl, b2⟩
      try with_reducible replace b2 := New.undrawN b2
      try with_reducible replace b2 := New.undraw b2
      obtain ⟨c2, f2⟩ := b2.rules
      have z2 := b2.size
      try simp only [World.size_alloc, World.size_drew, World.heap_drewN, World.size_setCell] at z2
      have z2_0 : w.heap.size < w2.heap.size := by omega
      go_wp2_with fail
      go_roundw
      case rel =>
        have h1 := ((((own_new hown b2).stored (k * 3) (.int .i64 xs[k].kind)).1.stored (k * 3 + 1) (.string xs[k].name)).1.stored (k * 3 + 2) (.int .i64 xs[k].num)).1
        have h2 := set_flat encTerm 3 encTerm_len [Value.int .i64 0, Value.string ⟨#[]⟩, Value.int .i64 0] rfl xs k hlt
        simp only [setFrom, encTerm] at h2
        rw [h2] at h1
        exact ⟨k + 1, by omega, by go_num, ((((hb.trans b2).setCell (Nat.le_refl _) _).setCell (Nat.le_refl _) _).setCell (Nat.le_refl _) _), h1⟩
      case measure => simp [intOf]; omega
    · obtain rfl : k = xs.length := by omega
      go_wp2_with fail
      go_ret
      exact ⟨_, rfl, hb, by simpa using hown⟩
def okTerm (x : ETerm) : Prop := x.name.size ≤ 9223372036854775807
def fitTerm (x : ETerm) : Prop := x.name.size ≤ 1048576
def sz1Term (x : ETerm) (left : Int) : Int := szT x.name left
theorem sz1Term_bd (x : ETerm) (left : Int) (h : 0 ≤ left) : -1 ≤ sz1Term x left ∧ sz1Term x left ≤ left := by rw [sz1Term, szT]; split <;> omega
theorem sz1Term_fit (x : ETerm) (left : Int) (h : 0 ≤ left) (h' : left ≤ 1048576) (h2 : 0 ≤ sz1Term x left) : fitTerm x := by
  rw [sz1Term, szT] at h2
  split at h2
  · omega
  · rw [fitTerm]; omega
def szETerm : List ETerm → Int → Int
  | [], left => left
  | x :: xs, left => if sz1Term x left < 0 then -1 else szETerm xs (sz1Term x left)
theorem szETerm_bd : ∀ (xs : List ETerm) (left : Int), 0 ≤ left → -1 ≤ szETerm xs left ∧ szETerm xs left ≤ left
  | [], left, h => by simp [szETerm]; omega
  | x :: xs, left, h => by
    have h1 := sz1Term_bd x left h
    rw [szETerm]
    split
    · omega
    · have h2 := szETerm_bd xs (sz1Term x left) (by omega)
      omega
theorem szETerm_fit : ∀ (xs : List ETerm) (left : Int), 0 ≤ left → left ≤ 1048576 → 0 ≤ szETerm xs left → ∀ x ∈ xs, fitTerm x
  | [], left, h, h', h2, x, hx => by cases hx
  | y :: xs, left, h, h', h2, x, hx => by
    have h1 := sz1Term_bd y left h
    rw [szETerm] at h2
    split at h2
    · omega
    · rename_i hn
      rcases List.mem_cons.1 hx with rfl | hx
      · exact sz1Term_fit _ left h h' (by omega)
      · exact szETerm_fit xs _ (by omega) (by omega) h2 x hx
def szTermS (xs : List ETerm) (left : Int) : Int := if left - xs.length < 0 then -1 else szETerm xs (left - xs.length)
theorem szTermS_bd (xs : List ETerm) (left : Int) (h : 0 ≤ left) : -1 ≤ szTermS xs left ∧ szTermS xs left ≤ left ∧ (0 ≤ szTermS xs left → (xs.length : Int) ≤ left) := by
  rw [szTermS]
  split
  · omega
  · have := szETerm_bd xs (left - xs.length) (by omega)
    omega
theorem szTermS_fit (xs : List ETerm) (left : Int) (h : 0 ≤ left) (h' : left ≤ 1048576) (h2 : 0 ≤ szTermS xs left) : ∀ x ∈ xs, fitTerm x := by
  rw [szTermS] at h2
  split at h2
  · omega
  · exact szETerm_fit xs _ (by omega) (by omega) h2
set_option maxHeartbeats 800000 in
theorem szTermS_any (v : Value) (xs : List ETerm) (left : Int) (w : World) (hv : Rd w v xs.length (xs.flatMap encTerm)) (hl : 0 ≤ left) (hl' : left ≤ 1048576) (hok : ∀ x ∈ xs, okTerm x) :
    Calls Tryd.prog 29 #[v, .int .i64 left] w fun e w' => e = .returned (.int .i64 (szTermS xs left)) ∧ New w w' := by
  obtain ⟨a, cap, rfl, hm, HC⟩ := Rd.flat encTerm_len (by omega) hv
  clear hv
  have HO := Lib.hid hok; clear hok
  by_cases h0 : left - (xs.length : Int) < 0
  · go_enter Tryd.func29, Tryd.ntmps29
    go_wp2_with fail
    go_ret
    exact ⟨ret_int (by rw [szTermS, if_pos h0]), New.refl _⟩
  · have HZ := Lib.hid (show szTermS xs left = szETerm xs (left - xs.length) by rw [szTermS, if_neg h0])
    have h1 : 0 ≤ left - (xs.length : Int) := by omega
    have hlen : xs.length ≤ 1048576 := by omega
    clear h0
    go_enter Tryd.func29, Tryd.ntmps29
    go_wp2_with fail
    go_loopw [1, 5] (fun l i wr => ∃ (k : Nat) (m : Int), k ≤ xs.length ∧ i = .int .i64 k ∧ l = .int .i64 m ∧ 0 ≤ m ∧ m ≤ 1048576 ∧ Hid (szTermS xs left = szETerm (xs.drop k) m) ∧ New w wr) (fun _ i _ => xs.length - (intOf i).toNat)
    case atStart => exact ⟨0, _, Nat.zero_le _, rfl, rfl, h1, by omega, Lib.hid (by rw [HZ.out]; simp), New.refl w⟩
    case round =>
      obtain ⟨k, m, hk, rfl, rfl, hm0, hm1, hz, hb⟩ := hrel
      obtain ⟨c, f⟩ := hb.rules
      have hzw := hb.size
      by_cases hlt : k < xs.length
      · obtain ⟨b, off, rfl, hbl, hx⟩ := HC.out k hlt
        have x0 := hx 0 _ (by omega) rfl
        have x1 := hx 1 _ (by omega) rfl
        have x2 := hx 2 _ (by omega) rfl
        rw [Nat.add_zero] at x0
        replace hx := Lib.hid hx
        have hbw : b < wr.heap.size := by omega
        have hd := Lib.hid (show xs.drop k = xs[k] :: xs.drop (k + 1) from List.drop_eq_getElem_cons hlt)
        have hbd := sz1Term_bd xs[k] m hm0
        have HX := Lib.hid (HO.out xs[k] (List.getElem_mem hlt))
        by_cases hn : sz1Term xs[k] m < 0
        · have hn' := hn
          simp only [sz1Term] at hn' hbd
          go_wp2_with fail
          refine (szTerm_any _ _ _ m _ hm0 hm1 HX.out).mono ?_; rintro e w3 ⟨rfl, b3⟩
          try with_reducible replace b3 := New.undrawN b3
          try with_reducible replace b3 := New.undraw b3
          obtain ⟨c3, f3⟩ := b3.rules
          have z3 := b3.size
          try simp only [World.size_alloc, World.size_drew, World.heap_drewN, World.size_setCell] at z3
          go_wp2_with fail
          go_ret
          exact ⟨ret_int (by rw [hz.out, hd.out, szETerm, if_pos (by omega)]), hb.trans b3⟩
        · have hn' := hn
          simp only [sz1Term] at hn' hbd
          go_wp2_with fail
          refine (szTerm_any _ _ _ m _ hm0 hm1 HX.out).mono ?_; rintro e w3 ⟨rfl, b3⟩
          try with_reducible replace b3 := New.undrawN b3
          try with_reducible replace b3 := New.undraw b3
          obtain ⟨c3, f3⟩ := b3.rules
          have z3 := b3.size
          try simp only [World.size_alloc, World.size_drew, World.heap_drewN, World.size_setCell] at z3
          go_wp2_with fail
          go_roundw
          case rel => exact ⟨k + 1, sz1Term xs[k] m, by omega, by go_num, rfl, by simp only [sz1Term]; omega, by simp only [sz1Term]; omega, Lib.hid (by rw [hz.out, hd.out, szETerm, if_neg (by omega)]), hb.trans b3⟩
          case measure => simp [intOf]; omega
      · obtain rfl : k = xs.length := by omega
        go_wp2_with fail
        go_ret
        exact ⟨ret_int (by rw [hz.out]; simp [szETerm]), hb⟩
set_option maxHeartbeats 800000 in
theorem eqTermS_any (v u : Value) (xs ys : List ETerm) (w : World) (hv : Rd w v xs.length (xs.flatMap encTerm)) (hu : Rd w u ys.length (ys.flatMap encTerm)) :
    Calls Tryd.prog 33 #[v, u] w fun e w' => e = .returned (.bool (decide (xs = ys))) ∧ New w w' := by
  obtain ⟨a, cap, rfl, hn, HC⟩ := Rd.flat encTerm_len (by omega) hv
  obtain ⟨a', cap', rfl, hn', HC'⟩ := Rd.flat encTerm_len (by omega) hu
  clear hv hu
  by_cases hlen : xs.length = ys.length
  · have hne : ((xs.length : Int) != ys.length) = false := by simp [hlen]
    have HL : Hid (xs.length = ys.length) := hlen
    have hle : xs.length ≤ ys.length := by omega
    have hge : ys.length ≤ xs.length := by omega
    clear hlen
    go_enter Tryd.func33, Tryd.ntmps33
    go_wp2_with fail
    go_loopw [5] (fun i wr => ∃ k : Nat, k ≤ xs.length ∧ i = .int .i64 k ∧ Hid (xs.take k = ys.take k) ∧ New w wr) (fun i _ => xs.length - (intOf i).toNat)
    case atStart => exact ⟨0, Nat.zero_le _, rfl, rfl, New.refl w⟩
    case round =>
      obtain ⟨k, hk, rfl, hpre, hb⟩ := hrel
      obtain ⟨c, f⟩ := hb.rules
      have hsz := hb.size
      by_cases hlt : k < xs.length
      · have hlt' : k < ys.length := by omega
        obtain ⟨b, off, rfl, hbl, hx⟩ := HC.out k hlt
        obtain ⟨b', off', rfl, hbl', hy⟩ := HC'.out k hlt'
        have hbw : b < wr.heap.size := by omega
        have hbw' : b' < wr.heap.size := by omega
        have x0 := hx 0 _ (by omega) rfl
        have x1 := hx 1 _ (by omega) rfl
        have x2 := hx 2 _ (by omega) rfl
        rw [Nat.add_zero] at x0
        have y0 := hy 0 _ (by omega) rfl
        have y1 := hy 1 _ (by omega) rfl
        have y2 := hy 2 _ (by omega) rfl
        rw [Nat.add_zero] at y0
        replace hx := Lib.hid hx
        replace hy := Lib.hid hy
        go_wp2_with fail
        have hq := fun (n : NewOf wr) b o => NewOf.cell n b o
        refine wp_region_new (by kernel_rfl) (by kernel_rfl) ?_
        repeat (first | go_big_quiet_skip | go_big_quiet_step ((first | exact newq (eqTerm_any xs[k] ys[k] _))) | quiet_step ((first | exact newq (eqTerm_any xs[k] ys[k] _))))
        refine wpQuiet_nil ?_
        rintro ⟨w3, b3⟩
        dsimp only
        try with_reducible replace b3 := New.undrawN b3
        try with_reducible replace b3 := New.undraw b3
        obtain ⟨c3, f3⟩ := b3.rules
        have z3 := b3.size
        try simp only [World.size_alloc, World.size_drew, World.heap_drewN, World.size_setCell] at z3
        go_wp2_with fail
        · go_ret
          have hh : (!decide (xs[k] = ys[k])) = true := by assumption
          refine ⟨ret_bool (Eq.symm (decide_eq_false ?_)), (by repeat (first | with_reducible exact New.refl _ | with_reducible assumption | with_reducible refine New.drew ?_ | with_reducible refine New.drewN ?_ _ | with_reducible refine New.alloc ?_ _ | with_reducible refine New.setCell ?_ (by first | (simp; done) | (simp; omega) | omega) _ | with_reducible refine New.trans ?_ (by with_reducible assumption)))⟩
          rintro rfl
          simp at hh
        · have hh : (!decide (xs[k] = ys[k])) = false := by assumption
          replace hh : xs[k] = ys[k] := by simpa using hh
          replace hh := Lib.hid hh
          go_roundw
          case rel => exact ⟨k + 1, by omega, by go_num, Lib.hid (by rw [List.take_succ_eq_append_getElem hlt, List.take_succ_eq_append_getElem hlt', hpre.out, hh.out]), (by repeat (first | with_reducible exact New.refl _ | with_reducible assumption | with_reducible refine New.drew ?_ | with_reducible refine New.drewN ?_ _ | with_reducible refine New.alloc ?_ _ | with_reducible refine New.setCell ?_ (by first | (simp; done) | (simp; omega) | omega) _ | with_reducible refine New.trans ?_ (by with_reducible assumption)))⟩
          case measure => simp [intOf]; omega
      · have hkx : k = xs.length := by omega
        have hky : k = ys.length := by omega
        have he : xs = ys := by
          have := hpre.out
          rwa [List.take_of_length_le (by omega), List.take_of_length_le (by omega)] at this
        have HE := Lib.hid he
        clear hkx hky he
        go_wp2_with fail
        go_ret
        exact ⟨ret_bool (decide_eq_true HE.out).symm, hb⟩
  · have hne : ((xs.length : Int) != ys.length) = true := by simp; omega
    go_enter Tryd.func33, Tryd.ntmps33
    go_wp2_with fail
    go_ret
    exact ⟨ret_bool (decide_eq_false (fun h => hlen (by rw [h]))).symm, New.refl w⟩











end Go.Proofs.YteielmihlfakgaaDoor
