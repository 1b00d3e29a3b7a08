/- Contracts: are numbers devices of a layout; the laws' helpers on layouts. -/
import Derived.Test.YtdhmngmclbaieaaProg
import Derived.Test.YtdhmngmclbaieaaDevices2
namespace Go.Proofs.Ytdhmngmclbaieaa
open Go Go.Proofs Go.RowKit
set_option linter.unusedVariables false
set_option linter.unusedSimpArgs false
set_option maxRecDepth 100000
def plainAt (xs : List ESegment) (i : Int) : Bool := (xs.getD i.toNat ⟨0, 0, 0, 0, 0, 0, 0⟩).kind == 0
theorem plainAt_eq {xs : List ESegment} {j : Nat} (h : j < xs.length) : plainAt xs (j : Int) = (xs[j].kind == 0) := by simp [plainAt, List.getD, h]
def devB (xs : List ESegment) (on : List Int) : Bool := risesB on xs.length && !(on.any (plainAt xs))
def areDevB (xs : List ESegment) (on : List Int) : Bool := layB xs && devB xs on
set_option maxHeartbeats 1000000 in
theorem sDevices_any (v o : Value) (xs : List ESegment) (on : List Int) (w : World) (hv : RdG w v xs) (ho : RdI w o on) (hl : on.length ≤ 1048576) :
    Calls Try.prog 92 #[.agg #[v], o] w fun e w' => e = .returned (.bool (devB xs on)) ∧ New w w' := by
  obtain ⟨a, cap, rfl, hm, HC⟩ := Rd.flat encSegment_len (by omega) hv
  have HO := Lib.hid ho
  obtain ⟨a', cap', rfl, hm', HC'⟩ := ho.open
  clear hv ho
  rcases Bool.eq_false_or_eq_true (risesB on xs.length) with h0 | h0
  · have HR := Lib.hid (risesB_in h0)
    have HZ := Lib.hid (show devB xs on = !(on.any (plainAt xs)) by rw [devB, h0]; rfl)
    go_enter Try.func92, Try.ntmps92
    go_wp2_with fail
    refine (sRises_any _ on xs.length _ (RdI.new HO.out (by repeat (first | with_reducible exact New.refl _ | with_reducible assumption | with_reducible refine New.drew ?_ | with_reducible refine New.drewN ?_ _ | with_reducible refine New.alloc ?_ _ | with_reducible refine New.setCell ?_ (by first | (simp; done) | (simp; omega) | omega) _ | with_reducible refine New.trans ?_ (by with_reducible assumption)))) hl).mono ?_; rintro e w1 ⟨rfl, b1⟩
    try replace b1 := New.undrawN b1
    try replace b1 := New.undraw b1
    obtain ⟨c1, f1⟩ := b1.rules
    have z1 := b1.size
    try simp only [World.size_alloc, World.size_drew, World.heap_drewN, World.size_setCell] at z1
    have z1_0 : w.heap.size < w1.heap.size := by omega
    go_wp2_with fail
    go_loopw [5] (fun i wr => ∃ k : Nat, k ≤ on.length ∧ i = .int .i64 k ∧ Hid ((on.take k).findIdx? (plainAt xs) = none) ∧ New w1 wr) (fun i _ => on.length - (intOf i).toNat)
    case atStart => exact ⟨0, Nat.zero_le _, rfl, rfl, (by repeat (first | with_reducible exact New.refl _ | with_reducible assumption | with_reducible refine New.drew ?_ | with_reducible refine New.drewN ?_ _ | with_reducible refine New.alloc ?_ _ | with_reducible refine New.setCell ?_ (by first | (simp; done) | (simp; omega) | omega) _ | with_reducible refine New.trans ?_ (by with_reducible assumption)))⟩
    case round =>
      obtain ⟨k, hk, rfl, hpre, hb⟩ := hrel
      obtain ⟨cc, f'⟩ := hb.rules
      have hbz := hb.size
      have hw0 : w.heap.size < wr.heap.size := by omega
      by_cases hlt : k < on.length
      · obtain ⟨b', off', rfl, hbl', hy⟩ := HC'.out w (New.refl w) k hlt
        obtain ⟨hr0, hr1⟩ := HR.out on[k] (List.getElem_mem hlt)
        have HT := Lib.hid (take_find hlt hpre.out)
        generalize hX : on[k] = X at *
        obtain ⟨j, rfl⟩ := Int.eq_ofNat_of_zero_le hr0
        have hlj : j < xs.length := by omega
        obtain ⟨b, off, rfl, hbl, hx⟩ := HC.out j hlj
        have x0 := hx 0 _ (by omega) rfl
        rw [Nat.add_zero] at x0
        replace hx := Lib.hid hx
        have hbw : b < w1.heap.size := by omega
        have hbw' : b' < w1.heap.size := by omega
        have hbw1 : b < w.heap.size + 1 := by omega
        have hbw1' : b' < w.heap.size + 1 := by omega
        have hbr : b < wr.heap.size := by omega
        have hbr' : b' < wr.heap.size := by omega
        have HP := Lib.hid (plainAt_eq hlj)
        rcases Bool.eq_false_or_eq_true (xs[j].kind == 0) with h1 | h1
        · have HA := Lib.hid (HT.out.1 (HP.out.trans h1))
          go_wp2_with fail
          go_quiet (fail)
          go_wp2_with fail
          go_ret
          refine ⟨ret_bool ?_, (by repeat (first | with_reducible exact New.refl _ | with_reducible assumption | with_reducible refine New.drew ?_ | with_reducible refine New.drewN ?_ _ | with_reducible refine New.alloc ?_ _ | with_reducible refine New.setCell ?_ (by first | (simp; done) | (simp; omega) | omega) _ | with_reducible refine New.trans ?_ (by with_reducible assumption)))⟩
          have : on.any (plainAt xs) = true := by rw [← idx_any, idx_some HA.out]; simp
          rw [HZ.out, this]; rfl
        · have HA := Lib.hid (HT.out.2 (HP.out.trans h1))
          go_wp2_with fail
          go_quiet (fail)
          go_wp2_with fail
          go_roundw
          case rel => exact ⟨k + 1, by omega, by go_num, HA, (by repeat (first | with_reducible exact New.refl _ | with_reducible assumption | with_reducible refine New.drew ?_ | with_reducible refine New.drewN ?_ _ | with_reducible refine New.alloc ?_ _ | with_reducible refine New.setCell ?_ (by first | (simp; done) | (simp; omega) | omega) _ | with_reducible refine New.trans ?_ (by with_reducible assumption)))⟩
          case measure => simp [intOf]; omega
      · obtain rfl : k = on.length := by omega
        have HA := Lib.hid (show on.any (plainAt xs) = false by rw [← idx_any, idx_none (by have := hpre.out; rwa [List.take_length] at this)]; rfl)
        go_wp2_with fail
        go_ret
        exact ⟨ret_bool (by rw [HZ.out, HA.out]; rfl), (by repeat (first | with_reducible exact New.refl _ | with_reducible assumption | with_reducible refine New.drew ?_ | with_reducible refine New.drewN ?_ _ | with_reducible refine New.alloc ?_ _ | with_reducible refine New.setCell ?_ (by first | (simp; done) | (simp; omega) | omega) _ | with_reducible refine New.trans ?_ (by with_reducible assumption)))⟩
  · have HZ := Lib.hid (show devB xs on = false by rw [devB, h0]; rfl)
    go_enter Try.func92, Try.ntmps92
    go_wp2_with fail
    refine (sRises_any _ on xs.length _ (RdI.new HO.out (by repeat (first | with_reducible exact New.refl _ | with_reducible assumption | with_reducible refine New.drew ?_ | with_reducible refine New.drewN ?_ _ | with_reducible refine New.alloc ?_ _ | with_reducible refine New.setCell ?_ (by first | (simp; done) | (simp; omega) | omega) _ | with_reducible refine New.trans ?_ (by with_reducible assumption)))) hl).mono ?_; rintro e w1 ⟨rfl, b1⟩
    try replace b1 := New.undrawN b1
    try replace b1 := New.undraw b1
    obtain ⟨c1, f1⟩ := b1.rules
    have z1 := b1.size
    try simp only [World.size_alloc, World.size_drew, World.heap_drewN, World.size_setCell] at z1
    have z1_0 : w.heap.size < w1.heap.size := by omega
    go_wp2_with fail
    go_ret
    exact ⟨ret_bool HZ.out.symm, (by repeat (first | with_reducible exact New.refl _ | with_reducible assumption | with_reducible refine New.drew ?_ | with_reducible refine New.drewN ?_ _ | with_reducible refine New.alloc ?_ _ | with_reducible refine New.setCell ?_ (by first | (simp; done) | (simp; omega) | omega) _ | with_reducible refine New.trans ?_ (by with_reducible assumption)))⟩
theorem lengthG_any (v : Value) (xs : List ESegment) (w : World) (hv : RdG w v xs) : Calls Try.prog 116 #[v] w fun e w' => e = .returned (.int .i64 xs.length) ∧ w = w' := by
  obtain ⟨a, cap, rfl, hn, _⟩ := hv
  go_enter Try.func116, Try.ntmps116
  go_wp2_with fail
  go_ret
  exact ⟨rfl, rfl⟩
theorem areDev1_any (bk : Nat) (v : Value) (x : Int) (xs : List ESegment) (w : World) (hv : RdG w v xs) (hc : w.cell? ⟨bk, 0, none⟩ = some v) (h0 : 0 ≤ x) (h1 : x < xs.length) :
    Calls Try.prog 117 (#[.int .i64 x] ++ #[.pointer (some ⟨bk, 0, none⟩)]) w fun e w' => e = .returned (.bool (plainAt xs x)) ∧ New w w' := by
  obtain ⟨a, cap, rfl, hm, HC⟩ := Rd.flat encSegment_len (by omega) hv
  clear hv
  obtain ⟨j, rfl⟩ := Int.eq_ofNat_of_zero_le h0
  have hlj : j < xs.length := by omega
  obtain ⟨b, off, rfl, hbl, hx⟩ := HC.out j hlj
  have x0 := hx 0 _ (by omega) rfl
  rw [Nat.add_zero] at x0
  replace hx := Lib.hid hx
  have HP := Lib.hid (plainAt_eq hlj)
  show Calls Try.prog 117 #[.int .i64 (j : Int), .pointer (some ⟨bk, 0, none⟩)] w _
  go_enter Try.func117, Try.ntmps117
  go_wp2_with fail
  go_ret
  exact ⟨ret_bool HP.out.symm, (by repeat (first | with_reducible exact New.refl _ | with_reducible assumption | with_reducible refine New.drew ?_ | with_reducible refine New.drewN ?_ _ | with_reducible refine New.alloc ?_ _ | with_reducible refine New.setCell ?_ (by first | (simp; done) | (simp; omega) | omega) _ | with_reducible refine New.trans ?_ (by with_reducible assumption)))⟩
theorem iDevices_any (v o : Value) (xs : List ESegment) (on : List Int) (w : World) (hv : RdG w v xs) (ho : RdI w o on) (hl : on.length ≤ 1048576) :
    Calls Try.prog 95 #[.agg #[v], o] w fun e w' => e = .returned (.bool (devB xs on)) ∧ New w w' := by
  have HV := Lib.hid hv; clear hv
  have HO := Lib.hid ho; clear ho
  have HCF := Lib.hid (containsFuncI_any 117 #[.pointer (some ⟨w.heap.size, 0, none⟩)] (plainAt xs) o on)
  rcases Bool.eq_false_or_eq_true (risesB on xs.length) with h0 | h0
  · have HR := Lib.hid (risesB_in h0)
    go_enter Try.func95, Try.ntmps95
    go_wp2_with (first | (go_at_call 116; refine (lengthG_any _ xs _ (Rd.new HV.out (by repeat (first | with_reducible exact New.refl _ | with_reducible assumption | with_reducible refine New.drew ?_ | with_reducible refine New.drewN ?_ _ | with_reducible refine New.alloc ?_ _ | with_reducible refine New.setCell ?_ (by first | (simp; done) | (simp; omega) | omega) _ | with_reducible refine New.trans ?_ (by with_reducible assumption))))).mono ?_; rintro e _ ⟨rfl, rfl⟩))
    refine (iRises_any _ on xs.length _ (RdI.new HO.out (by repeat (first | with_reducible exact New.refl _ | with_reducible assumption | with_reducible refine New.drew ?_ | with_reducible refine New.drewN ?_ _ | with_reducible refine New.alloc ?_ _ | with_reducible refine New.setCell ?_ (by first | (simp; done) | (simp; omega) | omega) _ | with_reducible refine New.trans ?_ (by with_reducible assumption)))) hl).mono ?_; rintro e w1 ⟨rfl, b1⟩
    try replace b1 := New.undrawN b1
    try replace b1 := New.undraw b1
    obtain ⟨c1, f1⟩ := b1.rules
    have z1 := b1.size
    try simp only [World.size_alloc, World.size_drew, World.heap_drewN, World.size_setCell] at z1
    have z1_0 : w.heap.size < w1.heap.size := by omega
    go_wp2_with fail
    have hc1 : w1.cell? ⟨w.heap.size, 0, none⟩ = some v := by rw [c1 _ _ (by simp)]; simp
    have hww : New w w1 := (by repeat (first | with_reducible exact New.refl _ | with_reducible assumption | with_reducible refine New.drew ?_ | with_reducible refine New.drewN ?_ _ | with_reducible refine New.alloc ?_ _ | with_reducible refine New.setCell ?_ (by first | (simp; done) | (simp; omega) | omega) _ | with_reducible refine New.trans ?_ (by with_reducible assumption)))
    refine (HCF.out _ (RdI.new HO.out hww) (fun args w => by kernel_rfl) (fun x w2 hx hn => areDev1_any w.heap.size v x xs w2 (Rd.new HV.out (hww.trans hn)) ((hn.cell z1_0).trans hc1) (HR.out x hx).1 (HR.out x hx).2)).mono ?_
    rintro e w2 ⟨rfl, b2⟩
    go_wp2_with fail
    go_ret
    exact ⟨ret_bool (by rw [devB, h0]; rfl), (by repeat (first | with_reducible exact New.refl _ | with_reducible assumption | with_reducible refine New.drew ?_ | with_reducible refine New.drewN ?_ _ | with_reducible refine New.alloc ?_ _ | with_reducible refine New.setCell ?_ (by first | (simp; done) | (simp; omega) | omega) _ | with_reducible refine New.trans ?_ (by with_reducible assumption)))⟩
  · go_enter Try.func95, Try.ntmps95
    go_wp2_with (first | (go_at_call 116; refine (lengthG_any _ xs _ (Rd.new HV.out (by repeat (first | with_reducible exact New.refl _ | with_reducible assumption | with_reducible refine New.drew ?_ | with_reducible refine New.drewN ?_ _ | with_reducible refine New.alloc ?_ _ | with_reducible refine New.setCell ?_ (by first | (simp; done) | (simp; omega) | omega) _ | with_reducible refine New.trans ?_ (by with_reducible assumption))))).mono ?_; rintro e _ ⟨rfl, rfl⟩))
    refine (iRises_any _ on xs.length _ (RdI.new HO.out (by repeat (first | with_reducible exact New.refl _ | with_reducible assumption | with_reducible refine New.drew ?_ | with_reducible refine New.drewN ?_ _ | with_reducible refine New.alloc ?_ _ | with_reducible refine New.setCell ?_ (by first | (simp; done) | (simp; omega) | omega) _ | with_reducible refine New.trans ?_ (by with_reducible assumption)))) hl).mono ?_; rintro e w1 ⟨rfl, b1⟩
    try replace b1 := New.undrawN b1
    try replace b1 := New.undraw b1
    obtain ⟨c1, f1⟩ := b1.rules
    have z1 := b1.size
    try simp only [World.size_alloc, World.size_drew, World.heap_drewN, World.size_setCell] at z1
    have z1_0 : w.heap.size < w1.heap.size := by omega
    go_wp2_with fail
    go_ret
    exact ⟨ret_bool (by rw [devB, h0]; rfl), (by repeat (first | with_reducible exact New.refl _ | with_reducible assumption | with_reducible refine New.drew ?_ | with_reducible refine New.drewN ?_ _ | with_reducible refine New.alloc ?_ _ | with_reducible refine New.setCell ?_ (by first | (simp; done) | (simp; omega) | omega) _ | with_reducible refine New.trans ?_ (by with_reducible assumption)))⟩
theorem sAreDevices_any (v o : Value) (xs : List ESegment) (on : List Int) (w : World) (hv : RdG w v xs) (ho : RdI w o on) (hl : on.length ≤ 1048576) :
    Calls Try.prog 41 #[.agg #[v], o] w fun e w' => e = .returned (.bool (areDevB xs on)) ∧ New w w' := by
  have HV := Lib.hid hv; clear hv
  have HO := Lib.hid ho; clear ho
  rcases Bool.eq_false_or_eq_true (layB xs) with h0 | h0
  · go_enter Try.func41, Try.ntmps41
    go_wp2_with fail
    refine (sIsLayout_any v xs _ (Rd.new HV.out (by repeat (first | with_reducible exact New.refl _ | with_reducible assumption | with_reducible refine New.drew ?_ | with_reducible refine New.drewN ?_ _ | with_reducible refine New.alloc ?_ _ | with_reducible refine New.setCell ?_ (by first | (simp; done) | (simp; omega) | omega) _ | with_reducible refine New.trans ?_ (by with_reducible assumption))))).mono ?_; rintro e w1 ⟨rfl, b1⟩
    try replace b1 := New.undrawN b1
    try replace b1 := New.undraw b1
    obtain ⟨c1, f1⟩ := b1.rules
    have z1 := b1.size
    try simp only [World.size_alloc, World.size_drew, World.heap_drewN, World.size_setCell] at z1
    have z1_0 : w.heap.size < w1.heap.size := by omega
    go_wp2_with fail
    refine (sDevices_any v o xs on _ (Rd.new HV.out (by repeat (first | with_reducible exact New.refl _ | with_reducible assumption | with_reducible refine New.drew ?_ | with_reducible refine New.drewN ?_ _ | with_reducible refine New.alloc ?_ _ | with_reducible refine New.setCell ?_ (by first | (simp; done) | (simp; omega) | omega) _ | with_reducible refine New.trans ?_ (by with_reducible assumption)))) (RdI.new HO.out (by repeat (first | with_reducible exact New.refl _ | with_reducible assumption | with_reducible refine New.drew ?_ | with_reducible refine New.drewN ?_ _ | with_reducible refine New.alloc ?_ _ | with_reducible refine New.setCell ?_ (by first | (simp; done) | (simp; omega) | omega) _ | with_reducible refine New.trans ?_ (by with_reducible assumption)))) hl).mono ?_; rintro e w2 ⟨rfl, b2⟩
    try replace b2 := New.undrawN b2
    try replace b2 := New.undraw b2
    obtain ⟨c2, f2⟩ := b2.rules
    have z2 := b2.size
    try simp only [World.size_alloc, World.size_drew, World.heap_drewN, World.size_setCell] at z2
    go_wp2_with fail
    go_ret
    exact ⟨ret_bool (by rw [areDevB, h0]; rfl), (by repeat (first | with_reducible exact New.refl _ | with_reducible assumption | with_reducible refine New.drew ?_ | with_reducible refine New.drewN ?_ _ | with_reducible refine New.alloc ?_ _ | with_reducible refine New.setCell ?_ (by first | (simp; done) | (simp; omega) | omega) _ | with_reducible refine New.trans ?_ (by with_reducible assumption)))⟩
  · go_enter Try.func41, Try.ntmps41
    go_wp2_with fail
    refine (sIsLayout_any v xs _ (Rd.new HV.out (by repeat (first | with_reducible exact New.refl _ | with_reducible assumption | with_reducible refine New.drew ?_ | with_reducible refine New.drewN ?_ _ | with_reducible refine New.alloc ?_ _ | with_reducible refine New.setCell ?_ (by first | (simp; done) | (simp; omega) | omega) _ | with_reducible refine New.trans ?_ (by with_reducible assumption))))).mono ?_; rintro e w1 ⟨rfl, b1⟩
    try replace b1 := New.undrawN b1
    try replace b1 := New.undraw b1
    obtain ⟨c1, f1⟩ := b1.rules
    have z1 := b1.size
    try simp only [World.size_alloc, World.size_drew, World.heap_drewN, World.size_setCell] at z1
    have z1_0 : w.heap.size < w1.heap.size := by omega
    go_wp2_with fail
    go_ret
    exact ⟨ret_bool (by rw [areDevB, h0]; rfl), (by repeat (first | with_reducible exact New.refl _ | with_reducible assumption | with_reducible refine New.drew ?_ | with_reducible refine New.drewN ?_ _ | with_reducible refine New.alloc ?_ _ | with_reducible refine New.setCell ?_ (by first | (simp; done) | (simp; omega) | omega) _ | with_reducible refine New.trans ?_ (by with_reducible assumption)))⟩
theorem iAreDevices_any (v o : Value) (xs : List ESegment) (on : List Int) (w : World) (hv : RdG w v xs) (ho : RdI w o on) (hl : on.length ≤ 1048576) (hx : xs.length ≤ 1048576) :
    Calls Try.prog 44 #[.agg #[v], o] w fun e w' => e = .returned (.bool (areDevB xs on)) ∧ New w w' := by
  have HV := Lib.hid hv; clear hv
  have HO := Lib.hid ho; clear ho
  rcases Bool.eq_false_or_eq_true (layB xs) with h0 | h0
  · go_enter Try.func44, Try.ntmps44
    go_wp2_with fail
    refine (iIsLayout_any v xs _ (Rd.new HV.out (by repeat (first | with_reducible exact New.refl _ | with_reducible assumption | with_reducible refine New.drew ?_ | with_reducible refine New.drewN ?_ _ | with_reducible refine New.alloc ?_ _ | with_reducible refine New.setCell ?_ (by first | (simp; done) | (simp; omega) | omega) _ | with_reducible refine New.trans ?_ (by with_reducible assumption)))) hx).mono ?_; rintro e w1 ⟨rfl, b1⟩
    try replace b1 := New.undrawN b1
    try replace b1 := New.undraw b1
    obtain ⟨c1, f1⟩ := b1.rules
    have z1 := b1.size
    try simp only [World.size_alloc, World.size_drew, World.heap_drewN, World.size_setCell] at z1
    have z1_0 : w.heap.size < w1.heap.size := by omega
    go_wp2_with fail
    refine (iDevices_any v o xs on _ (Rd.new HV.out (by repeat (first | with_reducible exact New.refl _ | with_reducible assumption | with_reducible refine New.drew ?_ | with_reducible refine New.drewN ?_ _ | with_reducible refine New.alloc ?_ _ | with_reducible refine New.setCell ?_ (by first | (simp; done) | (simp; omega) | omega) _ | with_reducible refine New.trans ?_ (by with_reducible assumption)))) (RdI.new HO.out (by repeat (first | with_reducible exact New.refl _ | with_reducible assumption | with_reducible refine New.drew ?_ | with_reducible refine New.drewN ?_ _ | with_reducible refine New.alloc ?_ _ | with_reducible refine New.setCell ?_ (by first | (simp; done) | (simp; omega) | omega) _ | with_reducible refine New.trans ?_ (by with_reducible assumption)))) hl).mono ?_; rintro e w2 ⟨rfl, b2⟩
    try replace b2 := New.undrawN b2
    try replace b2 := New.undraw b2
    obtain ⟨c2, f2⟩ := b2.rules
    have z2 := b2.size
    try simp only [World.size_alloc, World.size_drew, World.heap_drewN, World.size_setCell] at z2
    go_wp2_with fail
    go_ret
    exact ⟨ret_bool (by rw [areDevB, h0]; rfl), (by repeat (first | with_reducible exact New.refl _ | with_reducible assumption | with_reducible refine New.drew ?_ | with_reducible refine New.drewN ?_ _ | with_reducible refine New.alloc ?_ _ | with_reducible refine New.setCell ?_ (by first | (simp; done) | (simp; omega) | omega) _ | with_reducible refine New.trans ?_ (by with_reducible assumption)))⟩
  · go_enter Try.func44, Try.ntmps44
    go_wp2_with fail
    refine (iIsLayout_any v xs _ (Rd.new HV.out (by repeat (first | with_reducible exact New.refl _ | with_reducible assumption | with_reducible refine New.drew ?_ | with_reducible refine New.drewN ?_ _ | with_reducible refine New.alloc ?_ _ | with_reducible refine New.setCell ?_ (by first | (simp; done) | (simp; omega) | omega) _ | with_reducible refine New.trans ?_ (by with_reducible assumption)))) hx).mono ?_; rintro e w1 ⟨rfl, b1⟩
    try replace b1 := New.undrawN b1
    try replace b1 := New.undraw b1
    obtain ⟨c1, f1⟩ := b1.rules
    have z1 := b1.size
    try simp only [World.size_alloc, World.size_drew, World.heap_drewN, World.size_setCell] at z1
    have z1_0 : w.heap.size < w1.heap.size := by omega
    go_wp2_with fail
    go_ret
    exact ⟨ret_bool (by rw [areDevB, h0]; rfl), (by repeat (first | with_reducible exact New.refl _ | with_reducible assumption | with_reducible refine New.drew ?_ | with_reducible refine New.drewN ?_ _ | with_reducible refine New.alloc ?_ _ | with_reducible refine New.setCell ?_ (by first | (simp; done) | (simp; omega) | omega) _ | with_reducible refine New.trans ?_ (by with_reducible assumption)))⟩
theorem szLayout_any (v : Value) (xs : List ESegment) (left : Int) (w : World) (hv : RdG w v xs) (hl : 0 ≤ left) (hl' : left ≤ 1048576) :
    Calls Try.prog 40 #[.agg #[v], .int .i64 left] w fun e w' => e = .returned (.int .i64 (szL xs.length left)) ∧ New w w' := by
  have hr := szL_range (n := xs.length) (left := left) (B := 1048576) hl hl'
  go_enter Try.func40, Try.ntmps40
  go_wp2_with fail
  refine (szSegmentS_any v xs.length _ left _ (Rd.new hv (by repeat (first | with_reducible exact New.refl _ | with_reducible assumption | with_reducible refine New.drew ?_ | with_reducible refine New.drewN ?_ _ | with_reducible refine New.alloc ?_ _ | with_reducible refine New.setCell ?_ (by first | (simp; done) | (simp; omega) | omega) _ | with_reducible refine New.trans ?_ (by with_reducible assumption)))) hl hl').mono ?_; rintro e _ ⟨rfl, rfl⟩
  go_wp2_with fail
  all_goals go_ret
  all_goals exact ⟨ret_int (by omega), (by repeat (first | with_reducible exact New.refl _ | with_reducible assumption | with_reducible refine New.drew ?_ | with_reducible refine New.drewN ?_ _ | with_reducible refine New.alloc ?_ _ | with_reducible refine New.setCell ?_ (by first | (simp; done) | (simp; omega) | omega) _ | with_reducible refine New.trans ?_ (by with_reducible assumption)))⟩
theorem toLayout_any (v : Value) (xs : List ESegment) (w : World) (hv : RdG w v xs) (hn : xs.length ≤ 1048576) :
    Calls Try.prog 42 #[.agg #[v]] w fun e w' => ∃ r, e = .returned (.agg #[r]) ∧ New w w' ∧ w'.ownsRow w.heap.size 46 7 r xs.length (xs.flatMap encSegment) := by
  go_enter Try.func42, Try.ntmps42
  go_wp2_with fail
  refine (toSegmentS_any _ xs _ (Rd.new hv (by repeat (first | with_reducible exact New.refl _ | with_reducible assumption | with_reducible refine New.drew ?_ | with_reducible refine New.drewN ?_ _ | with_reducible refine New.alloc ?_ _ | with_reducible refine New.setCell ?_ (by first | (simp; done) | (simp; omega) | omega) _ | with_reducible refine New.trans ?_ (by with_reducible assumption)))) hn).mono ?_; rintro e w1 ⟨r, rfl, b1, own1⟩
  obtain ⟨ra, rc, rfl⟩ := own_slice own1
  obtain ⟨c1, f1⟩ := b1.rules
  have z1 := b1.size
  try simp only [World.size_alloc, World.size_drew, World.heap_drewN, World.size_setCell] at z1
  have z1_0 : w.heap.size < w1.heap.size := by omega
  have z1_1 : w.heap.size + 1 < w1.heap.size := by omega
  have z1_2 : w.heap.size + 1 + 1 < w1.heap.size := by omega
  go_wp2_with fail
  exact bodyPost_ret (v := .agg #[.slice ra xs.length rc]) (by simp [results, Try.results42, go_sem, c1, f1, z1_0, z1_1, z1_2]) rfl ⟨_, rfl, (by repeat (first | with_reducible exact New.refl _ | with_reducible assumption | with_reducible refine New.drew ?_ | with_reducible refine New.drewN ?_ _ | with_reducible refine New.alloc ?_ _ | with_reducible refine New.setCell ?_ (by first | (simp; done) | (simp; omega) | omega) _ | with_reducible refine New.trans ?_ (by with_reducible assumption))), (by apply own_base; (repeat (first | with_reducible exact own1 | with_reducible apply ownsRow_setCell_below | with_reducible refine World.ownsRow.alloc ?_ _ | with_reducible refine own_new ?_ (by with_reducible assumption))); all_goals (first | (simp; done) | (simp; omega) | omega))⟩
theorem eqLayout_any (v u : Value) (xs ys : List ESegment) (w : World) (hv : RdG w v xs) (hu : RdG w u ys) :
    Calls Try.prog 45 #[.agg #[v], .agg #[u]] w fun e w' => e = .returned (.bool (decide (xs = ys))) ∧ New w w' := by
  have zz : w.heap.size < w.heap.size + 1 + 1 := by omega
  rcases Bool.eq_false_or_eq_true (decide (xs = ys)) with h | h
  all_goals rw [h]
  all_goals go_enter Try.func45, Try.ntmps45
  all_goals go_wp2_with fail
  all_goals refine (eqSegmentS_any _ _ xs ys _ (Rd.new hv (by repeat (first | with_reducible exact New.refl _ | with_reducible assumption | with_reducible refine New.drew ?_ | with_reducible refine New.drewN ?_ _ | with_reducible refine New.alloc ?_ _ | with_reducible refine New.setCell ?_ (by first | (simp; done) | (simp; omega) | omega) _ | with_reducible refine New.trans ?_ (by with_reducible assumption)))) (Rd.new hu (by repeat (first | with_reducible exact New.refl _ | with_reducible assumption | with_reducible refine New.drew ?_ | with_reducible refine New.drewN ?_ _ | with_reducible refine New.alloc ?_ _ | with_reducible refine New.setCell ?_ (by first | (simp; done) | (simp; omega) | omega) _ | with_reducible refine New.trans ?_ (by with_reducible assumption))))).mono ?_
  all_goals rintro e w1 ⟨rfl, b1⟩
  all_goals rw [h]
  all_goals go_wp2_with fail
  all_goals go_ret
  all_goals exact ⟨rfl, (by repeat (first | with_reducible exact New.refl _ | with_reducible assumption | with_reducible refine New.drew ?_ | with_reducible refine New.drewN ?_ _ | with_reducible refine New.alloc ?_ _ | with_reducible refine New.setCell ?_ (by first | (simp; done) | (simp; omega) | omega) _ | with_reducible refine New.trans ?_ (by with_reducible assumption)))⟩
end Go.Proofs.Ytdhmngmclbaieaa
