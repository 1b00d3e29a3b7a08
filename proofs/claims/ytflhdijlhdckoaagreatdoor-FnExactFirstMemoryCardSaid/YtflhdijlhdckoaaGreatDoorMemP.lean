/- Contracts: memories of programs. -/
import Derived.Test.YtflhdijlhdckoaaGreatDoorProg
import Derived.Test.YtflhdijlhdckoaaGreatDoorBlocksP
import Derived.Test.YtflhdijlhdckoaaGreatDoorStateS
import Derived.Test.YtflhdijlhdckoaaGreatDoorFunc
import Derived.Test.YtflhdijlhdckoaaGreatDoorBlocks
namespace Go.Proofs.YtflhdijlhdckoaaGreatDoor
open Go Go.Proofs Go.RowKit
set_option linter.unusedVariables false
set_option linter.unusedSimpArgs false
set_option maxRecDepth 100000
abbrev RdT (w : World) (v : Value) (xs : List ETerm) : Prop := Rd w v xs.length (xs.flatMap encTerm)
abbrev RdB (w : World) (v : Value) (xs : List EBlockState) : Prop := Rd w v xs.length (xs.flatMap encBlockState)
def noBit (x : Int) : Bool := x != 0 && x != 1
theorem noBit_in (x : Int) : noBit x = !inB x 0 1 := by
  rw [noBit, inB, Bool.eq_iff_iff]; simp; omega
def bitsB (xs : List Int) (n : Int) : Bool := !(xs.any noBit) && ((xs.length : Int) == n)
theorem sBits_any (v : Value) (xs : List Int) (n : Int) (w : World) (hv : RdI w v xs) :
    Calls Tryz.prog 111 #[v, .int .i64 n] w fun e w' => e = .returned (.bool (bitsB xs n)) ∧ w = w' := by
  obtain ⟨a, cap, rfl, hm, HC⟩ := hv.open
  clear hv
  go_enter Tryz.func111, Tryz.ntmps111
  go_wp2_with fail
  go_loop [5] (fun i => ∃ k : Nat, k ≤ xs.length ∧ i = .int .i64 k ∧ Hid ((xs.take k).findIdx? noBit = none)) (fun i => xs.length - (intOf i).toNat)
  case atStart => exact ⟨0, Nat.zero_le _, rfl, rfl⟩
  case round =>
    obtain ⟨k, hk, rfl, hpre⟩ := hrel
    by_cases hlt : k < xs.length
    · obtain ⟨b, off, rfl, hbl, hx⟩ := HC.out w (New.refl w) k hlt
      have HT := Lib.hid (take_find hlt hpre.out)
      have hnb := noBit_in xs[k]
      rcases Bool.eq_false_or_eq_true (inB xs[k] 0 1) with h1 | h1
      · have HA := Lib.hid (HT.out.2 (by rw [hnb, h1]; rfl))
        clear hnb
        go_wp2_with (first | (go_at_call 92; refine (l01In_any _ _ _ _).mono ?_; rintro e _ ⟨rfl, rfl⟩))
        go_round
        case rel => exact ⟨k + 1, by omega, by go_num, HA⟩
        case measure => simp [intOf]; omega
      · have HA := Lib.hid (HT.out.1 (by rw [hnb, h1]; rfl))
        clear hnb
        go_wp2_with (first | (go_at_call 92; refine (l01In_any _ _ _ _).mono ?_; rintro e _ ⟨rfl, rfl⟩))
        go_ret
        refine ⟨ret_bool ?_, rfl⟩
        have : xs.any noBit = true := by rw [← idx_any, idx_some HA.out]; simp
        rw [bitsB, this]; simp
    · obtain rfl : k = xs.length := by omega
      have HA := Lib.hid (show xs.any noBit = false by rw [← idx_any, idx_none (by have := hpre.out; rwa [List.take_length] at this)]; rfl)
      go_wp2_with fail
      go_ret
      exact ⟨ret_bool (by rw [bitsB, HA.out]; simp), rfl⟩
theorem areBits1_any (x : Int) (w : World) : Calls Tryz.prog 180 #[.int .i64 x] w fun e w' => e = .returned (.bool (noBit x)) ∧ w = w' := by
  go_enter Tryz.func180, Tryz.ntmps180
  go_wp2_with fail
  all_goals go_ret
  all_goals (refine ⟨ret_bool ?_, rfl⟩; simp_all [noBit])
theorem iBits_any (v : Value) (xs : List Int) (n : Int) (w : World) (hv : RdI w v xs) :
    Calls Tryz.prog 116 #[v, .int .i64 n] w fun e w' => e = .returned (.bool (bitsB xs n)) ∧ New w w' := by
  obtain ⟨a, cap, rfl, hm, HC⟩ := hv.open
  have HV := Lib.hid hv
  have HCF := Lib.hid (containsFuncI_any 180 #[] noBit (.slice a xs.length cap) xs w hv (fun args w => by kernel_rfl) (fun x w1 _ _ => (areBits1_any x w1).mono (fun e w' h => ⟨h.1, by rw [h.2]; exact New.refl _⟩)))
  clear hv
  by_cases h1 : (xs.length : Int) = n
  · subst h1
    go_enter Tryz.func116, Tryz.ntmps116
    go_wp2_with fail
    refine HCF.out.mono ?_; rintro e w2 ⟨rfl, b2⟩
    go_wp2_with fail
    go_ret
    exact ⟨ret_bool (by rw [bitsB]; simp), (by repeat (first | with_reducible exact New.refl _ | with_reducible assumption | with_reducible refine New.drew ?_ | with_reducible refine New.drewN ?_ _ | with_reducible refine New.alloc ?_ _ | with_reducible refine New.setCell ?_ (by first | (simp; done) | (simp; omega) | omega) _ | with_reducible refine New.trans ?_ (by with_reducible assumption)))⟩
  · go_enter Tryz.func116, Tryz.ntmps116
    go_wp2_with fail
    go_ret
    refine ⟨ret_bool ?_, (by repeat (first | with_reducible exact New.refl _ | with_reducible assumption | with_reducible refine New.drew ?_ | with_reducible refine New.drewN ?_ _ | with_reducible refine New.alloc ?_ _ | with_reducible refine New.setCell ?_ (by first | (simp; done) | (simp; omega) | omega) _ | with_reducible refine New.trans ?_ (by with_reducible assumption)))⟩
    rw [bitsB]; simp [h1]
def isBlkE (t : ETerm) : Bool := isBlk t.kind t.name t.num
theorem hrun_terms : ∀ (ts : List ETerm) (n : Int) (acc : List Int) (r : List Int × Int), hrun ts n acc = some r → ∀ t ∈ ts, termE t = true
  | [], _, _, _, _, t, ht => absurd ht (List.not_mem_nil)
  | x :: xs, n, acc, r, h, t, ht => by
    rw [hrun] at h
    split at h
    · rename_i hc
      rcases List.mem_cons.1 ht with rfl | ht
      · exact hc.1
      · exact hrun_terms xs _ _ r h t ht
    · cases h
theorem okH_terms {ts : List ETerm} (h : okH ts = true) : ∀ t ∈ ts, termE t = true := by
  rw [okH] at h
  cases h1 : hrun ts 0 [] with
  | none => rw [h1] at h; cases h
  | some r => exact hrun_terms ts 0 [] r h1
theorem blkP_ok {p : ProgD} (h : wB p = true) : ∀ t ∈ blkP p, isBlkE t = true := by
  simp only [wB, Bool.and_eq_true, List.all_eq_true, inB, decide_eq_true_eq] at h
  intro t ht
  rw [blkP, List.mem_flatMap] at ht
  obtain ⟨l, hl, ht⟩ := ht
  have := h.2.1 l hl
  simp only [lineB, Bool.and_eq_true] at this
  rw [blkT, List.mem_filter] at ht
  have h2 := okH_terms this.2 t ht.1
  rw [isBlkE, isBlk, ← termE, h2]
  exact ht.2
def posE (t : ETerm) (s : EBlockState) : Bool := posB t.kind t.num s.sa s.sb s.sc
def posAt (bs : List ETerm) (ss : List EBlockState) (k : Nat) : Bool := posE (bs.getD k ⟨0, ⟨#[]⟩, 0⟩) (ss.getD k ⟨0, 0, 0⟩)
theorem posAt_eq {bs : List ETerm} {ss : List EBlockState} {k : Nat} (h : k < bs.length) (h' : k < ss.length) : posAt bs ss k = posE bs[k] ss[k] := by
  rw [posAt, List.getD_eq_getElem?_getD, List.getD_eq_getElem?_getD, List.getElem?_eq_getElem h, List.getElem?_eq_getElem h']; rfl
def suitsB (vars : Int) (bs : List ETerm) (vals : List Int) (ss : List EBlockState) : Bool := ((ss.length : Int) == (bs.length : Int)) && bitsB vals vars && allUp (posAt bs ss) bs.length
set_option maxHeartbeats 1000000 in
theorem iSuits_any (vars : Int) (bs : List ETerm) (vals : List Int) (ss : List EBlockState) (bv va bl : Value) (w : World) (hb : RdT w bv bs) (hv : RdI w va vals) (hl : RdB w bl ss) (hk : ∀ x ∈ bs, isBlkE x = true) :
    Calls Tryz.prog 52 #[.agg #[va, bl], .int .i64 vars, bv] w fun e w' => e = .returned (.bool (suitsB vars bs vals ss)) ∧ New w w' := by
  have HK := Lib.hid hk; clear hk
  have HV := Lib.hid hv; clear hv
  have zz : w.heap.size < w.heap.size + 1 + 1 := by omega
  obtain ⟨a, cap, rfl, hm, HC⟩ := Rd.flat encTerm_len (by omega) hb
  obtain ⟨a', cap', rfl, hm', HC'⟩ := Rd.flat encBlockState_len (by omega) hl
  clear hb hl
  rcases Bool.eq_false_or_eq_true (bitsB vals vars) with h2 | h2
  · rcases Bool.eq_false_or_eq_true ((ss.length : Int) == (bs.length : Int)) with h1 | h1
    · have h1' : ss.length = bs.length := by have := eq_of_beq h1; omega
      have hle : bs.length ≤ ss.length := by omega
      have hne : ((ss.length : Int) != bs.length) = false := by simp [h1']
      clear h1'
      have HZ := Lib.hid (show suitsB vars bs vals ss = allUp (posAt bs ss) bs.length by rw [suitsB, h1, h2]; rfl)
      clear h1
      go_enter Tryz.func52, Tryz.ntmps52
      go_wp2_with fail
      refine (iBits_any va vals _ _ (RdI.new HV.out (by repeat (first | with_reducible exact New.refl _ | with_reducible assumption | with_reducible refine New.drew ?_ | with_reducible refine New.drewN ?_ _ | with_reducible refine New.alloc ?_ _ | with_reducible refine New.setCell ?_ (by first | (simp; done) | (simp; omega) | omega) _ | with_reducible refine New.trans ?_ (by with_reducible assumption))))).mono ?_; rintro e w1 ⟨rfl, b1⟩
      try replace b1 := New.undrawN b1
      try replace b1 := New.undraw b1
      obtain ⟨c1, f1⟩ := b1.rules
      have z1 := b1.size
      try simp only [World.size_alloc, World.size_drew, World.heap_drewN, World.size_setCell] at z1
      have z1_0 : w.heap.size < w1.heap.size := by omega
      go_wp2_with fail
      go_loopw [24] (fun i wr => ∃ k : Nat, k ≤ bs.length ∧ i = .int .i64 k ∧ Hid (allUp (posAt bs ss) k = true) ∧ New w1 wr) (fun i _ => bs.length - (intOf i).toNat)
      case atStart => exact ⟨0, Nat.zero_le _, rfl, rfl, (by repeat (first | with_reducible exact New.refl _ | with_reducible assumption | with_reducible refine New.drew ?_ | with_reducible refine New.drewN ?_ _ | with_reducible refine New.alloc ?_ _ | with_reducible refine New.setCell ?_ (by first | (simp; done) | (simp; omega) | omega) _ | with_reducible refine New.trans ?_ (by with_reducible assumption)))⟩
      case round =>
        obtain ⟨k, hk, rfl, hpre, hb⟩ := hrel
        obtain ⟨cc, f'⟩ := hb.rules
        have hbz := hb.size
        have hw0 : w.heap.size < wr.heap.size := by omega
        by_cases hlt : k < bs.length
        · have hlt' : k < ss.length := by omega
          obtain ⟨b, off, rfl, hbl, hx⟩ := HC.out k hlt
          obtain ⟨b', off', rfl, hbl', hy⟩ := HC'.out k hlt'
          have x0 := hx 0 _ (by omega) rfl
          have x1 := hx 1 _ (by omega) rfl
          have x2 := hx 2 _ (by omega) rfl
          have y0 := hy 0 _ (by omega) rfl
          have y1 := hy 1 _ (by omega) rfl
          have y2 := hy 2 _ (by omega) rfl
          rw [Nat.add_zero] at x0 y0
          replace hx := Lib.hid hx
          replace hy := Lib.hid hy
          have hbw : b < wr.heap.size := by omega
          have hbw' : b' < wr.heap.size := by omega
          have hbwa : b < w1.heap.size := by omega
          have hbwa' : b' < w1.heap.size := by omega
          have hbw1 : b < w.heap.size + 1 := by omega
          have hbw1' : b' < w.heap.size + 1 := by omega
          have hq := fun (n : NewOf (wr.alloc (.cells #[.int .i64 bs[k].kind, .string bs[k].name, .int .i64 bs[k].num] 105))) b o => NewOf.cell n b o
          have HB := Lib.hid (isBlk_bd (HK.out bs[k] (List.getElem_mem hlt)))
          have HP := Lib.hid (posAt_eq (bs := bs) (ss := ss) hlt hlt')
          rcases Bool.eq_false_or_eq_true (posE bs[k] ss[k]) with h3 | h3
          · have HA := Lib.hid (allUp_next hpre.out (HP.out.trans h3))
            rw [posE] at h3
            go_wp2_with fail
            refine wp_region_new (by kernel_rfl) (by kernel_rfl) ?_
            repeat (first | go_big_quiet_skip | go_big_quiet_step ((first | exact newq (iPossible_any _ _ _ _ _ _ _ HB.out.1 HB.out.2.1 HB.out.2.2.1 HB.out.2.2.2))) | quiet_step ((first | exact newq (iPossible_any _ _ _ _ _ _ _ HB.out.1 HB.out.2.1 HB.out.2.2.1 HB.out.2.2.2))))
            refine wpQuiet_nil ?_
            rintro ⟨w4, b4⟩
            dsimp only
            try replace b4 := New.undrawN b4
            try replace b4 := New.undraw b4
            obtain ⟨c4, f4⟩ := b4.rules
            have z4 := b4.size
            try simp only [World.size_alloc, World.size_drew, World.heap_drewN, World.size_setCell] at z4
            go_wp2_with fail
            go_roundw
            case rel => exact ⟨k + 1, by omega, by go_num, HA, (hb.alloc _).trans b4⟩
            case measure => simp [intOf]; omega
          · have HA := Lib.hid (allUp_not (p := posAt bs ss) (n := bs.length) hlt (HP.out.trans h3))
            rw [posE] at h3
            go_wp2_with fail
            refine wp_region_new (by kernel_rfl) (by kernel_rfl) ?_
            repeat (first | go_big_quiet_skip | go_big_quiet_step ((first | exact newq (iPossible_any _ _ _ _ _ _ _ HB.out.1 HB.out.2.1 HB.out.2.2.1 HB.out.2.2.2))) | quiet_step ((first | exact newq (iPossible_any _ _ _ _ _ _ _ HB.out.1 HB.out.2.1 HB.out.2.2.1 HB.out.2.2.2))))
            refine wpQuiet_nil ?_
            rintro ⟨w4, b4⟩
            dsimp only
            try replace b4 := New.undrawN b4
            try replace b4 := New.undraw b4
            obtain ⟨c4, f4⟩ := b4.rules
            have z4 := b4.size
            try simp only [World.size_alloc, World.size_drew, World.heap_drewN, World.size_setCell] at z4
            go_wp2_with fail
            go_ret
            exact ⟨ret_bool (by rw [HZ.out, HA.out]), (by repeat (first | with_reducible exact New.refl _ | with_reducible assumption | with_reducible refine New.drew ?_ | with_reducible refine New.drewN ?_ _ | with_reducible refine New.alloc ?_ _ | with_reducible refine New.setCell ?_ (by first | (simp; done) | (simp; omega) | omega) _ | with_reducible refine New.trans ?_ (by with_reducible assumption)))⟩
        · obtain rfl : k = bs.length := by omega
          go_wp2_with fail
          go_ret
          exact ⟨ret_bool (by rw [HZ.out, hpre.out]), (by repeat (first | with_reducible exact New.refl _ | with_reducible assumption | with_reducible refine New.drew ?_ | with_reducible refine New.drewN ?_ _ | with_reducible refine New.alloc ?_ _ | with_reducible refine New.setCell ?_ (by first | (simp; done) | (simp; omega) | omega) _ | with_reducible refine New.trans ?_ (by with_reducible assumption)))⟩
    · have hne : ((ss.length : Int) != bs.length) = true := by simpa using h1
      go_enter Tryz.func52, Tryz.ntmps52
      go_wp2_with fail
      refine (iBits_any va vals _ _ (RdI.new HV.out (by repeat (first | with_reducible exact New.refl _ | with_reducible assumption | with_reducible refine New.drew ?_ | with_reducible refine New.drewN ?_ _ | with_reducible refine New.alloc ?_ _ | with_reducible refine New.setCell ?_ (by first | (simp; done) | (simp; omega) | omega) _ | with_reducible refine New.trans ?_ (by with_reducible assumption))))).mono ?_; rintro e w1 ⟨rfl, b1⟩
      try replace b1 := New.undrawN b1
      try replace b1 := New.undraw b1
      obtain ⟨c1, f1⟩ := b1.rules
      have z1 := b1.size
      try simp only [World.size_alloc, World.size_drew, World.heap_drewN, World.size_setCell] at z1
      have z1_0 : w.heap.size < w1.heap.size := by omega
      go_wp2_with fail
      go_ret
      exact ⟨ret_bool (by rw [suitsB, h1]; simp), (by repeat (first | with_reducible exact New.refl _ | with_reducible assumption | with_reducible refine New.drew ?_ | with_reducible refine New.drewN ?_ _ | with_reducible refine New.alloc ?_ _ | with_reducible refine New.setCell ?_ (by first | (simp; done) | (simp; omega) | omega) _ | with_reducible refine New.trans ?_ (by with_reducible assumption)))⟩
  · go_enter Tryz.func52, Tryz.ntmps52
    go_wp2_with fail
    refine (iBits_any va vals _ _ (RdI.new HV.out (by repeat (first | with_reducible exact New.refl _ | with_reducible assumption | with_reducible refine New.drew ?_ | with_reducible refine New.drewN ?_ _ | with_reducible refine New.alloc ?_ _ | with_reducible refine New.setCell ?_ (by first | (simp; done) | (simp; omega) | omega) _ | with_reducible refine New.trans ?_ (by with_reducible assumption))))).mono ?_; rintro e w1 ⟨rfl, b1⟩
    try replace b1 := New.undrawN b1
    try replace b1 := New.undraw b1
    obtain ⟨c1, f1⟩ := b1.rules
    have z1 := b1.size
    try simp only [World.size_alloc, World.size_drew, World.heap_drewN, World.size_setCell] at z1
    have z1_0 : w.heap.size < w1.heap.size := by omega
    go_wp2_with fail
    go_ret
    exact ⟨ret_bool (by rw [suitsB, h2]; simp), (by repeat (first | with_reducible exact New.refl _ | with_reducible assumption | with_reducible refine New.drew ?_ | with_reducible refine New.drewN ?_ _ | with_reducible refine New.alloc ?_ _ | with_reducible refine New.setCell ?_ (by first | (simp; done) | (simp; omega) | omega) _ | with_reducible refine New.trans ?_ (by with_reducible assumption)))⟩
set_option maxHeartbeats 1000000 in
theorem sMem_any (p : ProgD) (bs : List ETerm) (vals : List Int) (ss : List EBlockState) (iv vv ov lv va bl : Value) (w : World) (hp : RdP w p iv vv ov lv) (hw : wB p = true) (hbs : blkP p = bs) (hv : RdI w va vals) (hl : RdB w bl ss) (hk : ∀ x ∈ bs, isBlkE x = true) :
    Calls Tryz.prog 46 #[valP p iv vv ov lv, .agg #[va, bl]] w fun e w' => e = .returned (.bool (suitsB p.vars.length bs vals ss)) ∧ New w w' := by
  have HK := Lib.hid hk; clear hk
  have HV := Lib.hid hv; clear hv
  have HP := Lib.hid hp
  have HSB := Lib.hid (fun (w0 : World) (h : RdP w0 p iv vv ov lv) => sBlocks0_any p iv vv ov lv w0 h hw)
  rw [hbs] at HSB
  clear hbs hw
  have zz : w.heap.size < w.heap.size + 1 + 1 := by omega
  obtain ⟨ax, cx, rfl, _⟩ := id hp.vars
  clear hp
  obtain ⟨a', cap', rfl, hm', HC'⟩ := Rd.flat encBlockState_len (by omega) hl
  clear hl
  generalize hNV : p.vars.length = NV at HP HSB ⊢
  rcases Bool.eq_false_or_eq_true ((ss.length : Int) == (bs.length : Int)) with h1 | h1
  · rcases Bool.eq_false_or_eq_true (bitsB vals NV) with h2 | h2
    · have h1' : ss.length = bs.length := by have := eq_of_beq h1; omega
      have hle : bs.length ≤ ss.length := by omega
      have hne : ((ss.length : Int) != bs.length) = false := by simp [h1']
      have HL := Lib.hid h1'
      clear h1'
      have HZ := Lib.hid (show suitsB NV bs vals ss = allUp (posAt bs ss) bs.length by rw [suitsB, h1, h2]; rfl)
      clear h1
      go_enter Tryz.func46, Tryz.ntmps46
      go_wp2_with fail
      refine (HSB.out _ (HP.out.new (by repeat (first | with_reducible exact New.refl _ | with_reducible assumption | with_reducible refine New.drew ?_ | with_reducible refine New.drewN ?_ _ | with_reducible refine New.alloc ?_ _ | with_reducible refine New.setCell ?_ (by first | (simp; done) | (simp; omega) | omega) _ | with_reducible refine New.trans ?_ (by with_reducible assumption))))).mono ?_; rintro e w1 ⟨r1, rfl, b1, own1⟩
      obtain ⟨a, cap, rfl⟩ := own_slice own1
      obtain ⟨c1, f1⟩ := b1.rules
      have z1 := b1.size
      try simp only [World.size_alloc, World.size_drew, World.heap_drewN, World.size_setCell] at z1
      have z1_0 : w.heap.size < w1.heap.size := by omega
      have z1_1 : w.heap.size + 1 < w1.heap.size := by omega
      go_wp2_with fail
      obtain ⟨_, _, hEQ, hm, HC⟩ := Rd.flat encTerm_len (by omega) (own_rd own1)
      cases hEQ
      go_wp2_with (first | (go_at_call 111; refine (sBits_any va vals _ _ (RdI.new HV.out (by repeat (first | with_reducible exact New.refl _ | with_reducible assumption | with_reducible refine New.drew ?_ | with_reducible refine New.drewN ?_ _ | with_reducible refine New.alloc ?_ _ | with_reducible refine New.setCell ?_ (by first | (simp; done) | (simp; omega) | omega) _ | with_reducible refine New.trans ?_ (by with_reducible assumption))))).mono ?_; rintro e _ ⟨rfl, rfl⟩))
      go_loopw [6] (fun i wr => ∃ k : Nat, k ≤ bs.length ∧ i = .int .i64 k ∧ Hid (allUp (posAt bs ss) k = true) ∧ New w1 wr) (fun i _ => bs.length - (intOf i).toNat)
      case atStart => exact ⟨0, Nat.zero_le _, rfl, rfl, (by repeat (first | with_reducible exact New.refl _ | with_reducible assumption | with_reducible refine New.drew ?_ | with_reducible refine New.drewN ?_ _ | with_reducible refine New.alloc ?_ _ | with_reducible refine New.setCell ?_ (by first | (simp; done) | (simp; omega) | omega) _ | with_reducible refine New.trans ?_ (by with_reducible assumption)))⟩
      case round =>
        obtain ⟨k, hk, rfl, hpre, hb⟩ := hrel
        obtain ⟨cc, f'⟩ := hb.rules
        have hbz := hb.size
        have hw0 : w.heap.size < wr.heap.size := by omega
        have hw1 : w.heap.size + 1 < wr.heap.size := by omega
        by_cases hlt : k < bs.length
        · have hlt' : k < ss.length := by omega
          obtain ⟨b, off, rfl, hbl, hx⟩ := HC.out k hlt
          obtain ⟨b', off', rfl, hbl', hy⟩ := HC'.out k hlt'
          have x0 := hx 0 _ (by omega) rfl
          have x1 := hx 1 _ (by omega) rfl
          have x2 := hx 2 _ (by omega) rfl
          have y0 := hy 0 _ (by omega) rfl
          have y1 := hy 1 _ (by omega) rfl
          have y2 := hy 2 _ (by omega) rfl
          rw [Nat.add_zero] at x0 y0
          replace hx := Lib.hid hx
          replace hy := Lib.hid hy
          have hbw : b < wr.heap.size := by omega
          have hbw' : b' < wr.heap.size := by omega
          have hbwa : b < w1.heap.size := by omega
          have hbwa' : b' < w1.heap.size := by omega
          have hbw1' : b' < w.heap.size + 1 := by omega
          have hbw2' : b' < w.heap.size + 1 + 1 := by omega
          have hq := fun (n : NewOf wr) b o => NewOf.cell n b o
          have HB := Lib.hid (isBlk_bd (HK.out bs[k] (List.getElem_mem hlt)))
          have HP := Lib.hid (posAt_eq (bs := bs) (ss := ss) hlt hlt')
          rcases Bool.eq_false_or_eq_true (posE bs[k] ss[k]) with h3 | h3
          · have HA := Lib.hid (allUp_next hpre.out (HP.out.trans h3))
            rw [posE] at h3
            go_wp2_with fail
            refine wp_region_new (by kernel_rfl) (by kernel_rfl) ?_
            repeat (first | go_big_quiet_skip | go_big_quiet_step ((first | exact newq (sPossible_any _ _ _ _ _ _ _ HB.out.1 HB.out.2.1 HB.out.2.2.1 HB.out.2.2.2))) | quiet_step ((first | exact newq (sPossible_any _ _ _ _ _ _ _ HB.out.1 HB.out.2.1 HB.out.2.2.1 HB.out.2.2.2))))
            refine wpQuiet_nil ?_
            rintro ⟨w4, b4⟩
            dsimp only
            try replace b4 := New.undrawN b4
            try replace b4 := New.undraw b4
            obtain ⟨c4, f4⟩ := b4.rules
            have z4 := b4.size
            try simp only [World.size_alloc, World.size_drew, World.heap_drewN, World.size_setCell] at z4
            go_wp2_with fail
            go_roundw
            case rel => exact ⟨k + 1, by omega, by go_num, HA, hb.trans b4⟩
            case measure => simp [intOf]; omega
          · have HA := Lib.hid (allUp_not (p := posAt bs ss) (n := bs.length) hlt (HP.out.trans h3))
            rw [posE] at h3
            go_wp2_with fail
            refine wp_region_new (by kernel_rfl) (by kernel_rfl) ?_
            repeat (first | go_big_quiet_skip | go_big_quiet_step ((first | exact newq (sPossible_any _ _ _ _ _ _ _ HB.out.1 HB.out.2.1 HB.out.2.2.1 HB.out.2.2.2))) | quiet_step ((first | exact newq (sPossible_any _ _ _ _ _ _ _ HB.out.1 HB.out.2.1 HB.out.2.2.1 HB.out.2.2.2))))
            refine wpQuiet_nil ?_
            rintro ⟨w4, b4⟩
            dsimp only
            try replace b4 := New.undrawN b4
            try replace b4 := New.undraw b4
            obtain ⟨c4, f4⟩ := b4.rules
            have z4 := b4.size
            try simp only [World.size_alloc, World.size_drew, World.heap_drewN, World.size_setCell] at z4
            go_wp2_with fail
            go_ret
            exact ⟨ret_bool (by rw [HZ.out, HA.out]), (by repeat (first | with_reducible exact New.refl _ | with_reducible assumption | with_reducible refine New.drew ?_ | with_reducible refine New.drewN ?_ _ | with_reducible refine New.alloc ?_ _ | with_reducible refine New.setCell ?_ (by first | (simp; done) | (simp; omega) | omega) _ | with_reducible refine New.trans ?_ (by with_reducible assumption)))⟩
        · obtain rfl : k = bs.length := by omega
          go_wp2_with fail
          go_ret
          exact ⟨ret_bool (by rw [HZ.out, hpre.out]), (by repeat (first | with_reducible exact New.refl _ | with_reducible assumption | with_reducible refine New.drew ?_ | with_reducible refine New.drewN ?_ _ | with_reducible refine New.alloc ?_ _ | with_reducible refine New.setCell ?_ (by first | (simp; done) | (simp; omega) | omega) _ | with_reducible refine New.trans ?_ (by with_reducible assumption)))⟩
    · have hne : ((ss.length : Int) != bs.length) = false := by simpa using h1
      go_enter Tryz.func46, Tryz.ntmps46
      go_wp2_with fail
      refine (HSB.out _ (HP.out.new (by repeat (first | with_reducible exact New.refl _ | with_reducible assumption | with_reducible refine New.drew ?_ | with_reducible refine New.drewN ?_ _ | with_reducible refine New.alloc ?_ _ | with_reducible refine New.setCell ?_ (by first | (simp; done) | (simp; omega) | omega) _ | with_reducible refine New.trans ?_ (by with_reducible assumption))))).mono ?_; rintro e w1 ⟨r1, rfl, b1, own1⟩
      obtain ⟨a, cap, rfl⟩ := own_slice own1
      obtain ⟨c1, f1⟩ := b1.rules
      have z1 := b1.size
      try simp only [World.size_alloc, World.size_drew, World.heap_drewN, World.size_setCell] at z1
      have z1_0 : w.heap.size < w1.heap.size := by omega
      have z1_1 : w.heap.size + 1 < w1.heap.size := by omega
      go_wp2_with fail
      go_wp2_with (first | (go_at_call 111; refine (sBits_any va vals _ _ (RdI.new HV.out (by repeat (first | with_reducible exact New.refl _ | with_reducible assumption | with_reducible refine New.drew ?_ | with_reducible refine New.drewN ?_ _ | with_reducible refine New.alloc ?_ _ | with_reducible refine New.setCell ?_ (by first | (simp; done) | (simp; omega) | omega) _ | with_reducible refine New.trans ?_ (by with_reducible assumption))))).mono ?_; rintro e _ ⟨rfl, rfl⟩))
      go_ret
      exact ⟨ret_bool (by rw [suitsB, h2]; simp), (by repeat (first | with_reducible exact New.refl _ | with_reducible assumption | with_reducible refine New.drew ?_ | with_reducible refine New.drewN ?_ _ | with_reducible refine New.alloc ?_ _ | with_reducible refine New.setCell ?_ (by first | (simp; done) | (simp; omega) | omega) _ | with_reducible refine New.trans ?_ (by with_reducible assumption)))⟩
  · have hne : ((ss.length : Int) != bs.length) = true := by simpa using h1
    go_enter Tryz.func46, Tryz.ntmps46
    go_wp2_with fail
    refine (HSB.out _ (HP.out.new (by repeat (first | with_reducible exact New.refl _ | with_reducible assumption | with_reducible refine New.drew ?_ | with_reducible refine New.drewN ?_ _ | with_reducible refine New.alloc ?_ _ | with_reducible refine New.setCell ?_ (by first | (simp; done) | (simp; omega) | omega) _ | with_reducible refine New.trans ?_ (by with_reducible assumption))))).mono ?_; rintro e w1 ⟨r1, rfl, b1, own1⟩
    obtain ⟨a, cap, rfl⟩ := own_slice own1
    obtain ⟨c1, f1⟩ := b1.rules
    have z1 := b1.size
    try simp only [World.size_alloc, World.size_drew, World.heap_drewN, World.size_setCell] at z1
    have z1_0 : w.heap.size < w1.heap.size := by omega
    have z1_1 : w.heap.size + 1 < w1.heap.size := by omega
    go_wp2_with fail
    go_wp2_with fail
    go_ret
    exact ⟨ret_bool (by rw [suitsB, h1]; simp), (by repeat (first | with_reducible exact New.refl _ | with_reducible assumption | with_reducible refine New.drew ?_ | with_reducible refine New.drewN ?_ _ | with_reducible refine New.alloc ?_ _ | with_reducible refine New.setCell ?_ (by first | (simp; done) | (simp; omega) | omega) _ | with_reducible refine New.trans ?_ (by with_reducible assumption)))⟩
end Go.Proofs.YtflhdijlhdckoaaGreatDoor
