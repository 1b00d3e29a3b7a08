/- The uses of blocks count the blocks that each train uses, and a traffic is safe exactly if none is more than one, for every code. No condition. -/
import Derived.Test.YtinlichcbjpeaaaRows
import Derived.Test.YtinlichcbjpeaaaLawBase
import Derived.Test.YtinlichcbjpeaaaFacts
import Derived.Test.YtinlichcbjpeaaaTrafI
import Derived.Test.YtinlichcbjpeaaaTrafP
import Derived.Test.YtinlichcbjpeaaaDraw10
import Derived.Test.YtinlichcbjpeaaaOpenCodeB
namespace Go.Proofs.Ytinlichcbjpeaaa
open Go Go.Proofs Go.RowKit Go.ChangeShapes Go.WideShapes Go.ChangeAt
set_option linter.unusedVariables false
set_option linter.unusedSimpArgs false
set_option maxRecDepth 100000
set_option maxHeartbeats 800000 in
theorem likeInts_same (v u : Value) (xs : List Int) (w : World) (hv : RdI w v xs) (hu : RdI w u xs) :
    Calls Try.prog 20 #[v, u] w fun e w' => e = .returned (.bool true) ∧ New w w' := by
  obtain ⟨a, cap, rfl, hm, HC⟩ := hv.open
  obtain ⟨a', cap', rfl, hm', HC'⟩ := hu.open
  clear hv hu
  have hne : ((xs.length : Int) != xs.length) = false := by simp
  go_enter Try.func20, Try.ntmps20
  go_wp2_with fail
  go_loopw [5] (fun i wr => ∃ k : Nat, k ≤ xs.length ∧ i = .int .i64 k ∧ New w wr) (fun i _ => xs.length - (intOf i).toNat)
  case atStart => exact ⟨0, Nat.zero_le _, rfl, New.refl w⟩
  case round =>
    obtain ⟨k, hk, rfl, hb⟩ := hrel
    by_cases hlt : k < xs.length
    · obtain ⟨b, o, rfl, hbl, hx⟩ := HC.out wr hb k hlt
      obtain ⟨b', o', rfl, hbl', hx'⟩ := HC'.out wr hb k hlt
      have hxx : (xs[k] != xs[k]) = false := by simp
      go_wp2_with fail
      go_quiet (fail)
      go_wp2_with fail
      go_roundw
      case rel => exact ⟨k + 1, by omega, by go_num, (by repeat (first | with_reducible exact New.refl _ | with_reducible assumption | with_reducible refine New.drew ?_ | with_reducible refine New.drewN ?_ _ | with_reducible refine New.alloc ?_ _ | with_reducible refine New.setCell ?_ (by first | (simp; done) | (simp; omega) | omega) _ | with_reducible refine New.trans ?_ (by with_reducible assumption)))⟩
      case measure => simp [intOf]; omega
    · obtain rfl : k = xs.length := by omega
      go_wp2_with fail
      go_ret
      exact ⟨rfl, hb⟩
def allOne (L : List Int) : Bool := L.all fun x => decide (x ≤ 1)
theorem allOne_set {L : List Int} {u : Nat} (h : u < L.length) (h0 : 0 ≤ L[u]) : allOne (L.set u (L[u] + 1)) = (allOne L && decide (L[u] + 1 < 2)) := by
  have h1 : L = L.take u ++ L[u] :: L.drop (u + 1) := by simp
  have h2 : L.set u (L[u] + 1) = L.take u ++ (L[u] + 1) :: L.drop (u + 1) := List.set_eq_take_append_cons_drop.trans (by rw [if_pos h])
  generalize L[u] = c at *
  unfold allOne
  rw [h2]
  conv => rhs; rw [h1]
  rw [List.all_append, List.all_append, List.all_cons, List.all_cons, Bool.eq_iff_iff]
  simp only [Bool.and_eq_true, decide_eq_true_eq]
  constructor
  · rintro ⟨h3, h4, h5⟩; exact ⟨⟨h3, by omega, h5⟩, by omega⟩
  · rintro ⟨⟨h3, h4, h5⟩, h6⟩; exact ⟨h3, by omega, h5⟩
theorem allOne_loads (n : Int) (ps : List Int) : allOne (loadsQ n ps) = safeQ n ps := by
  unfold allOne loadsQ loadsTo safeQ safeTo
  rw [List.all_map]
  congr 1
  funext b
  show decide ((countQ n ps b : Int) ≤ 1) = decide (countQ n ps b ≤ 1)
  rw [decide_eq_decide]; omega
theorem allOne_zero (m : Nat) : allOne (List.replicate m 0) = true := by simp [allOne]
set_option maxHeartbeats 4000000 in
theorem fnTrafficUses_any (v : Value) (bs : List Int) (w : World) (hv : Rd w v bs.length (bs.map (Value.int .u8))) (hb : ∀ c ∈ bs, 0 ≤ c ∧ c ≤ 255) :
    Calls Try.prog 7 #[v] w fun e w' => e = .returned (.bool true) ∧ New w w' := by
  obtain ⟨i0, hi, hz0, hz1, hz2⟩ := info_parts infoInt
  have HV := Lib.hid hv
  have HB := Lib.hid hb
  clear hv hb
  by_cases hl : (4096 : Int) < (bs.length : Int)
  · go_enter Try.func7, Try.ntmps7
    go_wp2_with fail
    refine (big_any v bs.length _ _ HV.out).mono ?_; rintro e w1 ⟨rfl, rfl⟩
    go_wp2_with fail
    go_ret
    exact ⟨rfl, New.refl _⟩
  · have hl' : bs.length ≤ 4096 := by omega
    have HL := Lib.hid hl'; clear hl'
    go_enter Try.func7, Try.ntmps7
    go_wp2_with fail
    refine (big_any v bs.length _ _ HV.out).mono ?_; rintro e w1 ⟨rfl, rfl⟩
    go_wp2_with fail
    refine (drawUses_any v bs _ HV.out HL.out HB.out).mono ?_; rintro e w1 ⟨n, s, ps, rfl, hps, b1⟩
    obtain ⟨sa, sc, rfl, hm, _⟩ := id hps; replace hps := Lib.hid hps
    obtain ⟨c1, f1⟩ := b1.rules
    have z1 := b1.size
    try simp only [World.size_alloc, World.size_drew, World.heap_drewN, World.size_setCell] at z1
    go_wp2_with fail
    have HI := Lib.hid (fun (w0 : World) (h : RdI w0 (.slice sa ps.length sc) ps) => iLoadsR_any n (.slice sa ps.length sc) ps w0 h)
    have HS := Lib.hid (fun (w0 : World) (h : RdI w0 (.slice sa ps.length sc) ps) => sLoadsR_any n (.slice sa ps.length sc) ps w0 h)
    rcases Bool.eq_false_or_eq_true (isTraf n ps) with h1 | h1
    · have eR : loadsR n ps = (loadsQ n ps, 0) := by rw [loadsR, if_pos h1]
      rw [eR] at HI HS
      clear eR
      obtain ⟨⟨hn1, hn2⟩, ⟨hl1, hl4⟩, hp⟩ := isTraf_ok h1
      have HP := Lib.hid hp; clear hp
      have hnn : n = (n.toNat : Int) := by omega
      have HUL := Lib.hid (fun p => show (usedQ n p).length ≤ n.toNat from usedTo_len n p _)
      have HLL := Lib.hid (fun qs => show (loadsQ n qs).length = n.toNat from loadsTo_len n qs _)
      generalize n.toNat = m at HUL HLL hnn
      subst hnn
      refine (HI.out _ (hps.out.new (by repeat (first | with_reducible exact New.refl _ | with_reducible assumption | with_reducible refine New.drew ?_ | with_reducible refine New.drewN ?_ _ | with_reducible refine New.alloc ?_ _ | with_reducible refine New.setCell ?_ (by first | (simp; done) | (simp; omega) | omega) _ | with_reducible refine New.trans ?_ (by with_reducible assumption))))).mono ?_; rintro e w2 ⟨r2, rfl, b2, o2⟩
      obtain ⟨c2, f2⟩ := b2.rules
      have z2 := b2.size
      try simp only [World.size_alloc, World.size_drew, World.heap_drewN, World.size_setCell] at z2
      have z2_0 : w1.heap.size < w2.heap.size := by omega
      go_wp2_with fail
      refine (HS.out _ (hps.out.new (by repeat (first | with_reducible exact New.refl _ | with_reducible assumption | with_reducible refine New.drew ?_ | with_reducible refine New.drewN ?_ _ | with_reducible refine New.alloc ?_ _ | with_reducible refine New.setCell ?_ (by first | (simp; done) | (simp; omega) | omega) _ | with_reducible refine New.trans ?_ (by with_reducible assumption))))).mono ?_; rintro e w3 ⟨r3, rfl, b3, o3⟩
      obtain ⟨c3, f3⟩ := b3.rules
      have z3 := b3.size
      try simp only [World.size_alloc, World.size_drew, World.heap_drewN, World.size_setCell] at z3
      have z3_0 : w1.heap.size < w3.heap.size := by omega
      go_wp2_with fail
      have HLB := Lib.hid (fun qs => loads_bd m qs)
      have HU := Lib.hid (fun (k : Nat) (hk : k < ps.length) => show usedR m ps k = (usedQ m ps[k], 0) by rw [usedR, if_pos h1, if_pos (by rw [inB_iff]; omega)]; simp [List.getD, hk])
      have HST := Lib.hid (fun (k : Nat) (hk : k < ps.length) => loads_step (n := m) hk)
      have HI2 := Lib.hid (fun (t : Int) (w0 : World) (h : RdI w0 (.slice sa ps.length sc) ps) => iUsedR_any m (.slice sa ps.length sc) ps t w0 h)
      have HS2 := Lib.hid (fun (t : Int) (w0 : World) (h : RdI w0 (.slice sa ps.length sc) ps) => sUsedR_any m (.slice sa ps.length sc) ps t w0 h)
      have HZ := Lib.hid (loads_zero m)
      refine (likeInts_same _ _ (loadsQ m ps) _ ((own_rd o2).new (by repeat (first | with_reducible exact New.refl _ | with_reducible assumption | with_reducible refine New.drew ?_ | with_reducible refine New.drewN ?_ _ | with_reducible refine New.alloc ?_ _ | with_reducible refine New.setCell ?_ (by first | (simp; done) | (simp; omega) | omega) _ | with_reducible refine New.trans ?_ (by with_reducible assumption)))) (own_rd o3)).mono ?_; rintro e w4 ⟨rfl, b4⟩
      try with_reducible replace b4 := New.undrawN b4
      try with_reducible replace b4 := New.undraw b4
      obtain ⟨c4, f4⟩ := b4.rules
      have z4 := b4.size
      try simp only [World.size_alloc, World.size_drew, World.heap_drewN, World.size_setCell] at z4
      have z4_0 : w1.heap.size < w4.heap.size := by omega
      go_wp2_with (first | (at_make; refine wpList_make_full _ rfl _ _ 24 rfl w4.heap.size 2 i0 (.int .i64 0) 1 Try.underlying24 hi hz0 hz1 .i64 .i64 _ _ m rfl rfl rfl rfl (by rw [hz2]; omega) (by unfold maxLen; omega) (Nat.le_refl _) ?_; intro w5 hown hgr; have b5 : New w4 w5 := (New.refl _).grown hgr (fun k hk => by cases hk); obtain ⟨c5, f5⟩ := b5.rules; have z5 := b5.size))
      have o24 := Lib.hid (own_new (own_new o2 b3) b4)
      clear o2 o3
      have hown5 : w5.ownsRow w4.heap.size 2 1 (.slice (some ⟨w4.heap.size, 0, none⟩) m m) m ((loadsQ m (ps.take 0)).map (Value.int .i64)) := by
        have e : (madeCells (Value.int .i64 0).cells (m * 1)).toList = (List.replicate m (0 : Int)).map (Value.int .i64) := by
          rw [show (Value.int .i64 0).cells = #[.int .i64 0] from rfl, toList_madeCells_one]; simp
        rw [List.take_zero, HZ.out, Int.toNat_natCast, ← e]; exact hown
      have hown5' := Lib.hid hown5
      have hz4 : w1.heap.size < w4.heap.size := by omega
      clear hown hgr hown5 c5 f5
      go_loopw [9, 10] (fun sf t wr => ∃ k : Nat, k ≤ ps.length ∧ t = .int .i64 k ∧ sf = .bool (allOne (loadsQ m (ps.take k))) ∧ New w4 wr ∧ wr.ownsRow w4.heap.size 2 1 (.slice (some ⟨w4.heap.size, 0, none⟩) m m) m ((loadsQ m (ps.take k)).map (Value.int .i64))) (fun _ t _ => ps.length - (intOf t).toNat)
      case atStart => exact ⟨0, Nat.zero_le _, rfl, by rw [List.take_zero, HZ.out, allOne_zero], b5, hown5'.out⟩
      case round =>
        obtain ⟨k, hk, rfl, rfl, hb, hown⟩ := hrel
        clear hown5' b5 z5
        obtain ⟨cw, fw⟩ := hb.rules
        have hbz := hb.size
        have hww : w1.heap.size < wr.heap.size := by omega
        replace hown := Lib.hid hown
        have hbt : New w1 wr := b2.trans (b3.trans (b4.trans hb)) |> fun h => ((New.refl w1).alloc _).trans h
        by_cases hlt : k < ps.length
        · have eU := HU.out k hlt
          have HI3 := HI2.out (k : Int)
          have HS3 := HS2.out (k : Int)
          rw [eU] at HI3 HS3
          replace HI3 := Lib.hid HI3
          replace HS3 := Lib.hid HS3
          clear eU
          go_wp2_with fail
          refine (HI3.out _ (hps.out.new (by repeat (first | with_reducible exact New.refl _ | with_reducible assumption | with_reducible refine New.drew ?_ | with_reducible refine New.drewN ?_ _ | with_reducible refine New.alloc ?_ _ | with_reducible refine New.setCell ?_ (by first | (simp; done) | (simp; omega) | omega) _ | with_reducible refine New.trans ?_ (by with_reducible assumption))))).mono ?_; rintro e w11 ⟨r11, rfl, b11, o11⟩
          obtain ⟨c11, f11⟩ := b11.rules
          have z11 := b11.size
          try simp only [World.size_alloc, World.size_drew, World.heap_drewN, World.size_setCell] at z11
          have z11_0 : w1.heap.size < w11.heap.size := by omega
          go_wp2_with fail
          refine (HS3.out _ (hps.out.new (by repeat (first | with_reducible exact New.refl _ | with_reducible assumption | with_reducible refine New.drew ?_ | with_reducible refine New.drewN ?_ _ | with_reducible refine New.alloc ?_ _ | with_reducible refine New.setCell ?_ (by first | (simp; done) | (simp; omega) | omega) _ | with_reducible refine New.trans ?_ (by with_reducible assumption))))).mono ?_; rintro e w12 ⟨r12, rfl, b12, o12⟩
          obtain ⟨qa, qc, rfl⟩ := own_slice o12
          obtain ⟨c12, f12⟩ := b12.rules
          have z12 := b12.size
          try simp only [World.size_alloc, World.size_drew, World.heap_drewN, World.size_setCell] at z12
          have z12_0 : w1.heap.size < w12.heap.size := by omega
          go_wp2_with fail
          refine (likeInts_same _ _ (usedQ m ps[k]) _ ((own_rd o11).new (by repeat (first | with_reducible exact New.refl _ | with_reducible assumption | with_reducible refine New.drew ?_ | with_reducible refine New.drewN ?_ _ | with_reducible refine New.alloc ?_ _ | with_reducible refine New.setCell ?_ (by first | (simp; done) | (simp; omega) | omega) _ | with_reducible refine New.trans ?_ (by with_reducible assumption)))) (own_rd o12)).mono ?_; rintro e w13 ⟨rfl, b13⟩
          try with_reducible replace b13 := New.undrawN b13
          try with_reducible replace b13 := New.undraw b13
          obtain ⟨c13, f13⟩ := b13.rules
          have z13 := b13.size
          try simp only [World.size_alloc, World.size_drew, World.heap_drewN, World.size_setCell] at z13
          have z13_0 : w1.heap.size < w13.heap.size := by omega
          go_wp2_with fail
          have hul := HUL.out ps[k]
          have hUM := Lib.hid (fun u (h : u ∈ usedQ m ps[k]) => usedQ_mem h)
          have hST := HST.out k hlt
          have hL0 := HLL.out (ps.take k)
          have hLB := Lib.hid (HLB.out (ps.take k))
          replace hST := Lib.hid hST
          have hlk : (ps.take k).length ≤ 4 := by simp; omega
          generalize loadsQ m (ps.take k) = L0 at *
          generalize usedQ m ps[k] = us at *
          have o13 := own_new (own_new hown.out b11) (b12.trans b13)
          have q13 := own_new o12 b13
          have hlt4 := (own_block_lt hown.out w4.heap.size rfl).2
          have hg12 : w4.heap.size < w11.heap.size := by omega
          replace o13 := Lib.hid o13
          replace q13 := Lib.hid q13
          have n13 : New w4 w13 := hb.trans (b11.trans (b12.trans b13))
          clear o11 o12 hown c11 f11 c12 f12 c13 f13 cw fw
          go_loopw [9, 15] (fun sf i wq => ∃ j : Nat, j ≤ us.length ∧ i = .int .i64 j ∧ sf = .bool (allOne (incs L0 (us.take j))) ∧ New w4 wq ∧ wq.ownsRow w4.heap.size 2 1 (.slice (some ⟨w4.heap.size, 0, none⟩) m m) m ((incs L0 (us.take j)).map (Value.int .i64)) ∧ wq.ownsRow w11.heap.size 2 1 (.slice qa us.length qc) us.length (us.map (Value.int .i64))) (fun _ i _ => us.length - (intOf i).toNat)
          case atStart => exact ⟨0, Nat.zero_le _, rfl, rfl, n13, o13.out, q13.out⟩
          case round =>
            rename World => wq
            obtain ⟨j, hj, rfl, rfl, hq, hco, hus⟩ := hrel
            clear o13 q13 n13
            have hqz := hq.size
            by_cases hlu : j < us.length
            · obtain ⟨a', cap', he, _, HC⟩ := RdI.open (own_rd hus)
              obtain ⟨b, o, rfl, hbl, hx⟩ := HC.out wq (New.refl _) j hlu
              cases he
              have hgb := (own_block_lt hus b rfl).1
              have hne : b ≠ w4.heap.size := by omega
              have hne' : ¬ w4.heap.size = b := by omega
              have hum := hUM.out us[j] (List.getElem_mem hlu)
              have hin := incs_next L0 us j hlu
              have hbd := incs_bd (us.take j) L0 4 (by omega) (fun x hx => by have := hLB.out x hx; omega)
              have hil := incs_len (us.take j) L0
              have hjm : (us.take j).length ≤ 8 := by simp; omega
              generalize us[j] = u at *
              obtain ⟨hu0, hu1⟩ := hum
              obtain ⟨q, rfl⟩ := Int.eq_ofNat_of_zero_le hu0
              simp only [Int.toNat_natCast] at hu1 hin
              generalize incs L0 (us.take j) = C at *
              have hqC : q < C.length := by omega
              have hcb := hbd C[q] (List.getElem_mem hqC)
              have hcell : wq.cell? ⟨w4.heap.size, q, none⟩ = some (.int .i64 C[q]) := by rw [hco.cellAt q (by omega)]; simp [hqC]
              have hfz := hco.frozenAt q
              have hget : C.getD q 0 = C[q] := by simp [List.getD, hqC]
              rw [hget] at hin
              have hall := allOne_set hqC hcb.1
              have hst := (hco.stored q (.int .i64 (C[q] + 1))).1
              have hst2 := ownsRow_setCell_below hus (a := ⟨w4.heap.size, q, none⟩) (by simpa using hg12) (.int .i64 (C[q] + 1))
              rw [← List.map_set, ← hin] at hst
              rw [← hin] at hall
              replace hst := Lib.hid hst
              replace hst2 := Lib.hid hst2
              replace hall := Lib.hid hall
              replace hus := Lib.hid hus
              replace hco := Lib.hid hco
              clear hbd hil hin hget hgb HC
              generalize C[q] = c at *
              obtain ⟨hc0, hc1⟩ := hcb
              rcases Bool.eq_false_or_eq_true (allOne C) with ha | ha
              all_goals
                replace hall := hall.out
                rw [ha] at hall ⊢
                replace hall := Lib.hid hall
                go_wp2_with fail
                go_roundw
                case rel => exact ⟨j + 1, by omega, by go_num, by rw [hall.out]; simp, hq.setCell (by simp) _, hst.out, hst2.out⟩
                case measure => simp [intOf]; omega
            · obtain rfl : j = us.length := by omega
              go_wp2_with fail
              go_roundw
              case rel => exact ⟨k + 1, by omega, by go_num, by rw [← hST.out, List.take_length], hq, by rw [← hST.out]; simpa using hco⟩
              case measure => simp [intOf]; omega
        · obtain rfl : k = ps.length := by omega
          go_wp2_with fail
          have e1 : ps.take ps.length = ps := List.take_length
          replace hown := hown.out
          rw [e1] at hown ⊢
          have hL := HLL.out ps
          have rc : RdI wr (.slice (some ⟨w4.heap.size, 0, none⟩) m m) (loadsQ m ps) := by
            have := own_rd hown
            rwa [RdI, hL]
          replace rc := Lib.hid rc
          have HAL := Lib.hid (allOne_loads m ps)
          clear hown e1 hL
          refine (likeInts_same _ _ (loadsQ m ps) _ rc.out (Rd.new (own_rd o24.out) (by repeat (first | with_reducible exact New.refl _ | with_reducible assumption | with_reducible refine New.drew ?_ | with_reducible refine New.drewN ?_ _ | with_reducible refine New.alloc ?_ _ | with_reducible refine New.setCell ?_ (by first | (simp; done) | (simp; omega) | omega) _ | with_reducible refine New.trans ?_ (by with_reducible assumption))))).mono ?_; rintro e w21 ⟨rfl, b21⟩
          try with_reducible replace b21 := New.undrawN b21
          try with_reducible replace b21 := New.undraw b21
          obtain ⟨c21, f21⟩ := b21.rules
          have z21 := b21.size
          try simp only [World.size_alloc, World.size_drew, World.heap_drewN, World.size_setCell] at z21
          have z21_0 : w1.heap.size < w21.heap.size := by omega
          go_wp2_with fail
          refine (iIsSafe_any m _ ps _ (hps.out.new (by repeat (first | with_reducible exact New.refl _ | with_reducible assumption | with_reducible refine New.drew ?_ | with_reducible refine New.drewN ?_ _ | with_reducible refine New.alloc ?_ _ | with_reducible refine New.setCell ?_ (by first | (simp; done) | (simp; omega) | omega) _ | with_reducible refine New.trans ?_ (by with_reducible assumption))))).mono ?_; rintro e w22 ⟨rfl, b22⟩
          try with_reducible replace b22 := New.undrawN b22
          try with_reducible replace b22 := New.undraw b22
          obtain ⟨c22, f22⟩ := b22.rules
          have z22 := b22.size
          try simp only [World.size_alloc, World.size_drew, World.heap_drewN, World.size_setCell] at z22
          have z22_0 : w1.heap.size < w22.heap.size := by omega
          go_wp2_with fail
          go_ret
          exact ⟨ret_bool (by rw [HAL.out]; simp), (by repeat (first | with_reducible exact New.refl _ | with_reducible assumption | with_reducible refine New.drew ?_ | with_reducible refine New.drewN ?_ _ | with_reducible refine New.alloc ?_ _ | with_reducible refine New.setCell ?_ (by first | (simp; done) | (simp; omega) | omega) _ | with_reducible refine New.trans ?_ (by with_reducible assumption)))⟩
    · have eR : loadsR n ps = ([], 1) := by rw [loadsR, if_neg (by simp [h1])]
      rw [eR] at HI HS
      clear eR
      refine (HI.out _ (hps.out.new (by repeat (first | with_reducible exact New.refl _ | with_reducible assumption | with_reducible refine New.drew ?_ | with_reducible refine New.drewN ?_ _ | with_reducible refine New.alloc ?_ _ | with_reducible refine New.setCell ?_ (by first | (simp; done) | (simp; omega) | omega) _ | with_reducible refine New.trans ?_ (by with_reducible assumption))))).mono ?_; rintro e w2 ⟨r2, rfl, b2, o2⟩
      obtain ⟨c2, f2⟩ := b2.rules
      have z2 := b2.size
      try simp only [World.size_alloc, World.size_drew, World.heap_drewN, World.size_setCell] at z2
      have z2_0 : w1.heap.size < w2.heap.size := by omega
      go_wp2_with fail
      refine (HS.out _ (hps.out.new (by repeat (first | with_reducible exact New.refl _ | with_reducible assumption | with_reducible refine New.drew ?_ | with_reducible refine New.drewN ?_ _ | with_reducible refine New.alloc ?_ _ | with_reducible refine New.setCell ?_ (by first | (simp; done) | (simp; omega) | omega) _ | with_reducible refine New.trans ?_ (by with_reducible assumption))))).mono ?_; rintro e w3 ⟨r3, rfl, b3, o3⟩
      obtain ⟨c3, f3⟩ := b3.rules
      have z3 := b3.size
      try simp only [World.size_alloc, World.size_drew, World.heap_drewN, World.size_setCell] at z3
      have z3_0 : w1.heap.size < w3.heap.size := by omega
      go_wp2_with fail
      refine (likeInts_same _ _ [] _ ((own_rd o2).new (by repeat (first | with_reducible exact New.refl _ | with_reducible assumption | with_reducible refine New.drew ?_ | with_reducible refine New.drewN ?_ _ | with_reducible refine New.alloc ?_ _ | with_reducible refine New.setCell ?_ (by first | (simp; done) | (simp; omega) | omega) _ | with_reducible refine New.trans ?_ (by with_reducible assumption)))) (own_rd o3)).mono ?_; rintro e w4 ⟨rfl, b4⟩
      try with_reducible replace b4 := New.undrawN b4
      try with_reducible replace b4 := New.undraw b4
      obtain ⟨c4, f4⟩ := b4.rules
      have z4 := b4.size
      try simp only [World.size_alloc, World.size_drew, World.heap_drewN, World.size_setCell] at z4
      have z4_0 : w1.heap.size < w4.heap.size := by omega
      go_wp2_with fail
      refine (iIsSafe_any n _ ps _ (hps.out.new (by repeat (first | with_reducible exact New.refl _ | with_reducible assumption | with_reducible refine New.drew ?_ | with_reducible refine New.drewN ?_ _ | with_reducible refine New.alloc ?_ _ | with_reducible refine New.setCell ?_ (by first | (simp; done) | (simp; omega) | omega) _ | with_reducible refine New.trans ?_ (by with_reducible assumption))))).mono ?_; rintro e w5 ⟨rfl, b5⟩
      try with_reducible replace b5 := New.undrawN b5
      try with_reducible replace b5 := New.undraw b5
      obtain ⟨c5, f5⟩ := b5.rules
      have z5 := b5.size
      try simp only [World.size_alloc, World.size_drew, World.heap_drewN, World.size_setCell] at z5
      have z5_0 : w1.heap.size < w5.heap.size := by omega
      go_wp2_with fail
      go_ret
      exact ⟨ret_bool (by simp [h1]), (by repeat (first | with_reducible exact New.refl _ | with_reducible assumption | with_reducible refine New.drew ?_ | with_reducible refine New.drewN ?_ _ | with_reducible refine New.alloc ?_ _ | with_reducible refine New.setCell ?_ (by first | (simp; done) | (simp; omega) | omega) _ | with_reducible refine New.trans ?_ (by with_reducible assumption)))⟩
namespace fnTrafficUses
theorem own : ownKnob Try.prog.godebug = none := by kernel_rfl
theorem reads : (Try.f7.params.toList.all fun t => Try.prog.readableRec t && decide (t < Try.prog.types.size)) = true := by kernel_rfl
set_option maxRecDepth 100000 in
theorem lifted (os : Os) (started : os.Started) (H : Type) (enc : TypeId × Value → H) :
    ReturnsInHanded {} Try.checked os 7 .any (Rows.fnTrafficUsesSpec.pre6 enc Try.prog Try.f7 Rows.fnTrafficUsesRow.domain false) (Rows.fnTrafficUsesSpec.post enc Try.prog Try.f7 false true false false) := by
  refine returnsInHanded_of_change (C := Try.checked) own started (by kernel_rfl) Try.func7
    (ChangeSpec.witness6 (enc := enc) (C := Try.checked) false ⟨#[], #[.slice none 0 0], []⟩ 8 (by kernel_rfl) (by kernel_rfl) (by kernel_rfl) (by kernel_rfl)) ?_
  intro W base args ds gs before hval0 hW hcnd _
  have hval : ∀ (j : Nat) t v, Try.f7.params[j]? = some t → args[j]? = some v → Value.okWide Try.prog W .any base t v := hval0
  have hW' := hW
  obtain ⟨p, q, hA0, hV, rfl, hfz, hnd⟩ := hW
  have hA : DataW.TrodAll enc Try.prog W 0 (fun _ => true) true Try.f7.params.toList args.toList ds p := hA0
  rw [Try.params7] at hA hval
  obtain ⟨v0, vs0, d0, ds0, p0, q0, hargs, rfl, rfl, h0, r0⟩ := trodAll_cons hA
  obtain ⟨rfl, rfl, rfl⟩ := trodAll_nil r0
  obtain rfl : args = #[v0] := by cases args; simp_all
  have o0 := hval 0 22 v0 rfl rfl
  clear hA0 hval hval0
  obtain ⟨rfl, rfl⟩ := trodVars_none hV
  have walk : Calls Try.prog 7 #[v0] W fun e w' => e = .returned (.bool true) ∧ New W w' := by
    obtain ⟨bs, hbs, hbb⟩ := openCode h0 o0
    exact fnTrafficUses_any _ bs W hbs hbb
  refine walk.mono fun e W' ⟨he, hg⟩ => ?_
  subst he
  exact ⟨_, rfl, law_post laidOut (fun t ht => reads_of reads t ht) (fun n hn => by cases hn) rfl Try.underlying4 hW' rfl hg⟩
theorem proved : Rows.FnTrafficUsesSaid :=
  OpenClaim.holds_of_wide 7 Try.f7 rfl rfl rfl rfl rfl rfl rfl ⟨rfl, rfl, rfl, rfl, rfl⟩ rfl rfl rfl rfl rfl (by kernel_rfl) Try.func7 (by kernel_rfl)
    (of_decide_eq_true (by kernel_rfl)) (by unfold Func.isWrapper; first | (rw [if_pos (by decide +kernel)]; kernel_rfl) | (rw [if_neg (by decide +kernel)]; exact ⟨rfl, rfl⟩))
    (fun os started H enc _ => lifted os started H enc)
#print axioms proved
end fnTrafficUses
end Go.Proofs.Ytinlichcbjpeaaa
