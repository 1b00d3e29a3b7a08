/- Contracts: the blocks that trains use: the reference's lists. -/
import Derived.Test.YtinlichcbjpeaaaProg
import Derived.Test.YtinlichcbjpeaaaTrafU
namespace Go.Proofs.Ytinlichcbjpeaaa
open Go Go.Proofs Go.RowKit
set_option linter.unusedVariables false
set_option linter.unusedSimpArgs false
set_option maxRecDepth 100000
def loadsR (n : Int) (ps : List Int) : List Int × Int := if isTraf n ps = true then (loadsQ n ps, 0) else ([], 1)
def usedR (n : Int) (ps : List Int) (t : Int) : List Int × Int :=
  if isTraf n ps = true then (if inB t 0 ((ps.length : Int) - 1) = true then (usedQ n (ps.getD t.toNat 0), 0) else ([], 2)) else ([], 1)
def codeQ (n : Int) (ps : List Int) (t : Int) : Int := if isTraf n ps = true then (if inB t 0 ((ps.length : Int) - 1) = true then 0 else 2) else 1
set_option maxHeartbeats 800000 in
theorem sLoads_any (n : Int) (s : Value) (ps : List Int) (w : World) (hv : RdI w s ps) (h1 : isTraf n ps = true) :
    Calls Try.prog 83 #[.agg #[.int .i64 n, s]] w fun e w' => ∃ r, e = .returned r ∧ New w w' ∧ w'.ownsRow (w.heap.size + 1) 2 1 r (loadsQ n ps).length ((loadsQ n ps).map (Value.int .i64)) := by
  obtain ⟨i0, hi, hz0, hz1, hz2⟩ := info_parts infoInt
  have HV := Lib.hid hv; clear hv
  have zz : w.heap.size < w.heap.size + 1 := by omega
  obtain ⟨hn, hl, hp⟩ := isTraf_ok h1
  have HP := Lib.hid hp; clear hp h1
  have hl4 := hl.2
  obtain ⟨hn1, hn2⟩ := hn
  have HS := Lib.hid (show loadsQ n ps = loadsTo n ps n.toNat from rfl)
  have hnn : n = (n.toNat : Int) := by omega
  generalize n.toNat = m at *
  subst hnn
  go_enter Try.func83, Try.ntmps83
  go_wp2_with fail
  go_loopw [3, 4] (fun o i wr => ∃ k : Nat, k ≤ m ∧ i = .int .i64 k ∧ New (w.alloc (.cells #[.int .i64 (m : Int), s] 32)) wr ∧ wr.ownsRow (w.heap.size + 1) 2 1 o k ((loadsTo m ps k).map (Value.int .i64))) (fun _ i _ => m - (intOf i).toNat)
  case atStart => exact ⟨0, Nat.zero_le _, rfl, (by repeat (first | with_reducible exact New.refl _ | with_reducible assumption | with_reducible refine New.drew ?_ | with_reducible refine New.drewN ?_ _ | with_reducible refine New.alloc ?_ _ | with_reducible refine New.setCell ?_ (by first | (simp; done) | (simp; omega) | omega) _ | with_reducible refine New.trans ?_ (by with_reducible assumption))), (by have := own_empty (w := w.alloc (.cells #[.int .i64 (m : Int), s] 32)) (base := w.heap.size + 1) (e := 2) (sz := 1) (by rw [World.size_alloc]; exact Nat.le_refl _); simp only [World.size_alloc] at this; exact this)⟩
  case round =>
    obtain ⟨k, hk, rfl, hb, hown⟩ := hrel
    obtain ⟨cc, f'⟩ := hb.rules
    have hbz := hb.size
    simp only [World.size_alloc] at hbz
    have hb0 : New w wr := ((New.refl w).alloc _).trans hb
    have hww : w.heap.size < wr.heap.size := by omega
    by_cases hlt : k < m
    · have HN := Lib.hid (loadsTo_next m ps k)
      go_wp2_with fail
      refine (sCountQ_any _ s ps k _ (HV.out.new (by repeat (first | with_reducible exact New.refl _ | with_reducible assumption | with_reducible refine New.drew ?_ | with_reducible refine New.drewN ?_ _ | with_reducible refine New.alloc ?_ _ | with_reducible refine New.setCell ?_ (by first | (simp; done) | (simp; omega) | omega) _ | with_reducible refine New.trans ?_ (by with_reducible assumption)))) ⟨hn1, hn2⟩ hl4 HP.out).mono ?_; rintro e w2 ⟨rfl, b2⟩
      try with_reducible replace b2 := New.undrawN b2
      try with_reducible replace b2 := New.undraw b2
      obtain ⟨c2, f2⟩ := b2.rules
      have z2 := b2.size
      try simp only [World.size_alloc, World.size_drew, World.heap_drewN, World.size_setCell] at z2
      go_wp2_with (first | (at_builtin; refine wpList_append_own _ rfl _ _ 24 rfl (w.heap.size + 1) 2 i0 (.int .i64 0) 1 8 Try.underlying24 hi hz0 hz1 hz2 rfl (by decide) _ _ _ rfl ((own_new hown b2).alloc _) ⟨w2.heap.size, 0, none⟩ 1 1 [.int .i64 ((countQ m ps k : Int))] rfl rfl (by intro j u hj; match j, hj with | 0, hj => simp at hj; subst hj; first | (simp [Addr.add]; done) | exact alloc_one rfl) (by intro u hu; simp at hu; subst hu; rfl) (by unfold maxLen; omega) (by omega) (by first | (simp; done) | (simp; omega) | omega) ?_; intro va wa howna hgra _))
      have ba := New.grown ((hb.trans b2).alloc _) hgra (fun q hq => by have := (own_block_lt hown q hq).1; simpa using this)
      go_roundw
      case rel => exact ⟨k + 1, by omega, by go_num, ba, by rw [HN.out, List.map_append]; exact howna⟩
      case measure => simp [intOf]; omega
    · obtain rfl : k = m := by omega
      go_wp2_with fail
      go_ret
      refine ⟨_, rfl, hb0, ?_⟩
      rw [HS.out, loadsTo_len]; exact hown
theorem sLoadsR_any (n : Int) (s : Value) (ps : List Int) (w : World) (hv : RdI w s ps) :
    Calls Try.prog 33 #[.agg #[.int .i64 n, s]] w (RetIC w (loadsR n ps)) := by
  have HV := Lib.hid hv; clear hv
  rcases Bool.eq_false_or_eq_true (isTraf n ps) with h1 | h1
  · rw [show loadsR n ps = (loadsQ n ps, 0) by rw [loadsR, if_pos h1]]
    go_enter Try.func33, Try.ntmps33
    go_wp2_with fail
    refine (sIsTraffic_any _ s ps _ (HV.out.new (by repeat (first | with_reducible exact New.refl _ | with_reducible assumption | with_reducible refine New.drew ?_ | with_reducible refine New.drewN ?_ _ | with_reducible refine New.alloc ?_ _ | with_reducible refine New.setCell ?_ (by first | (simp; done) | (simp; omega) | omega) _ | with_reducible refine New.trans ?_ (by with_reducible assumption))))).mono ?_; rintro e w1 ⟨rfl, b1⟩
    try with_reducible replace b1 := New.undrawN b1
    try with_reducible replace b1 := New.undraw b1
    obtain ⟨c1, f1⟩ := b1.rules
    have z1 := b1.size
    try simp only [World.size_alloc, World.size_drew, World.heap_drewN, World.size_setCell] at z1
    have z1_0 : w.heap.size < w1.heap.size := by omega
    go_wp2_with fail
    refine (sLoads_any _ s ps _ (HV.out.new (by repeat (first | with_reducible exact New.refl _ | with_reducible assumption | with_reducible refine New.drew ?_ | with_reducible refine New.drewN ?_ _ | with_reducible refine New.alloc ?_ _ | with_reducible refine New.setCell ?_ (by first | (simp; done) | (simp; omega) | omega) _ | with_reducible refine New.trans ?_ (by with_reducible assumption)))) h1).mono ?_; rintro e w2 ⟨r, rfl, b2, own2⟩
    obtain ⟨c2, f2⟩ := b2.rules
    have z2 := b2.size
    try simp only [World.size_alloc, World.size_drew, World.heap_drewN, World.size_setCell] at z2
    have z2_0 : w.heap.size < w2.heap.size := by omega
    go_wp2_with fail
    go_ret2
    exact ⟨r, rfl, (by repeat (first | with_reducible exact New.refl _ | with_reducible assumption | with_reducible refine New.drew ?_ | with_reducible refine New.drewN ?_ _ | with_reducible refine New.alloc ?_ _ | with_reducible refine New.setCell ?_ (by first | (simp; done) | (simp; omega) | omega) _ | with_reducible refine New.trans ?_ (by with_reducible assumption))), own_base own2 (by omega)⟩
  · rw [show loadsR n ps = ([], 1) by rw [loadsR, if_neg (by simp [h1])]]
    go_enter Try.func33, Try.ntmps33
    go_wp2_with fail
    refine (sIsTraffic_any _ s ps _ (HV.out.new (by repeat (first | with_reducible exact New.refl _ | with_reducible assumption | with_reducible refine New.drew ?_ | with_reducible refine New.drewN ?_ _ | with_reducible refine New.alloc ?_ _ | with_reducible refine New.setCell ?_ (by first | (simp; done) | (simp; omega) | omega) _ | with_reducible refine New.trans ?_ (by with_reducible assumption))))).mono ?_; rintro e w1 ⟨rfl, b1⟩
    try with_reducible replace b1 := New.undrawN b1
    try with_reducible replace b1 := New.undraw b1
    obtain ⟨c1, f1⟩ := b1.rules
    have z1 := b1.size
    try simp only [World.size_alloc, World.size_drew, World.heap_drewN, World.size_setCell] at z1
    have z1_0 : w.heap.size < w1.heap.size := by omega
    go_wp2_with fail
    go_ret2
    exact ⟨_, rfl, (by repeat (first | with_reducible exact New.refl _ | with_reducible assumption | with_reducible refine New.drew ?_ | with_reducible refine New.drewN ?_ _ | with_reducible refine New.alloc ?_ _ | with_reducible refine New.setCell ?_ (by first | (simp; done) | (simp; omega) | omega) _ | with_reducible refine New.trans ?_ (by with_reducible assumption))), World.ownsRow_nil _ _ _ _⟩
theorem sCodeQ_any (n : Int) (s : Value) (ps : List Int) (t : Int) (w : World) (hv : RdI w s ps) :
    Calls Try.prog 79 #[.agg #[.int .i64 n, s], .int .i64 t] w fun e w' => e = .returned (.int .i64 (codeQ n ps t)) ∧ New w w' := by
  have HV := Lib.hid hv
  obtain ⟨a, cap, rfl, hm, _⟩ := hv
  rcases Bool.eq_false_or_eq_true (isTraf n ps) with h1 | h1
  · obtain ⟨hn, hl, hp⟩ := isTraf_ok h1
    clear hp hn
    have e1 : IntKind.i64.wrap ((ps.length : Int) - 1) = (ps.length : Int) - 1 := IntWalk.i64_in _ (by omega)
    rcases Bool.eq_false_or_eq_true (inB t 0 ((ps.length : Int) - 1)) with h2 | h2
    · rw [show codeQ n ps t = 0 by rw [codeQ, if_pos h1, if_pos h2]]
      go_enter Try.func79, Try.ntmps79
      go_wp2_with fail
      refine (sIsTraffic_any _ _ ps _ (HV.out.new (by repeat (first | with_reducible exact New.refl _ | with_reducible assumption | with_reducible refine New.drew ?_ | with_reducible refine New.drewN ?_ _ | with_reducible refine New.alloc ?_ _ | with_reducible refine New.setCell ?_ (by first | (simp; done) | (simp; omega) | omega) _ | with_reducible refine New.trans ?_ (by with_reducible assumption))))).mono ?_; rintro e w1 ⟨rfl, b1⟩
      try with_reducible replace b1 := New.undrawN b1
      try with_reducible replace b1 := New.undraw b1
      obtain ⟨c1, f1⟩ := b1.rules
      have z1 := b1.size
      try simp only [World.size_alloc, World.size_drew, World.heap_drewN, World.size_setCell] at z1
      have z1_0 : w.heap.size < w1.heap.size := by omega
      go_wp2_with fail
      refine (l01In_any _ _ _ _).mono ?_; rintro e w2 ⟨rfl, rfl⟩
      go_wp2_with fail
      go_ret
      exact ⟨rfl, (by repeat (first | with_reducible exact New.refl _ | with_reducible assumption | with_reducible refine New.drew ?_ | with_reducible refine New.drewN ?_ _ | with_reducible refine New.alloc ?_ _ | with_reducible refine New.setCell ?_ (by first | (simp; done) | (simp; omega) | omega) _ | with_reducible refine New.trans ?_ (by with_reducible assumption)))⟩
    · rw [show codeQ n ps t = 2 by rw [codeQ, if_pos h1, if_neg (by simp [h2])]]
      go_enter Try.func79, Try.ntmps79
      go_wp2_with fail
      refine (sIsTraffic_any _ _ ps _ (HV.out.new (by repeat (first | with_reducible exact New.refl _ | with_reducible assumption | with_reducible refine New.drew ?_ | with_reducible refine New.drewN ?_ _ | with_reducible refine New.alloc ?_ _ | with_reducible refine New.setCell ?_ (by first | (simp; done) | (simp; omega) | omega) _ | with_reducible refine New.trans ?_ (by with_reducible assumption))))).mono ?_; rintro e w1 ⟨rfl, b1⟩
      try with_reducible replace b1 := New.undrawN b1
      try with_reducible replace b1 := New.undraw b1
      obtain ⟨c1, f1⟩ := b1.rules
      have z1 := b1.size
      try simp only [World.size_alloc, World.size_drew, World.heap_drewN, World.size_setCell] at z1
      have z1_0 : w.heap.size < w1.heap.size := by omega
      go_wp2_with fail
      refine (l01In_any _ _ _ _).mono ?_; rintro e w2 ⟨rfl, rfl⟩
      go_wp2_with fail
      go_ret
      exact ⟨rfl, (by repeat (first | with_reducible exact New.refl _ | with_reducible assumption | with_reducible refine New.drew ?_ | with_reducible refine New.drewN ?_ _ | with_reducible refine New.alloc ?_ _ | with_reducible refine New.setCell ?_ (by first | (simp; done) | (simp; omega) | omega) _ | with_reducible refine New.trans ?_ (by with_reducible assumption)))⟩
  · rw [show codeQ n ps t = 1 by rw [codeQ, if_neg (by simp [h1])]]
    go_enter Try.func79, Try.ntmps79
    go_wp2_with fail
    refine (sIsTraffic_any _ _ ps _ (HV.out.new (by repeat (first | with_reducible exact New.refl _ | with_reducible assumption | with_reducible refine New.drew ?_ | with_reducible refine New.drewN ?_ _ | with_reducible refine New.alloc ?_ _ | with_reducible refine New.setCell ?_ (by first | (simp; done) | (simp; omega) | omega) _ | with_reducible refine New.trans ?_ (by with_reducible assumption))))).mono ?_; rintro e w1 ⟨rfl, b1⟩
    try with_reducible replace b1 := New.undrawN b1
    try with_reducible replace b1 := New.undraw b1
    obtain ⟨c1, f1⟩ := b1.rules
    have z1 := b1.size
    try simp only [World.size_alloc, World.size_drew, World.heap_drewN, World.size_setCell] at z1
    have z1_0 : w.heap.size < w1.heap.size := by omega
    go_wp2_with fail
    go_ret
    exact ⟨rfl, (by repeat (first | with_reducible exact New.refl _ | with_reducible assumption | with_reducible refine New.drew ?_ | with_reducible refine New.drewN ?_ _ | with_reducible refine New.alloc ?_ _ | with_reducible refine New.setCell ?_ (by first | (simp; done) | (simp; omega) | omega) _ | with_reducible refine New.trans ?_ (by with_reducible assumption)))⟩
set_option maxHeartbeats 1600000 in
theorem sUsedR_any (n : Int) (s : Value) (ps : List Int) (t : Int) (w : World) (hv : RdI w s ps) :
    Calls Try.prog 27 #[.agg #[.int .i64 n, s], .int .i64 t] w (RetIC w (usedR n ps t)) := by
  obtain ⟨i0, hi, hz0, hz1, hz2⟩ := info_parts infoInt
  have HV := Lib.hid hv
  obtain ⟨a, cap, rfl, hm, HC⟩ := hv.open
  clear hv
  have zz : w.heap.size < w.heap.size + 1 := by omega
  by_cases hc : codeQ n ps t = 0
  · have hC : (codeQ n ps t != 0) = false := by simp [hc]
    obtain ⟨h1, h2⟩ : isTraf n ps = true ∧ inB t 0 ((ps.length : Int) - 1) = true := by
      rw [codeQ] at hc; split at hc
      · rename_i hx; split at hc
        · rename_i hy; exact ⟨hx, hy⟩
        · omega
      · omega
    have HR := Lib.hid (show usedR n ps t = (usedQ n (ps.getD t.toNat 0), 0) by rw [usedR, if_pos h1, if_pos h2])
    rw [HR.out]
    obtain ⟨hn, hl, hp⟩ := isTraf_ok h1
    have h2' := inB_iff.1 h2
    have hT := Lib.hid (And.intro h1 h2)
    obtain ⟨hn1, hn2⟩ := hn
    have htn : t = (t.toNat : Int) := by omega
    have htl : t.toNat < ps.length := by omega
    have HD := Lib.hid (show ps.getD t.toNat 0 = ps[t.toNat] by simp [List.getD, htl])
    have HK := Lib.hid (hp ps[t.toNat] (List.getElem_mem htl))
    have HCT := Lib.hid (HC.out w (New.refl w) t.toNat htl)
    rw [HD.out]
    clear h1 h2 hc hp h2' HC
    generalize ps[t.toNat] = x at *
    generalize t.toNat = tn at *
    subst htn
    obtain ⟨b, off, rfl, hbl, hx⟩ := HCT.out
    have HS := Lib.hid (show usedQ n x = usedTo n x n.toNat from rfl)
    have hnn : n = (n.toNat : Int) := by omega
    generalize n.toNat = m at *
    subst hnn
    go_enter Try.func27, Try.ntmps27
    go_wp2_with fail
    refine (sCodeQ_any _ _ ps _ _ (HV.out.new (by repeat (first | with_reducible exact New.refl _ | with_reducible assumption | with_reducible refine New.drew ?_ | with_reducible refine New.drewN ?_ _ | with_reducible refine New.alloc ?_ _ | with_reducible refine New.setCell ?_ (by first | (simp; done) | (simp; omega) | omega) _ | with_reducible refine New.trans ?_ (by with_reducible assumption))))).mono ?_; rintro e w1 ⟨rfl, b1⟩
    try with_reducible replace b1 := New.undrawN b1
    try with_reducible replace b1 := New.undraw b1
    obtain ⟨c1, f1⟩ := b1.rules
    have z1 := b1.size
    try simp only [World.size_alloc, World.size_drew, World.heap_drewN, World.size_setCell] at z1
    have z1_0 : w.heap.size < w1.heap.size := by omega
    go_wp2_with fail
    go_loopw [7, 8] (fun o i wr => ∃ k : Nat, k ≤ m ∧ i = .int .i64 k ∧ New (w.alloc (.cells #[.int .i64 (m : Int), .slice (some ⟨b, off, none⟩) ps.length cap] 32)) wr ∧ wr.ownsRow (w.heap.size + 1) 2 1 o (usedTo m x k).length ((usedTo m x k).map (Value.int .i64))) (fun _ i _ => m - (intOf i).toNat)
    case atStart => exact ⟨0, Nat.zero_le _, rfl, (by repeat (first | with_reducible exact New.refl _ | with_reducible assumption | with_reducible refine New.drew ?_ | with_reducible refine New.drewN ?_ _ | with_reducible refine New.alloc ?_ _ | with_reducible refine New.setCell ?_ (by first | (simp; done) | (simp; omega) | omega) _ | with_reducible refine New.trans ?_ (by with_reducible assumption))), own_empty (by omega)⟩
    case round =>
      obtain ⟨k, hk, rfl, hb, hown⟩ := hrel
      clear c1 f1 b1
      obtain ⟨cc, f'⟩ := hb.rules
      have hbz := hb.size
      simp only [World.size_alloc] at hbz
      have hb0 : New w wr := ((New.refl w).alloc _).trans hb
      have hww : w.heap.size < wr.heap.size := by omega
      have hbw : b < wr.heap.size := by omega
      have hbw1 : b < w.heap.size + 1 := by omega
      have hul := usedTo_len m x k
      by_cases hlt : k < m
      · have hq := fun (m : NewOf wr) b o => NewOf.cell m b o
        rcases Bool.eq_false_or_eq_true (usesQ m x k) with g1 | g1
        · have HCR := Lib.hid (fun w0 => show Calls Try.prog 80 #[.int .i64 (m : Int), .int .i64 x, .int .i64 (k : Int)] w0 fun e w' => e = .returned (.bool true) ∧ w0 = w' by have := sUsesQ_any m x k w0 ⟨hn1, hn2⟩ HK.out; rwa [g1] at this)
          have HA := Lib.hid (usedTo_yes g1)
          clear g1
          go_wp2_with fail
          refine wp_region_new (by kernel_rfl) (by kernel_rfl) ?_
          repeat (first | go_big_quiet_skip | go_big_quiet_step ((first | exact newq_eq (HCR.out _))) | quiet_step ((first | exact newq_eq (HCR.out _))))
          refine wpQuiet_nil ?_
          rintro ⟨w3, b3⟩
          dsimp only
          try with_reducible replace b3 := New.undrawN b3
          try with_reducible replace b3 := New.undraw b3
          obtain ⟨c3, f3⟩ := b3.rules
          have z3 := b3.size
          try simp only [World.size_alloc, World.size_drew, World.heap_drewN, World.size_setCell] at z3
          have z3_0 : w.heap.size < w3.heap.size := by omega
          go_wp2_with (first | (at_builtin; refine wpList_append_own _ rfl _ _ 24 rfl (w.heap.size + 1) 2 i0 (.int .i64 0) 1 8 Try.underlying24 hi hz0 hz1 hz2 rfl (by decide) _ _ _ rfl ((own_new hown b3).alloc _) ⟨w3.heap.size, 0, none⟩ 1 1 [.int .i64 ((k : Int))] rfl rfl (by intro j u hj; match j, hj with | 0, hj => simp at hj; subst hj; first | (simp [Addr.add]; done) | exact alloc_one rfl) (by intro u hu; simp at hu; subst hu; rfl) (by unfold maxLen; omega) (by omega) (by first | (simp; done) | (simp; omega) | omega) ?_; intro va wa howna hgra _))
          have ba := New.grown ((hb.trans b3).alloc _) hgra (fun q hq => by have := (own_block_lt hown q hq).1; simpa using this)
          go_roundw
          case rel => exact ⟨k + 1, by omega, by go_num, ba, by rw [HA.out, List.length_append, List.map_append]; exact howna⟩
          case measure => simp [intOf]; omega
        · have HCR := Lib.hid (fun w0 => show Calls Try.prog 80 #[.int .i64 (m : Int), .int .i64 x, .int .i64 (k : Int)] w0 fun e w' => e = .returned (.bool false) ∧ w0 = w' by have := sUsesQ_any m x k w0 ⟨hn1, hn2⟩ HK.out; rwa [g1] at this)
          have HA := Lib.hid (usedTo_no g1)
          clear g1
          go_wp2_with fail
          refine wp_region_new (by kernel_rfl) (by kernel_rfl) ?_
          repeat (first | go_big_quiet_skip | go_big_quiet_step ((first | exact newq_eq (HCR.out _))) | quiet_step ((first | exact newq_eq (HCR.out _))))
          refine wpQuiet_nil ?_
          rintro ⟨w3, b3⟩
          dsimp only
          try with_reducible replace b3 := New.undrawN b3
          try with_reducible replace b3 := New.undraw b3
          obtain ⟨c3, f3⟩ := b3.rules
          have z3 := b3.size
          try simp only [World.size_alloc, World.size_drew, World.heap_drewN, World.size_setCell] at z3
          have z3_0 : w.heap.size < w3.heap.size := by omega
          go_wp2_with fail
          go_roundw
          case rel => exact ⟨k + 1, by omega, by go_num, hb.trans b3, by rw [HA.out]; exact own_new hown b3⟩
          case measure => simp [intOf]; omega
      · obtain rfl : k = m := by omega
        go_wp2_with fail
        go_ret2
        exact ⟨_, rfl, hb0, own_base (base := w.heap.size + 1) (by rw [HS.out]; exact hown) (by omega)⟩
  · have hC : (codeQ n ps t != 0) = true := by simp [hc]
    have HR := Lib.hid (show usedR n ps t = ([], codeQ n ps t) by
      rw [usedR, codeQ]; rw [codeQ] at hc
      split
      · split
        · rename_i hx hy; rw [if_pos hx, if_pos hy] at hc; exact absurd rfl hc
        · rfl
      · rfl)
    rw [HR.out]
    clear hc
    go_enter Try.func27, Try.ntmps27
    go_wp2_with fail
    refine (sCodeQ_any _ _ ps _ _ (HV.out.new (by repeat (first | with_reducible exact New.refl _ | with_reducible assumption | with_reducible refine New.drew ?_ | with_reducible refine New.drewN ?_ _ | with_reducible refine New.alloc ?_ _ | with_reducible refine New.setCell ?_ (by first | (simp; done) | (simp; omega) | omega) _ | with_reducible refine New.trans ?_ (by with_reducible assumption))))).mono ?_; rintro e w1 ⟨rfl, b1⟩
    try with_reducible replace b1 := New.undrawN b1
    try with_reducible replace b1 := New.undraw b1
    obtain ⟨c1, f1⟩ := b1.rules
    have z1 := b1.size
    try simp only [World.size_alloc, World.size_drew, World.heap_drewN, World.size_setCell] at z1
    have z1_0 : w.heap.size < w1.heap.size := by omega
    go_wp2_with fail
    go_ret2
    exact ⟨_, rfl, (by repeat (first | with_reducible exact New.refl _ | with_reducible assumption | with_reducible refine New.drew ?_ | with_reducible refine New.drewN ?_ _ | with_reducible refine New.alloc ?_ _ | with_reducible refine New.setCell ?_ (by first | (simp; done) | (simp; omega) | omega) _ | with_reducible refine New.trans ?_ (by with_reducible assumption))), World.ownsRow_nil _ _ _ _⟩
end Go.Proofs.Ytinlichcbjpeaaa
