/- Contracts: the lines in which a name is used. -/
import Derived.Test.YteielmihlfakgaaDoorProg
import Derived.Test.YteielmihlfakgaaDoorUE
import Derived.Test.YteielmihlfakgaaDoorUD
namespace Go.Proofs.YteielmihlfakgaaDoor
open Go Go.Proofs Go.RowKit
set_option linter.unusedVariables false
set_option linter.unusedSimpArgs false
set_option maxRecDepth 100000
def useT (s : ByteArray) (t : ETerm) : Bool := decide (t.kind = 1) && (t.name.toList == s.toList)
def useL (s : ByteArray) (l : LineD) : Bool := l.terms.any (useT s)
/-- The first lines' uses. -/
def usesTo (s : ByteArray) (ls : List LineD) (k : Nat) : List Int := ((List.range k).filter fun i => (ls[i]?).any (useL s)).map Int.ofNat
theorem usesTo_yes {s : ByteArray} {ls : List LineD} {k : Nat} (h : k < ls.length) (hu : useL s ls[k] = true) : usesTo s ls (k + 1) = usesTo s ls k ++ [(k : Int)] := by
  rw [usesTo, List.range_succ, List.filter_append, List.map_append]
  simp [usesTo, h, hu]
theorem usesTo_no {s : ByteArray} {ls : List LineD} {k : Nat} (h : k < ls.length) (hu : useL s ls[k] = false) : usesTo s ls (k + 1) = usesTo s ls k := by
  rw [usesTo, List.range_succ, List.filter_append, List.map_append]
  simp [usesTo, h, hu]
theorem usesTo_len (s : ByteArray) (ls : List LineD) (k : Nat) : (usesTo s ls k).length ≤ k := by
  rw [usesTo, List.length_map]
  exact Nat.le_trans (List.length_filter_le _ _) (by simp)
def usesP (p : ProgD) (s : ByteArray) : List Int := usesTo s p.lines p.lines.length
def usesR (p : ProgD) (s : ByteArray) : List Int × Int := if wB p = true then (usesP p s, 0) else ([], 1)
theorem lines_get {p : ProgD} {ps : List LV} (h : ps.map Prod.fst = p.lines) (k : Nat) (h1 : k < ps.length) : ∃ h2 : k < p.lines.length, p.lines[k] = ps[k].1 := by
  have hl : p.lines.length = ps.length := by rw [← h, List.length_map]
  exact ⟨by omega, by simp [← h]⟩
theorem iUsed1_any (x : ETerm) (s : ByteArray) (b : Nat) (w : World) (hb : b < w.heap.size) (hc : w.cell? ⟨b, 0, none⟩ = some (.string s)) :
    Calls Tryd.prog 139 #[.agg #[.int .i64 x.kind, .string x.name, .int .i64 x.num], .pointer (some ⟨b, 0, none⟩)] w fun e w' => e = .returned (.bool (useT s x)) ∧ New w w' := by
  by_cases hk : x.kind = 1
  · have hk' : (x.kind == 1) = true := by simp [hk]
    have HK := Lib.hid (show useT s x = (x.name.toList == s.toList) by rw [useT, hk]; simp)
    clear hk
    go_enter Tryd.func139, Tryd.ntmps139
    go_wp2_with fail
    go_ret
    exact ⟨ret_bool HK.out.symm, (by repeat (first | with_reducible exact New.refl _ | with_reducible assumption | with_reducible refine New.drew ?_ | with_reducible refine New.drewN ?_ _ | with_reducible refine New.alloc ?_ _ | with_reducible refine New.setCell ?_ (by first | (simp; done) | (simp; omega) | omega) _ | with_reducible refine New.trans ?_ (by with_reducible assumption)))⟩
  · have hk' : (x.kind == 1) = false := by simp [hk]
    have HK := Lib.hid (show useT s x = false by rw [useT]; simp [hk])
    clear hk
    go_enter Tryd.func139, Tryd.ntmps139
    go_wp2_with fail
    go_ret
    exact ⟨ret_bool HK.out.symm, (by repeat (first | with_reducible exact New.refl _ | with_reducible assumption | with_reducible refine New.drew ?_ | with_reducible refine New.drewN ?_ _ | with_reducible refine New.alloc ?_ _ | with_reducible refine New.setCell ?_ (by first | (simp; done) | (simp; omega) | omega) _ | with_reducible refine New.trans ?_ (by with_reducible assumption)))⟩
theorem iUsed_any (l : LineD) (tv : Value) (s : ByteArray) (w : World) (ht : Rd w tv l.terms.length (l.terms.flatMap encTerm)) :
    Calls Tryd.prog 93 #[.agg #[.string l.target, tv], .string s] w fun e w' => e = .returned (.bool (useL s l)) ∧ New w w' := by
  have HT := Lib.hid ht
  obtain ⟨a, c, rfl, _⟩ := ht
  go_enter Tryd.func93, Tryd.ntmps93
  go_wp2_with fail
  refine (containsFuncTerm_any 139 #[.pointer (some ⟨w.heap.size + 1, 0, none⟩)] (useT s) _ l.terms _ (HT.out.new (by repeat (first | with_reducible exact New.refl _ | with_reducible assumption | with_reducible refine New.drew ?_ | with_reducible refine New.drewN ?_ _ | with_reducible refine New.alloc ?_ _ | with_reducible refine New.setCell ?_ (by first | (simp; done) | (simp; omega) | omega) _ | with_reducible refine New.trans ?_ (by with_reducible assumption)))) (fun _ _ => rfl) (fun x w1 hx n => by
    have z := n.size
    simp only [World.size_alloc] at z
    refine iUsed1_any x s (w.heap.size + 1) w1 (by omega) ?_
    rw [n.cell (by simp), cell_alloc_new _ _ _ _ _ (by simp)]; rfl)).mono ?_; rintro e w2 ⟨rfl, b2⟩
  go_wp2_with fail
  go_ret
  exact ⟨rfl, (by repeat (first | with_reducible exact New.refl _ | with_reducible assumption | with_reducible refine New.drew ?_ | with_reducible refine New.drewN ?_ _ | with_reducible refine New.alloc ?_ _ | with_reducible refine New.setCell ?_ (by first | (simp; done) | (simp; omega) | omega) _ | with_reducible refine New.trans ?_ (by with_reducible assumption)))⟩
set_option maxHeartbeats 800000 in
theorem sUses_any (ts : List ETerm) (tv : Value) (s : ByteArray) (w : World) (ht : Rd w tv ts.length (ts.flatMap encTerm)) :
    Calls Tryd.prog 48 #[tv, .string s] w fun e w' => e = .returned (.bool (ts.any (useT s))) ∧ w = w' := by
  obtain ⟨a, cap, rfl, hm, HC⟩ := Rd.flat encTerm_len (by omega) ht
  clear ht
  go_enter Tryd.func48, Tryd.ntmps48
  go_wp2_with fail
  go_loop [5] (fun i => ∃ k : Nat, k ≤ ts.length ∧ i = .int .i64 k ∧ Hid ((ts.take k).any (useT s) = false)) (fun i => ts.length - (intOf i).toNat)
  case atStart => exact ⟨0, Nat.zero_le _, rfl, rfl⟩
  case round =>
    obtain ⟨k, hk, rfl, hpre⟩ := hrel
    by_cases hlt : k < ts.length
    · obtain ⟨b, off, rfl, hbl, hx⟩ := HC.out k hlt
      have x0 := hx 0 _ (by omega) rfl
      have x1 := hx 1 _ (by omega) rfl
      rw [Nat.add_zero] at x0
      replace hx := Lib.hid hx
      have HS := Lib.hid (show (ts.take (k + 1)).any (useT s) = useT s ts[k] by rw [List.take_succ_eq_append_getElem hlt, any_snoc, hpre.out]; rfl)
      have HY := Lib.hid (fun (h : useT s ts[k] = true) => show ts.any (useT s) = true from any_at hlt h)
      by_cases hc : ts[k].kind = 1
      · have hk' : (ts[k].kind == 1) = true := by simp [hc]
        have HU := Lib.hid (show useT s ts[k] = (ts[k].name.toList == s.toList) by rw [useT, hc]; simp)
        clear hc
        rcases Bool.eq_false_or_eq_true (ts[k].name.toList == s.toList) with g1 | g1
        · have HA := Lib.hid (HY.out (by rw [HU.out, g1]))
          go_wp2_with fail
          go_ret
          exact ⟨ret_bool HA.out.symm, rfl⟩
        · have HA := Lib.hid (show (ts.take (k + 1)).any (useT s) = false by rw [HS.out, HU.out, g1])
          go_wp2_with fail
          go_round
          case rel => exact ⟨k + 1, by omega, by go_num, HA⟩
          case measure => simp [intOf]; omega
      · have hk' : (ts[k].kind == 1) = false := by simp [hc]
        have HA := Lib.hid (show (ts.take (k + 1)).any (useT s) = false by rw [HS.out, useT]; simp [hc])
        clear hc
        go_wp2_with fail
        go_round
        case rel => exact ⟨k + 1, by omega, by go_num, HA⟩
        case measure => simp [intOf]; omega
    · obtain rfl : k = ts.length := by omega
      have HA := Lib.hid (show ts.any (useT s) = false by have := hpre.out; rwa [List.take_length] at this)
      go_wp2_with fail
      go_ret
      exact ⟨ret_bool HA.out.symm, rfl⟩
set_option maxHeartbeats 2000000 in
theorem iUsesOf0_any (p : ProgD) (iv vv ov lv : Value) (s : ByteArray) (w : World) (hp : RdP w p iv vv ov lv) (hf : FitP p) :
    Calls Tryd.prog 47 #[valP p iv vv ov lv, .string s] w fun e w' => ∃ r, e = .returned r ∧ New w w' ∧ w'.ownsRow (w.heap.size + 1) 2 1 r (usesP p s).length ((usesP p s).map (Value.int .i64)) := by
  obtain ⟨i0, hi, hz0, hz1, hz2⟩ := info_parts infoI64h
  obtain ⟨_, _, _, ps, hps, hl1, hl2⟩ := hp
  obtain ⟨a, cap, rfl, hm, HC⟩ := Rd.flat encLV_len (by omega) hl1
  have HT := Lib.hid hl2
  have hpm : ps.length ≤ 1048576 := by have := hf.linesl; rw [← hps, List.length_map] at this; exact this
  have HLG := Lib.hid (fun k (h : k < ps.length) => lines_get hps k h)
  have HPL := Lib.hid (show p.lines.length = ps.length by rw [← hps, List.length_map])
  clear hl1 hl2 hps hf
  have zz : w.heap.size < w.heap.size + 1 := by omega
  go_enter Tryd.func47, Tryd.ntmps47
  go_wp2_with fail
  go_loopw [5, 11] (fun o i wr => ∃ k : Nat, k ≤ ps.length ∧ i = .int .i64 k ∧ New (w.alloc (.cells #[.string p.name, iv, vv, ov, .string p.guard, .slice a ps.length cap] 27)) wr ∧ wr.ownsRow (w.heap.size + 1) 2 1 o (usesTo s p.lines k).length ((usesTo s p.lines k).map (Value.int .i64))) (fun _ i _ => ps.length - (intOf i).toNat)
  case atStart => exact ⟨0, Nat.zero_le _, rfl, New.refl _, World.ownsRow_nil _ _ _ _⟩
  case round =>
    obtain ⟨k, hk, rfl, hb, hown⟩ := hrel
    have hbz := hb.size
    simp only [World.size_alloc] at hbz
    have hb0 : New w wr := ((New.refl w).alloc _).trans hb
    obtain ⟨cc, f'⟩ := hb.rules
    by_cases hlt : k < ps.length
    · obtain ⟨b, off, rfl, hbl, hx⟩ := HC.out k hlt
      obtain ⟨ea, ec, hev, _⟩ := HT.out ps[k] (List.getElem_mem hlt)
      rw [show encLV ps[k] = [.string ps[k].1.target, ps[k].2] from rfl, hev] at hx
      have HTK := Lib.hid (HT.out ps[k] (List.getElem_mem hlt))
      rw [hev] at HTK
      have x0 := hx 0 _ (by omega) rfl
      have x1 := hx 1 _ (by omega) rfl
      rw [Nat.add_zero] at x0
      replace hx := Lib.hid hx
      clear hev
      have hbw : b < wr.heap.size := by omega
      have hbw1 : b < w.heap.size + 1 := by omega
      obtain ⟨hlp, hle⟩ := HLG.out k hlt
      have HLE := Lib.hid hle; clear hle
      have HLQ := Lib.hid hlp
      have hul := usesTo_len s p.lines k
      rcases Bool.eq_false_or_eq_true (useL s ps[k].1) with g1 | g1
      · have HA := Lib.hid (usesTo_yes HLQ.out (by rw [HLE.out]; exact g1))
        go_wp2_with fail
        refine (iUsed_any ps[k].1 _ s _ (HTK.out.new (by repeat (first | with_reducible exact New.refl _ | with_reducible assumption | with_reducible refine New.drew ?_ | with_reducible refine New.drewN ?_ _ | with_reducible refine New.alloc ?_ _ | with_reducible refine New.setCell ?_ (by first | (simp; done) | (simp; omega) | omega) _ | with_reducible refine New.trans ?_ (by with_reducible assumption))))).mono ?_; rintro e w3 ⟨rfl, b3⟩
        try with_reducible replace b3 := New.undrawN b3
        try with_reducible replace b3 := New.undraw b3
        obtain ⟨c3, f3⟩ := b3.rules
        have z3 := b3.size
        try simp only [World.size_alloc, World.size_drew, World.heap_drewN, World.size_setCell] at z3
        go_wp2_with (first | (at_builtin; refine wpList_append_own _ rfl _ _ 32 rfl (w.heap.size + 1) 2 i0 (.int .i64 0) 1 8 Tryd.underlying32 hi hz0 hz1 hz2 rfl (by decide) _ _ _ rfl ((own_new (hown.alloc _) b3).alloc _) ⟨w3.heap.size, 0, none⟩ 1 1 [.int .i64 ((k : Int))] rfl rfl (by intro j u hj; match j, hj with | 0, hj => simp at hj; subst hj; first | (simp [Addr.add]; done) | exact alloc_one rfl) (by intro u hu; simp at hu; subst hu; rfl) (by unfold maxLen; omega) (by omega) (by first | (simp; done) | (simp; omega) | omega) ?_; intro va wa howna hgra _))
        have ba := New.grown (((hb.alloc _).trans b3).alloc _) hgra (fun q hq => by have := (own_block_lt hown q hq).1; simpa using this)
        go_roundw
        case rel => exact ⟨k + 1, by omega, by go_num, ba, by rw [HA.out, List.length_append, List.map_append]; exact howna⟩
        case measure => simp [intOf]; omega
      · have HA := Lib.hid (usesTo_no HLQ.out (by rw [HLE.out]; exact g1))
        go_wp2_with fail
        refine (iUsed_any ps[k].1 _ s _ (HTK.out.new (by repeat (first | with_reducible exact New.refl _ | with_reducible assumption | with_reducible refine New.drew ?_ | with_reducible refine New.drewN ?_ _ | with_reducible refine New.alloc ?_ _ | with_reducible refine New.setCell ?_ (by first | (simp; done) | (simp; omega) | omega) _ | with_reducible refine New.trans ?_ (by with_reducible assumption))))).mono ?_; rintro e w3 ⟨rfl, b3⟩
        try with_reducible replace b3 := New.undrawN b3
        try with_reducible replace b3 := New.undraw b3
        obtain ⟨c3, f3⟩ := b3.rules
        have z3 := b3.size
        try simp only [World.size_alloc, World.size_drew, World.heap_drewN, World.size_setCell] at z3
        go_wp2_with fail
        go_roundw
        case rel => exact ⟨k + 1, by omega, by go_num, (hb.alloc _).trans b3, by rw [HA.out]; exact own_new (hown.alloc _) b3⟩
        case measure => simp [intOf]; omega
    · obtain rfl : k = ps.length := by omega
      go_wp2_with fail
      go_ret
      refine ⟨_, rfl, hb0, ?_⟩
      rw [usesP, HPL.out]; exact hown
theorem iUsesOf_any (p : ProgD) (iv vv ov lv : Value) (s : ByteArray) (w : World) (hp : RdP w p iv vv ov lv) (hf : FitP p) (hk : KW w) :
    Calls Tryd.prog 12 #[valP p iv vv ov lv, .string s] w (RetIC w (usesR p s)) := by
  have HP := Lib.hid hp; clear hp
  have HK := Lib.hid hk; clear hk
  rcases Bool.eq_false_or_eq_true (wB p) with h1 | h1
  · rw [show usesR p s = (usesP p s, 0) by rw [usesR, if_pos h1]]
    go_enter Tryd.func12, Tryd.ntmps12
    go_wp2_with fail
    refine (iIsWritten_any p _ _ _ _ _ (HP.out.new (by repeat (first | with_reducible exact New.refl _ | with_reducible assumption | with_reducible refine New.drew ?_ | with_reducible refine New.drewN ?_ _ | with_reducible refine New.alloc ?_ _ | with_reducible refine New.setCell ?_ (by first | (simp; done) | (simp; omega) | omega) _ | with_reducible refine New.trans ?_ (by with_reducible assumption)))) hf (HK.out.new (by repeat (first | with_reducible exact New.refl _ | with_reducible assumption | with_reducible refine New.drew ?_ | with_reducible refine New.drewN ?_ _ | with_reducible refine New.alloc ?_ _ | with_reducible refine New.setCell ?_ (by first | (simp; done) | (simp; omega) | omega) _ | with_reducible refine New.trans ?_ (by with_reducible assumption))))).mono ?_; rintro e w1 ⟨rfl, b1⟩
    try with_reducible replace b1 := New.undrawN b1
    try with_reducible replace b1 := New.undraw b1
    obtain ⟨c1, f1⟩ := b1.rules
    have z1 := b1.size
    try simp only [World.size_alloc, World.size_drew, World.heap_drewN, World.size_setCell] at z1
    have z1_0 : w.heap.size < w1.heap.size := by omega
    go_wp2_with fail
    refine (iUsesOf0_any p _ _ _ _ s _ (HP.out.new (by repeat (first | with_reducible exact New.refl _ | with_reducible assumption | with_reducible refine New.drew ?_ | with_reducible refine New.drewN ?_ _ | with_reducible refine New.alloc ?_ _ | with_reducible refine New.setCell ?_ (by first | (simp; done) | (simp; omega) | omega) _ | with_reducible refine New.trans ?_ (by with_reducible assumption)))) hf).mono ?_; rintro e w2 ⟨r, rfl, b2, own2⟩
    obtain ⟨c2, f2⟩ := b2.rules
    have z2 := b2.size
    try simp only [World.size_alloc, World.size_drew, World.heap_drewN, World.size_setCell] at z2
    have z2_0 : w.heap.size < w2.heap.size := by omega
    go_wp2_with fail
    go_ret2
    exact ⟨r, rfl, (by repeat (first | with_reducible exact New.refl _ | with_reducible assumption | with_reducible refine New.drew ?_ | with_reducible refine New.drewN ?_ _ | with_reducible refine New.alloc ?_ _ | with_reducible refine New.setCell ?_ (by first | (simp; done) | (simp; omega) | omega) _ | with_reducible refine New.trans ?_ (by with_reducible assumption))), own_base own2 (by omega)⟩
  · rw [show usesR p s = ([], 1) by rw [usesR, if_neg (by simp [h1])]]
    go_enter Tryd.func12, Tryd.ntmps12
    go_wp2_with fail
    refine (iIsWritten_any p _ _ _ _ _ (HP.out.new (by repeat (first | with_reducible exact New.refl _ | with_reducible assumption | with_reducible refine New.drew ?_ | with_reducible refine New.drewN ?_ _ | with_reducible refine New.alloc ?_ _ | with_reducible refine New.setCell ?_ (by first | (simp; done) | (simp; omega) | omega) _ | with_reducible refine New.trans ?_ (by with_reducible assumption)))) hf (HK.out.new (by repeat (first | with_reducible exact New.refl _ | with_reducible assumption | with_reducible refine New.drew ?_ | with_reducible refine New.drewN ?_ _ | with_reducible refine New.alloc ?_ _ | with_reducible refine New.setCell ?_ (by first | (simp; done) | (simp; omega) | omega) _ | with_reducible refine New.trans ?_ (by with_reducible assumption))))).mono ?_; rintro e w1 ⟨rfl, b1⟩
    try with_reducible replace b1 := New.undrawN b1
    try with_reducible replace b1 := New.undraw b1
    obtain ⟨c1, f1⟩ := b1.rules
    have z1 := b1.size
    try simp only [World.size_alloc, World.size_drew, World.heap_drewN, World.size_setCell] at z1
    have z1_0 : w.heap.size < w1.heap.size := by omega
    go_wp2_with fail
    go_ret2
    exact ⟨_, rfl, (by repeat (first | with_reducible exact New.refl _ | with_reducible assumption | with_reducible refine New.drew ?_ | with_reducible refine New.drewN ?_ _ | with_reducible refine New.alloc ?_ _ | with_reducible refine New.setCell ?_ (by first | (simp; done) | (simp; omega) | omega) _ | with_reducible refine New.trans ?_ (by with_reducible assumption))), World.ownsRow_nil _ _ _ _⟩
set_option maxHeartbeats 2000000 in
theorem sUsesOf_any (p : ProgD) (iv vv ov lv : Value) (s : ByteArray) (w : World) (hp : RdP w p iv vv ov lv) (hf : FitP p) :
    Calls Tryd.prog 13 #[valP p iv vv ov lv, .string s] w (RetIC w (usesR p s)) := by
  obtain ⟨i0, hi, hz0, hz1, hz2⟩ := info_parts infoI64h
  have HP := Lib.hid hp
  obtain ⟨_, _, _, ps, hps, hl1, hl2⟩ := hp
  obtain ⟨a, cap, rfl, hm, HC⟩ := Rd.flat encLV_len (by omega) hl1
  have HT := Lib.hid hl2
  have hpm : ps.length ≤ 1048576 := by have := hf.linesl; rw [← hps, List.length_map] at this; exact this
  have HLG := Lib.hid (fun k (h : k < ps.length) => lines_get hps k h)
  have HPL := Lib.hid (show p.lines.length = ps.length by rw [← hps, List.length_map])
  clear hl1 hl2 hps
  have zz : w.heap.size < w.heap.size + 1 := by omega
  rcases Bool.eq_false_or_eq_true (wB p) with h1 | h1
  · rw [show usesR p s = (usesP p s, 0) by rw [usesR, if_pos h1]]
    go_enter Tryd.func13, Tryd.ntmps13
    go_wp2_with fail
    refine (sIsWritten_any p _ _ _ _ _ (HP.out.new (by repeat (first | with_reducible exact New.refl _ | with_reducible assumption | with_reducible refine New.drew ?_ | with_reducible refine New.drewN ?_ _ | with_reducible refine New.alloc ?_ _ | with_reducible refine New.setCell ?_ (by first | (simp; done) | (simp; omega) | omega) _ | with_reducible refine New.trans ?_ (by with_reducible assumption)))) hf).mono ?_; rintro e w1 ⟨rfl, b1⟩
    try with_reducible replace b1 := New.undrawN b1
    try with_reducible replace b1 := New.undraw b1
    obtain ⟨c1, f1⟩ := b1.rules
    have z1 := b1.size
    try simp only [World.size_alloc, World.size_drew, World.heap_drewN, World.size_setCell] at z1
    have z1_0 : w.heap.size < w1.heap.size := by omega
    go_wp2_with fail
    go_loopw [6, 7] (fun o i wr => ∃ k : Nat, k ≤ ps.length ∧ i = .int .i64 k ∧ New (w.alloc (.cells #[.string p.name, iv, vv, ov, .string p.guard, .slice a ps.length cap] 27)) wr ∧ wr.ownsRow (w.heap.size + 1) 2 1 o (usesTo s p.lines k).length ((usesTo s p.lines k).map (Value.int .i64))) (fun _ i _ => ps.length - (intOf i).toNat)
    case atStart => exact ⟨0, Nat.zero_le _, rfl, (by repeat (first | with_reducible exact New.refl _ | with_reducible assumption | with_reducible refine New.drew ?_ | with_reducible refine New.drewN ?_ _ | with_reducible refine New.alloc ?_ _ | with_reducible refine New.setCell ?_ (by first | (simp; done) | (simp; omega) | omega) _ | with_reducible refine New.trans ?_ (by with_reducible assumption))), own_empty (by omega)⟩
    case round =>
      obtain ⟨k, hk, rfl, hb, hown⟩ := hrel
      clear c1 f1
      have hbz := hb.size
      simp only [World.size_alloc] at hbz
      have hb0 : New w wr := ((New.refl w).alloc _).trans hb
      obtain ⟨cc, f'⟩ := hb.rules
      by_cases hlt : k < ps.length
      · obtain ⟨b, off, rfl, hbl, hx⟩ := HC.out k hlt
        obtain ⟨ea, ec, hev, _⟩ := HT.out ps[k] (List.getElem_mem hlt)
        rw [show encLV ps[k] = [.string ps[k].1.target, ps[k].2] from rfl, hev] at hx
        have HTK := Lib.hid (HT.out ps[k] (List.getElem_mem hlt))
        rw [hev] at HTK
        have x1 := hx 1 _ (by omega) rfl
        replace hx := Lib.hid hx
        clear hev
        have hbw : b < wr.heap.size := by omega
        have hbw1 : b < w.heap.size + 1 := by omega
        obtain ⟨hlp, hle⟩ := HLG.out k hlt
        have HLE := Lib.hid hle; clear hle
        have HLQ := Lib.hid hlp
        have hul := usesTo_len s p.lines k
        rcases Bool.eq_false_or_eq_true (ps[k].1.terms.any (useT s)) with g1 | g1
        · have HA := Lib.hid (usesTo_yes HLQ.out (by rw [HLE.out]; exact g1))
          go_wp2_with fail
          refine (sUses_any ps[k].1.terms _ s _ (HTK.out.new (by repeat (first | with_reducible exact New.refl _ | with_reducible assumption | with_reducible refine New.drew ?_ | with_reducible refine New.drewN ?_ _ | with_reducible refine New.alloc ?_ _ | with_reducible refine New.setCell ?_ (by first | (simp; done) | (simp; omega) | omega) _ | with_reducible refine New.trans ?_ (by with_reducible assumption))))).mono ?_; rintro e w3 ⟨rfl, rfl⟩
          go_wp2_with (first | (at_builtin; refine wpList_append_own _ rfl _ _ 32 rfl (w.heap.size + 1) 2 i0 (.int .i64 0) 1 8 Tryd.underlying32 hi hz0 hz1 hz2 rfl (by decide) _ _ _ rfl (hown.alloc _) ⟨wr.heap.size, 0, none⟩ 1 1 [.int .i64 ((k : Int))] rfl rfl (by intro j u hj; match j, hj with | 0, hj => simp at hj; subst hj; first | (simp [Addr.add]; done) | exact alloc_one rfl) (by intro u hu; simp at hu; subst hu; rfl) (by unfold maxLen; omega) (by omega) (by first | (simp; done) | (simp; omega) | omega) ?_; intro va wa howna hgra _))
          have ba := New.grown (hb.alloc _) hgra (fun q hq => by have := (own_block_lt hown q hq).1; simpa using this)
          go_roundw
          case rel => exact ⟨k + 1, by omega, by go_num, ba, by rw [HA.out, List.length_append, List.map_append]; exact howna⟩
          case measure => simp [intOf]; omega
        · have HA := Lib.hid (usesTo_no HLQ.out (by rw [HLE.out]; exact g1))
          go_wp2_with fail
          refine (sUses_any ps[k].1.terms _ s _ (HTK.out.new (by repeat (first | with_reducible exact New.refl _ | with_reducible assumption | with_reducible refine New.drew ?_ | with_reducible refine New.drewN ?_ _ | with_reducible refine New.alloc ?_ _ | with_reducible refine New.setCell ?_ (by first | (simp; done) | (simp; omega) | omega) _ | with_reducible refine New.trans ?_ (by with_reducible assumption))))).mono ?_; rintro e w3 ⟨rfl, rfl⟩
          go_wp2_with fail
          go_roundw
          case rel => exact ⟨k + 1, by omega, by go_num, hb, by rw [HA.out]; exact hown⟩
          case measure => simp [intOf]; omega
      · obtain rfl : k = ps.length := by omega
        go_wp2_with fail
        go_ret2
        refine ⟨_, rfl, hb0, own_base (base := w.heap.size + 1) ?_ (by omega)⟩
        rw [usesP, HPL.out]; exact hown
  · rw [show usesR p s = ([], 1) by rw [usesR, if_neg (by simp [h1])]]
    go_enter Tryd.func13, Tryd.ntmps13
    go_wp2_with fail
    refine (sIsWritten_any p _ _ _ _ _ (HP.out.new (by repeat (first | with_reducible exact New.refl _ | with_reducible assumption | with_reducible refine New.drew ?_ | with_reducible refine New.drewN ?_ _ | with_reducible refine New.alloc ?_ _ | with_reducible refine New.setCell ?_ (by first | (simp; done) | (simp; omega) | omega) _ | with_reducible refine New.trans ?_ (by with_reducible assumption)))) hf).mono ?_; rintro e w1 ⟨rfl, b1⟩
    try with_reducible replace b1 := New.undrawN b1
    try with_reducible replace b1 := New.undraw b1
    obtain ⟨c1, f1⟩ := b1.rules
    have z1 := b1.size
    try simp only [World.size_alloc, World.size_drew, World.heap_drewN, World.size_setCell] at z1
    have z1_0 : w.heap.size < w1.heap.size := by omega
    go_wp2_with fail
    go_ret2
    exact ⟨_, rfl, (by repeat (first | with_reducible exact New.refl _ | with_reducible assumption | with_reducible refine New.drew ?_ | with_reducible refine New.drewN ?_ _ | with_reducible refine New.alloc ?_ _ | with_reducible refine New.setCell ?_ (by first | (simp; done) | (simp; omega) | omega) _ | with_reducible refine New.trans ?_ (by with_reducible assumption))), World.ownsRow_nil _ _ _ _⟩
end Go.Proofs.YteielmihlfakgaaDoor
