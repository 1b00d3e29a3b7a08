/- Contracts: remembered variables and unused names. -/
import Derived.Test.YteielmihlfakgaaDoorProg
import Derived.Test.YteielmihlfakgaaDoorBlocksP
import Derived.Test.YteielmihlfakgaaDoorUses
namespace Go.Proofs.YteielmihlfakgaaDoor
open Go Go.Proofs Go.RowKit
set_option linter.unusedVariables false
set_option linter.unusedSimpArgs false
set_option maxRecDepth 100000
def useAt (p : ProgD) (s : ByteArray) (i : Nat) : Bool := (p.lines[i]?).any (useL s)
def remB (p : ProgD) (s : ByteArray) : Bool := (List.range (lineIdx p s + 1).toNat).any (useAt p s)
theorem filter_head {f : Nat → Bool} {n a : Nat} {rest : List Nat} (h : (List.range n).filter f = a :: rest) : f a = true ∧ a < n ∧ ∀ i, i < a → f i = false := by
  obtain ⟨l1, l2, e, h1, h2, _⟩ := List.filter_eq_cons_iff.1 h
  have hl : (List.range n).length = l1.length + (l2.length + 1) := by rw [e]; simp
  rw [List.length_range] at hl
  have ha : (List.range n)[l1.length]'(by rw [List.length_range]; omega) = a := by simp [e]
  rw [List.getElem_range] at ha
  refine ⟨h2, by omega, fun i hi => ?_⟩
  have hm : (List.range n)[i]'(by rw [List.length_range]; omega) = l1[i]'(by omega) := by simp [e, List.getElem_append_left (show i < l1.length by omega)]
  rw [List.getElem_range] at hm
  have := h1 (l1[i]'(by omega)) (List.getElem_mem _)
  rw [← hm] at this
  simpa using this
theorem useAt_out {p : ProgD} {s : ByteArray} {i : Nat} (h : p.lines.length ≤ i) : useAt p s i = false := by rw [useAt, List.getElem?_eq_none h]; rfl
theorem remB_nil {p : ProgD} {s : ByteArray} (h : usesP p s = []) : remB p s = false := by
  have h' : (List.range p.lines.length).filter (useAt p s) = [] := by simpa [usesP, usesTo, useAt] using h
  rw [List.filter_eq_nil_iff] at h'
  rw [remB, List.any_eq_false]
  intro i _
  rcases Nat.lt_or_ge i p.lines.length with hi | hi
  · exact h' i (List.mem_range.2 hi)
  · rw [useAt_out hi]; simp
theorem remB_cons {p : ProgD} {s : ByteArray} {u : Int} {rest : List Int} (h : usesP p s = u :: rest) : remB p s = decide (u ≤ lineIdx p s) := by
  obtain ⟨a, tl, e, rfl, _⟩ : ∃ a tl, (List.range p.lines.length).filter (useAt p s) = a :: tl ∧ (a : Int) = u ∧ True := by
    have h' : ((List.range p.lines.length).filter (useAt p s)).map Int.ofNat = u :: rest := h
    cases hh : (List.range p.lines.length).filter (useAt p s) with
    | nil => rw [hh] at h'; cases h'
    | cons a tl => rw [hh] at h'; exact ⟨a, tl, rfl, by simpa using (List.cons.inj h').1, trivial⟩
  obtain ⟨h1, h2, h3⟩ := filter_head e
  rw [remB, Bool.eq_iff_iff, decide_eq_true_eq, List.any_eq_true]
  constructor
  · rintro ⟨i, hi, hu⟩
    have := List.mem_range.1 hi
    rcases Nat.lt_or_ge i a with hia | hia
    · rw [h3 i hia] at hu; cases hu
    · omega
  · intro hl
    exact ⟨a, List.mem_range.2 (by omega), h1⟩
def unB (p : ProgD) (s : ByteArray) : Bool := !(s.toList == p.guard.toList) && !(p.lines.any (useL s))
theorem uses_nil (p : ProgD) (s : ByteArray) : (((usesP p s).length : Int) == 0) = !(p.lines.any (useL s)) := by
  rw [Bool.eq_iff_iff, beq_iff_eq]
  simp only [Bool.not_eq_true', List.any_eq_false]
  have e : (usesP p s).length = ((List.range p.lines.length).filter (useAt p s)).length := by rw [usesP, usesTo, List.length_map]; rfl
  rw [e]
  constructor
  · intro h l hl
    have h0 : (List.range p.lines.length).filter (useAt p s) = [] := List.eq_nil_of_length_eq_zero (by omega)
    rw [List.filter_eq_nil_iff] at h0
    obtain ⟨i, hi, rfl⟩ := List.mem_iff_getElem.1 hl
    have := h0 i (List.mem_range.2 hi)
    simpa [useAt, hi] using this
  · intro h
    have h0 : (List.range p.lines.length).filter (useAt p s) = [] := by
      rw [List.filter_eq_nil_iff]
      intro i hi
      have hi' := List.mem_range.1 hi
      have := h p.lines[i] (List.getElem_mem _)
      simpa [useAt, hi'] using this
    rw [h0]; rfl
def remR (p : ProgD) : List ByteArray × Int := if codeR p = 0 then (p.vars.filter (remB p), 0) else ([], codeR p)
def unR (p : ProgD) : List ByteArray × Int := if codeR p = 0 then ((p.inputs ++ p.vars).filter (unB p), 0) else ([], codeR p)
/-- A call hands back a list of texts in new memory, and a code. -/
def RetSC (w : World) (r : List ByteArray × Int) (e : Ending) (w' : World) : Prop := ∃ v, e = .returned (.tuple #[v, .int .i64 r.2]) ∧ New w w' ∧ w'.ownsRow w.heap.size 9 1 v r.1.length (r.1.map Value.string)
theorem filter_yes {f : ByteArray → Bool} {xs : List ByteArray} {k : Nat} (h : k < xs.length) (hf : f xs[k] = true) : (xs.take (k + 1)).filter f = (xs.take k).filter f ++ [xs[k]] := by
  rw [List.take_succ_eq_append_getElem h, List.filter_append]; simp [hf]
theorem filter_no {f : ByteArray → Bool} {xs : List ByteArray} {k : Nat} (h : k < xs.length) (hf : f xs[k] = false) : (xs.take (k + 1)).filter f = (xs.take k).filter f := by
  rw [List.take_succ_eq_append_getElem h, List.filter_append]; simp [hf]
theorem filter_len (f : ByteArray → Bool) (xs : List ByteArray) (k : Nat) : ((xs.take k).filter f).length ≤ xs.length := by
  have h1 := List.length_filter_le f (xs.take k)
  have h2 : (xs.take k).length ≤ xs.length := by rw [List.length_take]; omega
  omega
theorem lineIdx_bd (p : ProgD) (s : ByteArray) : -1 ≤ lineIdx p s ∧ lineIdx p s < p.lines.length := by
  rw [lineIdx, idx]
  cases h : p.lines.findIdx? (fun l => l.target.toList == s.toList) with
  | none => simp; omega
  | some i =>
    obtain ⟨hi, _⟩ := List.findIdx?_eq_some_iff_getElem.1 h
    simp; omega
set_option maxHeartbeats 2000000 in
theorem sRem0_any (p : ProgD) (iv vv ov lv : Value) (s : ByteArray) (w : World) (hp : RdP w p iv vv ov lv) :
    Calls Tryd.prog 57 #[valP p iv vv ov lv, .string s] w fun e w' => e = .returned (.bool (remB p s)) ∧ New w w' := by
  have HP := Lib.hid hp
  obtain ⟨_, _, _, ps, hps, hl1, hl2⟩ := hp
  obtain ⟨a, cap, rfl, hm, HC⟩ := Rd.flat encLV_len (by omega) hl1
  have HT := Lib.hid hl2
  have HLG := Lib.hid (fun k (h : k < ps.length) => lines_get hps k h)
  have HPL := Lib.hid (show p.lines.length = ps.length by rw [← hps, List.length_map])
  have hlb := lineIdx_bd p s
  rw [HPL.out] at hlb
  clear hl1 hl2 hps
  have HRB := Lib.hid (show remB p s = (List.range (lineIdx p s + 1).toNat).any (useAt p s) from rfl)
  have zz : w.heap.size < w.heap.size + 1 := by omega
  go_enter Tryd.func57, Tryd.ntmps57
  go_wp2_with fail
  go_loopw [5] (fun i wr => ∃ k : Nat, (k : Int) ≤ lineIdx p s + 1 ∧ i = .int .i64 k ∧ Hid ((List.range k).any (useAt p s) = false) ∧ New (w.alloc (.cells #[.string p.name, iv, vv, ov, .string p.guard, .slice a ps.length cap] 27)) wr) (fun i _ => (lineIdx p s + 1).toNat - (intOf i).toNat)
  case atStart => exact ⟨0, by omega, rfl, rfl, New.refl _⟩
  case round =>
    obtain ⟨k, hk, rfl, hpre, hb⟩ := hrel
    have hbz := hb.size
    simp only [World.size_alloc] at hbz
    have hb0 : New w wr := ((New.refl w).alloc _).trans hb
    obtain ⟨cc, f'⟩ := hb.rules
    have hww : w.heap.size < wr.heap.size := by omega
    by_cases hlt : (k : Int) ≤ lineIdx p s
    · have hkl : k < ps.length := by omega
      obtain ⟨b, off, rfl, hbl, hx⟩ := HC.out k hkl
      obtain ⟨ea, ec, hev, _⟩ := HT.out ps[k] (List.getElem_mem hkl)
      rw [show encLV ps[k] = [.string ps[k].1.target, ps[k].2] from rfl, hev] at hx
      have HTK := Lib.hid (HT.out ps[k] (List.getElem_mem hkl))
      rw [hev] at HTK
      have x1 := hx 1 _ (by omega) rfl
      replace hx := Lib.hid hx
      clear hev
      have hbw : b < wr.heap.size := by omega
      have hbw1 : b < w.heap.size + 1 := by omega
      obtain ⟨hlp, hle⟩ := HLG.out k hkl
      have HU := Lib.hid (show useAt p s k = ps[k].1.terms.any (useT s) by rw [useAt, List.getElem?_eq_getElem hlp, hle]; rfl)
      clear hle
      rcases Bool.eq_false_or_eq_true (ps[k].1.terms.any (useT s)) with g1 | g1
      · have HA := Lib.hid (show remB p s = true by rw [HRB.out, List.any_eq_true]; exact ⟨k, List.mem_range.2 (by omega), by rw [HU.out]; exact g1⟩)
        go_wp2_with fail
        refine (sLine_any p _ _ _ _ s _ (HP.out.new (by repeat (first | with_reducible exact New.refl _ | with_reducible assumption | with_reducible refine New.drew ?_ | with_reducible refine New.drewN ?_ _ | with_reducible refine New.alloc ?_ _ | with_reducible refine New.setCell ?_ (by first | (simp; done) | (simp; omega) | omega) _ | with_reducible refine New.trans ?_ (by with_reducible assumption))))).mono ?_; rintro e w1 ⟨rfl, b1⟩
        try with_reducible replace b1 := New.undrawN b1
        try with_reducible replace b1 := New.undraw b1
        obtain ⟨c1, f1⟩ := b1.rules
        have z1 := b1.size
        try simp only [World.size_alloc, World.size_drew, World.heap_drewN, World.size_setCell] at z1
        have z1_0 : w.heap.size < w1.heap.size := by omega
        have z1_1 : b < w1.heap.size := by omega
        go_wp2_with fail
        refine (sUses_any ps[k].1.terms _ s _ (HTK.out.new (by repeat (first | with_reducible exact New.refl _ | with_reducible assumption | with_reducible refine New.drew ?_ | with_reducible refine New.drewN ?_ _ | with_reducible refine New.alloc ?_ _ | with_reducible refine New.setCell ?_ (by first | (simp; done) | (simp; omega) | omega) _ | with_reducible refine New.trans ?_ (by with_reducible assumption))))).mono ?_; rintro e w3 ⟨rfl, rfl⟩
        go_wp2_with fail
        go_ret
        exact ⟨ret_bool HA.out.symm, (by repeat (first | with_reducible exact New.refl _ | with_reducible assumption | with_reducible refine New.drew ?_ | with_reducible refine New.drewN ?_ _ | with_reducible refine New.alloc ?_ _ | with_reducible refine New.setCell ?_ (by first | (simp; done) | (simp; omega) | omega) _ | with_reducible refine New.trans ?_ (by with_reducible assumption)))⟩
      · have HA := Lib.hid (show (List.range (k + 1)).any (useAt p s) = false by rw [List.range_succ, any_snoc, hpre.out, HU.out, g1]; rfl)
        go_wp2_with fail
        refine (sLine_any p _ _ _ _ s _ (HP.out.new (by repeat (first | with_reducible exact New.refl _ | with_reducible assumption | with_reducible refine New.drew ?_ | with_reducible refine New.drewN ?_ _ | with_reducible refine New.alloc ?_ _ | with_reducible refine New.setCell ?_ (by first | (simp; done) | (simp; omega) | omega) _ | with_reducible refine New.trans ?_ (by with_reducible assumption))))).mono ?_; rintro e w1 ⟨rfl, b1⟩
        try with_reducible replace b1 := New.undrawN b1
        try with_reducible replace b1 := New.undraw b1
        obtain ⟨c1, f1⟩ := b1.rules
        have z1 := b1.size
        try simp only [World.size_alloc, World.size_drew, World.heap_drewN, World.size_setCell] at z1
        have z1_0 : w.heap.size < w1.heap.size := by omega
        have z1_1 : b < w1.heap.size := by omega
        go_wp2_with fail
        refine (sUses_any ps[k].1.terms _ s _ (HTK.out.new (by repeat (first | with_reducible exact New.refl _ | with_reducible assumption | with_reducible refine New.drew ?_ | with_reducible refine New.drewN ?_ _ | with_reducible refine New.alloc ?_ _ | with_reducible refine New.setCell ?_ (by first | (simp; done) | (simp; omega) | omega) _ | with_reducible refine New.trans ?_ (by with_reducible assumption))))).mono ?_; rintro e w3 ⟨rfl, rfl⟩
        go_wp2_with fail
        go_roundw
        case rel => exact ⟨k + 1, by omega, by go_num, HA, hb.trans b1⟩
        case measure => simp [intOf]; omega
    · have hke : k = (lineIdx p s + 1).toNat := by omega
      have HA := Lib.hid (show remB p s = false by rw [HRB.out, ← hke]; exact hpre.out)
      clear hke
      go_wp2_with fail
      refine (sLine_any p _ _ _ _ s _ (HP.out.new (by repeat (first | with_reducible exact New.refl _ | with_reducible assumption | with_reducible refine New.drew ?_ | with_reducible refine New.drewN ?_ _ | with_reducible refine New.alloc ?_ _ | with_reducible refine New.setCell ?_ (by first | (simp; done) | (simp; omega) | omega) _ | with_reducible refine New.trans ?_ (by with_reducible assumption))))).mono ?_; rintro e w1 ⟨rfl, b1⟩
      try with_reducible replace b1 := New.undrawN b1
      try with_reducible replace b1 := New.undraw b1
      obtain ⟨c1, f1⟩ := b1.rules
      have z1 := b1.size
      try simp only [World.size_alloc, World.size_drew, World.heap_drewN, World.size_setCell] at z1
      have z1_0 : w.heap.size < w1.heap.size := by omega
      go_wp2_with fail
      go_ret
      exact ⟨ret_bool HA.out.symm, hb0.trans b1⟩
set_option maxHeartbeats 4000000 in
theorem iRememberedVars_any (p : ProgD) (iv vv ov lv : Value) (w : World) (hp : RdP w p iv vv ov lv) (hf : FitP p) (hk : KW w) :
    Calls Tryd.prog 24 #[valP p iv vv ov lv] w (RetSC w (remR p)) := by
  obtain ⟨i0, hi, hz0, hz1, hz2⟩ := info_parts infoStrC
  have HP := Lib.hid hp
  have HK := Lib.hid hk; clear hk
  obtain ⟨_, h2, _, _⟩ := hp
  obtain ⟨ja, jc, rfl, hm, HC⟩ := h2.open
  clear h2
  have hvm := hf.varsl
  have HF := Lib.hid hf; clear hf
  have zz : w.heap.size < w.heap.size + 1 := by omega
  by_cases hc : codeR p = 0
  · have hC : (codeR p != 0) = false := by simp [hc]
    have HR := Lib.hid (show remR p = (p.vars.filter (remB p), 0) by rw [remR, if_pos hc])
    rw [HR.out]
    clear hc
    go_enter Tryd.func24, Tryd.ntmps24
    go_wp2_with fail
    refine (iSoundCode_any p _ _ _ _ _ (HP.out.new (by repeat (first | with_reducible exact New.refl _ | with_reducible assumption | with_reducible refine New.drew ?_ | with_reducible refine New.drewN ?_ _ | with_reducible refine New.alloc ?_ _ | with_reducible refine New.setCell ?_ (by first | (simp; done) | (simp; omega) | omega) _ | with_reducible refine New.trans ?_ (by with_reducible assumption)))) HF.out (HK.out.new (by repeat (first | with_reducible exact New.refl _ | with_reducible assumption | with_reducible refine New.drew ?_ | with_reducible refine New.drewN ?_ _ | with_reducible refine New.alloc ?_ _ | with_reducible refine New.setCell ?_ (by first | (simp; done) | (simp; omega) | omega) _ | with_reducible refine New.trans ?_ (by with_reducible assumption))))).mono ?_; rintro e w1 ⟨rfl, b1⟩
    try with_reducible replace b1 := New.undrawN b1
    try with_reducible replace b1 := New.undraw b1
    obtain ⟨c1, f1⟩ := b1.rules
    have z1 := b1.size
    try simp only [World.size_alloc, World.size_drew, World.heap_drewN, World.size_setCell] at z1
    have z1_0 : w.heap.size < w1.heap.size := by omega
    go_wp2_with fail
    go_loopw [5, 17] (fun o i wr => ∃ k : Nat, k ≤ p.vars.length ∧ i = .int .i64 k ∧ New (w.alloc (.cells #[.string p.name, iv, .slice ja p.vars.length jc, ov, .string p.guard, lv] 27)) wr ∧ wr.ownsRow (w.heap.size + 1) 9 1 o ((p.vars.take k).filter (remB p)).length (((p.vars.take k).filter (remB p)).map Value.string)) (fun _ i _ => p.vars.length - (intOf i).toNat)
    case atStart => exact ⟨0, Nat.zero_le _, rfl, (by repeat (first | with_reducible exact New.refl _ | with_reducible assumption | with_reducible refine New.drew ?_ | with_reducible refine New.drewN ?_ _ | with_reducible refine New.alloc ?_ _ | with_reducible refine New.setCell ?_ (by first | (simp; done) | (simp; omega) | omega) _ | with_reducible refine New.trans ?_ (by with_reducible assumption))), World.ownsRow_nil _ _ _ _⟩
    case round =>
      obtain ⟨k, hk, rfl, hb, hown⟩ := hrel
      clear c1 f1
      have hbz := hb.size
      simp only [World.size_alloc] at hbz
      have hb0 : New w wr := ((New.refl w).alloc _).trans hb
      obtain ⟨cc, f'⟩ := hb.rules
      have hww : w.heap.size < wr.heap.size := by omega
      by_cases hlt : k < p.vars.length
      · obtain ⟨b, off, rfl, hbl, hx⟩ := HC.out w (New.refl w) k hlt
        have hbw : b < wr.heap.size := by omega
        have hbw1 : b < w.heap.size + 1 := by omega
        have hfl := filter_len (remB p) p.vars k
        have HY := Lib.hid (fun h => filter_yes (f := remB p) hlt h)
        have HN := Lib.hid (fun h => filter_no (f := remB p) hlt h)
        generalize p.vars[k] = x at *
        have HB0 := Lib.hid (fun h => remB_nil (p := p) (s := x) h)
        have HB1 := Lib.hid (fun u rest h => remB_cons (p := p) (s := x) (u := u) (rest := rest) h)
        go_wp2_with fail
        refine (iUsesOf0_any p _ _ _ _ x _ (HP.out.new (by repeat (first | with_reducible exact New.refl _ | with_reducible assumption | with_reducible refine New.drew ?_ | with_reducible refine New.drewN ?_ _ | with_reducible refine New.alloc ?_ _ | with_reducible refine New.setCell ?_ (by first | (simp; done) | (simp; omega) | omega) _ | with_reducible refine New.trans ?_ (by with_reducible assumption)))) HF.out).mono ?_; rintro e w2 ⟨r, rfl, b2, own2⟩
        obtain ⟨c2, f2⟩ := b2.rules
        have z2 := b2.size
        have z2_0 : w.heap.size < w2.heap.size := by omega
        generalize usesP p x = U at own2 HB0 HB1
        cases U with
        | nil =>
          have hrem := HN.out (HB0.out rfl)
          have HNR := Lib.hid hrem; clear hrem
          obtain ⟨ra, rc, rfl⟩ := own_slice own2
          clear own2
          simp only [List.length_nil]
          go_wp2_with fail
          have hq2 := fun (n : NewOf w2) b o => NewOf.cell n b o
          refine wp_region_new (by kernel_rfl) (by kernel_rfl) ?_
          repeat (first | go_big_quiet_skip | go_big_quiet_step ((fail)) | quiet_step ((fail)))
          refine wpQuiet_nil ?_
          rintro ⟨w3, b3⟩
          dsimp only
          try with_reducible replace b3 := New.undrawN b3
          try with_reducible replace b3 := New.undraw b3
          obtain ⟨c3, f3⟩ := b3.rules
          have z3 := b3.size
          try simp only [World.size_alloc, World.size_drew, World.heap_drewN, World.size_setCell] at z3
          go_wp2_with fail
          go_roundw
          case rel => exact ⟨k + 1, by omega, by go_num, hb.trans (b2.trans b3), by rw [HNR.out]; exact own_new hown (b2.trans b3)⟩
          case measure => simp [intOf]; omega
        | cons u rest =>
          have HB2 := Lib.hid (HB1.out u rest rfl)
          obtain ⟨g, rc, rfl⟩ : ∃ g rc, r = .slice (some ⟨g, 0, none⟩) (u :: rest).length rc := by
            rcases own2.2 with ⟨_, h⟩ | ⟨g, cap, cur, rfl, _⟩
            · simp at h
            · exact ⟨g, cap, rfl⟩
          have hcell : w2.cell? ⟨g, 0, none⟩ = some (.int .i64 u) := by have := own2.cellAt 0 (by simp); simpa using this
          have hgw : g < w2.heap.size := (own_block_lt own2 g rfl).2
          have hm1 : 0 < (u :: rest).length := by simp
          have HW := Lib.hid own2; clear own2
          generalize (u :: rest).length = m at *
          have hm2 : decide ((0 : Int) < (m : Int)) = true := by simp; omega
          have hm3 : (0 : Int) < (m : Int) := by omega
          rcases Bool.eq_false_or_eq_true (decide (u ≤ lineIdx p x)) with g1 | g1
          · have hrem := HY.out (by rw [HB2.out]; exact g1)
            have HYR := Lib.hid hrem; clear hrem
            go_wp2_with fail
            have hq2 := fun (n : NewOf w2) b o => NewOf.cell n b o
            refine wp_region_new (by kernel_rfl) (by kernel_rfl) ?_
            repeat (first | go_big_quiet_skip | go_big_quiet_step ((first | exact newq (iLine_any p _ _ _ _ x _ (HP.out.new (show New w _ by exact (hb0.trans b2).trans (NewOf.property _)))))) | quiet_step ((first | exact newq (iLine_any p _ _ _ _ x _ (HP.out.new (show New w _ by exact (hb0.trans b2).trans (NewOf.property _)))))))
            refine wpQuiet_nil ?_
            rintro ⟨w3, b3⟩
            dsimp only
            try with_reducible replace b3 := New.undrawN b3
            try with_reducible replace b3 := New.undraw b3
            obtain ⟨c3, f3⟩ := b3.rules
            have z3 := b3.size
            try simp only [World.size_alloc, World.size_drew, World.heap_drewN, World.size_setCell] at z3
            have z3_0 : w.heap.size < w3.heap.size := by omega
            go_wp2_with (first | ((at_builtin; refine wpList_append_own _ rfl _ _ 24 rfl (w.heap.size + 1) 9 i0 (.string ⟨#[]⟩) 1 16 Tryd.underlying24 hi hz0 hz1 hz2 rfl (by decide) _ _ _ rfl ((own_new hown (b2.trans b3)).alloc _) ⟨w3.heap.size, 0, none⟩ 1 1 [.string (x)] rfl rfl (by intro j u hj; match j, hj with | 0, hj => simp at hj; subst hj; first | (simp [Addr.add]; done) | exact alloc_one rfl) (by intro u hu; simp at hu; subst hu; rfl) (by unfold maxLen; omega) (by omega) (by first | (simp; done) | (simp; omega) | omega) ?_; intro va wa howna hgra _)))
            have ba := New.grown ((hb.trans (b2.trans b3)).alloc _) hgra (fun q hq => by have := (own_block_lt hown q hq).1; simpa using this)
            go_roundw
            case rel => exact ⟨k + 1, by omega, by go_num, ba, by rw [HYR.out, List.length_append, List.map_append]; exact howna⟩
            case measure => simp [intOf]; omega
          · have hrem := HN.out (by rw [HB2.out]; exact g1)
            have HNR := Lib.hid hrem; clear hrem
            go_wp2_with fail
            have hq2 := fun (n : NewOf w2) b o => NewOf.cell n b o
            refine wp_region_new (by kernel_rfl) (by kernel_rfl) ?_
            repeat (first | go_big_quiet_skip | go_big_quiet_step ((first | exact newq (iLine_any p _ _ _ _ x _ (HP.out.new (show New w _ by exact (hb0.trans b2).trans (NewOf.property _)))))) | quiet_step ((first | exact newq (iLine_any p _ _ _ _ x _ (HP.out.new (show New w _ by exact (hb0.trans b2).trans (NewOf.property _)))))))
            refine wpQuiet_nil ?_
            rintro ⟨w3, b3⟩
            dsimp only
            try with_reducible replace b3 := New.undrawN b3
            try with_reducible replace b3 := New.undraw b3
            obtain ⟨c3, f3⟩ := b3.rules
            have z3 := b3.size
            try simp only [World.size_alloc, World.size_drew, World.heap_drewN, World.size_setCell] at z3
            have z3_0 : w.heap.size < w3.heap.size := by omega
            go_wp2_with fail
            go_roundw
            case rel => exact ⟨k + 1, by omega, by go_num, hb.trans (b2.trans b3), by rw [HNR.out]; exact own_new hown (b2.trans b3)⟩
            case measure => simp [intOf]; omega
      · obtain rfl : k = p.vars.length := by omega
        go_wp2_with fail
        go_ret2
        refine ⟨_, rfl, hb0, own_base (base := w.heap.size + 1) ?_ (by omega)⟩
        rw [List.take_length] at hown; exact hown
  · have hC : (codeR p != 0) = true := by simp [hc]
    rw [show remR p = ([], codeR p) by rw [remR, if_neg hc]]
    clear hc
    go_enter Tryd.func24, Tryd.ntmps24
    go_wp2_with fail
    refine (iSoundCode_any p _ _ _ _ _ (HP.out.new (by repeat (first | with_reducible exact New.refl _ | with_reducible assumption | with_reducible refine New.drew ?_ | with_reducible refine New.drewN ?_ _ | with_reducible refine New.alloc ?_ _ | with_reducible refine New.setCell ?_ (by first | (simp; done) | (simp; omega) | omega) _ | with_reducible refine New.trans ?_ (by with_reducible assumption)))) HF.out (HK.out.new (by repeat (first | with_reducible exact New.refl _ | with_reducible assumption | with_reducible refine New.drew ?_ | with_reducible refine New.drewN ?_ _ | with_reducible refine New.alloc ?_ _ | with_reducible refine New.setCell ?_ (by first | (simp; done) | (simp; omega) | omega) _ | with_reducible refine New.trans ?_ (by with_reducible assumption))))).mono ?_; rintro e w1 ⟨rfl, b1⟩
    try with_reducible replace b1 := New.undrawN b1
    try with_reducible replace b1 := New.undraw b1
    obtain ⟨c1, f1⟩ := b1.rules
    have z1 := b1.size
    try simp only [World.size_alloc, World.size_drew, World.heap_drewN, World.size_setCell] at z1
    have z1_0 : w.heap.size < w1.heap.size := by omega
    go_wp2_with fail
    go_ret2
    exact ⟨_, rfl, (by repeat (first | with_reducible exact New.refl _ | with_reducible assumption | with_reducible refine New.drew ?_ | with_reducible refine New.drewN ?_ _ | with_reducible refine New.alloc ?_ _ | with_reducible refine New.setCell ?_ (by first | (simp; done) | (simp; omega) | omega) _ | with_reducible refine New.trans ?_ (by with_reducible assumption))), World.ownsRow_nil _ _ _ _⟩
set_option maxHeartbeats 4000000 in
theorem sRememberedVars_any (p : ProgD) (iv vv ov lv : Value) (w : World) (hp : RdP w p iv vv ov lv) (hf : FitP p) :
    Calls Tryd.prog 25 #[valP p iv vv ov lv] w (RetSC w (remR p)) := by
  obtain ⟨i0, hi, hz0, hz1, hz2⟩ := info_parts infoStrC
  have HP := Lib.hid hp
  obtain ⟨_, h2, _, _⟩ := hp
  obtain ⟨ja, jc, rfl, hm, HC⟩ := h2.open
  clear h2
  have hvm := hf.varsl
  have HF := Lib.hid hf; clear hf
  have zz : w.heap.size < w.heap.size + 1 := by omega
  by_cases hc : codeR p = 0
  · have hC : (codeR p != 0) = false := by simp [hc]
    have HR := Lib.hid (show remR p = (p.vars.filter (remB p), 0) by rw [remR, if_pos hc])
    rw [HR.out]
    clear hc
    go_enter Tryd.func25, Tryd.ntmps25
    go_wp2_with fail
    refine (sSoundCode_any p _ _ _ _ _ (HP.out.new (by repeat (first | with_reducible exact New.refl _ | with_reducible assumption | with_reducible refine New.drew ?_ | with_reducible refine New.drewN ?_ _ | with_reducible refine New.alloc ?_ _ | with_reducible refine New.setCell ?_ (by first | (simp; done) | (simp; omega) | omega) _ | with_reducible refine New.trans ?_ (by with_reducible assumption)))) HF.out).mono ?_; rintro e w1 ⟨rfl, b1⟩
    try with_reducible replace b1 := New.undrawN b1
    try with_reducible replace b1 := New.undraw b1
    obtain ⟨c1, f1⟩ := b1.rules
    have z1 := b1.size
    try simp only [World.size_alloc, World.size_drew, World.heap_drewN, World.size_setCell] at z1
    have z1_0 : w.heap.size < w1.heap.size := by omega
    go_wp2_with fail
    go_loopw [5, 6] (fun o i wr => ∃ k : Nat, k ≤ p.vars.length ∧ i = .int .i64 k ∧ New (w.alloc (.cells #[.string p.name, iv, .slice ja p.vars.length jc, ov, .string p.guard, lv] 27)) wr ∧ wr.ownsRow (w.heap.size + 1) 9 1 o ((p.vars.take k).filter (remB p)).length (((p.vars.take k).filter (remB p)).map Value.string)) (fun _ i _ => p.vars.length - (intOf i).toNat)
    case atStart => exact ⟨0, Nat.zero_le _, rfl, (by repeat (first | with_reducible exact New.refl _ | with_reducible assumption | with_reducible refine New.drew ?_ | with_reducible refine New.drewN ?_ _ | with_reducible refine New.alloc ?_ _ | with_reducible refine New.setCell ?_ (by first | (simp; done) | (simp; omega) | omega) _ | with_reducible refine New.trans ?_ (by with_reducible assumption))), own_empty (by omega)⟩
    case round =>
      obtain ⟨k, hk, rfl, hb, hown⟩ := hrel
      clear c1 f1
      have hbz := hb.size
      simp only [World.size_alloc] at hbz
      have hb0 : New w wr := ((New.refl w).alloc _).trans hb
      obtain ⟨cc, f'⟩ := hb.rules
      have hww : w.heap.size < wr.heap.size := by omega
      by_cases hlt : k < p.vars.length
      · obtain ⟨b, off, rfl, hbl, hx⟩ := HC.out w (New.refl w) k hlt
        have hbw : b < wr.heap.size := by omega
        have hbw1 : b < w.heap.size + 1 := by omega
        have hfl := filter_len (remB p) p.vars k
        have HY := Lib.hid (fun h => filter_yes (f := remB p) hlt h)
        have HN := Lib.hid (fun h => filter_no (f := remB p) hlt h)
        generalize p.vars[k] = x at *
        rcases Bool.eq_false_or_eq_true (remB p x) with g1 | g1
        · have HYR := Lib.hid (HY.out g1)
          have HCR := Lib.hid (fun w0 (n : New w w0) => show Calls Tryd.prog 57 #[valP p iv (.slice (some ⟨b, off, none⟩) p.vars.length jc) ov lv, .string x] w0 fun e w' => e = .returned (.bool true) ∧ New w0 w' by have := sRem0_any p _ _ _ _ x w0 (HP.out.new n); rwa [g1] at this)
          clear g1
          go_wp2_with fail
          have hq2 := fun (n : NewOf wr) b o => NewOf.cell n b o
          refine wp_region_new (by kernel_rfl) (by kernel_rfl) ?_
          repeat (first | go_big_quiet_skip | go_big_quiet_step ((first | exact newq (HCR.out _ (show New w _ by exact hb0.trans (NewOf.property _))))) | quiet_step ((first | exact newq (HCR.out _ (show New w _ by exact hb0.trans (NewOf.property _))))))
          refine wpQuiet_nil ?_
          rintro ⟨w3, b3⟩
          dsimp only
          try with_reducible replace b3 := New.undrawN b3
          try with_reducible replace b3 := New.undraw b3
          obtain ⟨c3, f3⟩ := b3.rules
          have z3 := b3.size
          try simp only [World.size_alloc, World.size_drew, World.heap_drewN, World.size_setCell] at z3
          have z3_0 : w.heap.size < w3.heap.size := by omega
          have z3_1 : b < w3.heap.size := by omega
          go_wp2_with (first | ((at_builtin; refine wpList_append_own _ rfl _ _ 24 rfl (w.heap.size + 1) 9 i0 (.string ⟨#[]⟩) 1 16 Tryd.underlying24 hi hz0 hz1 hz2 rfl (by decide) _ _ _ rfl ((own_new hown b3).alloc _) ⟨w3.heap.size, 0, none⟩ 1 1 [.string (x)] rfl rfl (by intro j u hj; match j, hj with | 0, hj => simp at hj; subst hj; first | (simp [Addr.add]; done) | exact alloc_one rfl) (by intro u hu; simp at hu; subst hu; rfl) (by unfold maxLen; omega) (by omega) (by first | (simp; done) | (simp; omega) | omega) ?_; intro va wa howna hgra _)))
          have ba := New.grown ((hb.trans b3).alloc _) hgra (fun q hq => by have := (own_block_lt hown q hq).1; simpa using this)
          go_roundw
          case rel => exact ⟨k + 1, by omega, by go_num, ba, by rw [HYR.out, List.length_append, List.map_append]; exact howna⟩
          case measure => simp [intOf]; omega
        · have HNR := Lib.hid (HN.out g1)
          have HCR := Lib.hid (fun w0 (n : New w w0) => show Calls Tryd.prog 57 #[valP p iv (.slice (some ⟨b, off, none⟩) p.vars.length jc) ov lv, .string x] w0 fun e w' => e = .returned (.bool false) ∧ New w0 w' by have := sRem0_any p _ _ _ _ x w0 (HP.out.new n); rwa [g1] at this)
          clear g1
          go_wp2_with fail
          have hq2 := fun (n : NewOf wr) b o => NewOf.cell n b o
          refine wp_region_new (by kernel_rfl) (by kernel_rfl) ?_
          repeat (first | go_big_quiet_skip | go_big_quiet_step ((first | exact newq (HCR.out _ (show New w _ by exact hb0.trans (NewOf.property _))))) | quiet_step ((first | exact newq (HCR.out _ (show New w _ by exact hb0.trans (NewOf.property _))))))
          refine wpQuiet_nil ?_
          rintro ⟨w3, b3⟩
          dsimp only
          try with_reducible replace b3 := New.undrawN b3
          try with_reducible replace b3 := New.undraw b3
          obtain ⟨c3, f3⟩ := b3.rules
          have z3 := b3.size
          try simp only [World.size_alloc, World.size_drew, World.heap_drewN, World.size_setCell] at z3
          have z3_0 : w.heap.size < w3.heap.size := by omega
          have z3_1 : b < w3.heap.size := by omega
          go_wp2_with fail
          go_roundw
          case rel => exact ⟨k + 1, by omega, by go_num, hb.trans b3, by rw [HNR.out]; exact own_new hown b3⟩
          case measure => simp [intOf]; omega
      · obtain rfl : k = p.vars.length := by omega
        go_wp2_with fail
        go_ret2
        refine ⟨_, rfl, hb0, own_base (base := w.heap.size + 1) ?_ (by omega)⟩
        rw [List.take_length] at hown; exact hown
  · have hC : (codeR p != 0) = true := by simp [hc]
    rw [show remR p = ([], codeR p) by rw [remR, if_neg hc]]
    clear hc
    go_enter Tryd.func25, Tryd.ntmps25
    go_wp2_with fail
    refine (sSoundCode_any p _ _ _ _ _ (HP.out.new (by repeat (first | with_reducible exact New.refl _ | with_reducible assumption | with_reducible refine New.drew ?_ | with_reducible refine New.drewN ?_ _ | with_reducible refine New.alloc ?_ _ | with_reducible refine New.setCell ?_ (by first | (simp; done) | (simp; omega) | omega) _ | with_reducible refine New.trans ?_ (by with_reducible assumption)))) HF.out).mono ?_; rintro e w1 ⟨rfl, b1⟩
    try with_reducible replace b1 := New.undrawN b1
    try with_reducible replace b1 := New.undraw b1
    obtain ⟨c1, f1⟩ := b1.rules
    have z1 := b1.size
    try simp only [World.size_alloc, World.size_drew, World.heap_drewN, World.size_setCell] at z1
    have z1_0 : w.heap.size < w1.heap.size := by omega
    go_wp2_with fail
    go_ret2
    exact ⟨_, rfl, (by repeat (first | with_reducible exact New.refl _ | with_reducible assumption | with_reducible refine New.drew ?_ | with_reducible refine New.drewN ?_ _ | with_reducible refine New.alloc ?_ _ | with_reducible refine New.setCell ?_ (by first | (simp; done) | (simp; omega) | omega) _ | with_reducible refine New.trans ?_ (by with_reducible assumption))), World.ownsRow_nil _ _ _ _⟩
end Go.Proofs.YteielmihlfakgaaDoor
