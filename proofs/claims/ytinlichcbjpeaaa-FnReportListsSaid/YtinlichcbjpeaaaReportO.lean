/- Contracts: what channels report. -/
import Derived.WalkSpells
import Derived.Deep.RegionHeld3
import Derived.Test.YtinlichcbjpeaaaProg
import Derived.Test.YtinlichcbjpeaaaTrafI
import Derived.Test.YtinlichcbjpeaaaTrafP
import Derived.Test.YtinlichcbjpeaaaFaults
import Derived.Test.YtinlichcbjpeaaaInts
import Derived.Test.YtinlichcbjpeaaaAppRd
import Derived.Test.YtinlichcbjpeaaaRegionG
import Derived.Test.YtinlichcbjpeaaaDrawB
namespace Go.Proofs.Ytinlichcbjpeaaa
open Go Go.Proofs Go.RowKit
set_option linter.unusedVariables false
set_option linter.unusedSimpArgs false
set_option maxRecDepth 100000
def minQ (c : Int) : Int := if c ≤ 0 then 0 else 1
def minTo (n : Int) (ps : List Int) (k : Nat) : List Int := (loadsTo n ps k).map minQ
def minL (n : Int) (ps : List Int) : List Int := minTo n ps n.toNat
theorem minTo_next (n : Int) (ps : List Int) (k : Nat) : minTo n ps (k + 1) = minTo n ps k ++ [minQ (countQ n ps k)] := by rw [minTo, loadsTo_next, List.map_append]; rfl
theorem minTo_len (n : Int) (ps : List Int) (k : Nat) : (minTo n ps k).length = k := by rw [minTo, List.length_map, loadsTo_len]
def putF (L : List Int) (ch : Int) (fs : List ESensorFault) : List Int := fs.foldl (fun l x => if (x.chan == ch) = true then l.set x.blk.toNat x.val else l) L
theorem putF_yes {L : List Int} {ch : Int} {fs : List ESensorFault} {k : Nat} (h : k < fs.length) (hc : (fs[k].chan == ch) = true) : putF L ch (fs.take (k + 1)) = (putF L ch (fs.take k)).set fs[k].blk.toNat fs[k].val := by
  rw [putF, List.take_succ_eq_append_getElem h, List.foldl_append, List.foldl_cons, List.foldl_nil, if_pos hc]; rfl
theorem putF_no {L : List Int} {ch : Int} {fs : List ESensorFault} {k : Nat} (h : k < fs.length) (hc : (fs[k].chan == ch) = false) : putF L ch (fs.take (k + 1)) = putF L ch (fs.take k) := by
  rw [putF, List.take_succ_eq_append_getElem h, List.foldl_append, List.foldl_cons, List.foldl_nil, if_neg (by rw [hc]; simp)]; rfl
theorem putF_len (ch : Int) (fs : List ESensorFault) : ∀ (L : List Int), (putF L ch fs).length = L.length := by
  induction fs with
  | nil => intro L; rfl
  | cons x fs ih =>
    intro L
    show (putF _ ch fs).length = _
    rw [ih]; dsimp only; split <;> simp
set_option maxHeartbeats 2000000 in
theorem sChannel_any (m : Nat) (s fv : Value) (ps : List Int) (fs : List ESensorFault) (ch : Int) (w : World) (hv : RdI w s ps) (hf : Rd w fv fs.length (fs.flatMap encSensorFault)) (h1 : isTraf m ps = true) (hfi : ∀ x ∈ fs, 0 ≤ x.blk ∧ x.blk.toNat < m) :
    Calls Try.prog 104 #[.agg #[.int .i64 (m : Int), s], fv, .int .i64 ch] w (RetSlice w 2 1 m ((putF (minL m ps) ch fs).map (Value.int .i64))) := by
  obtain ⟨i0, hi, hz0, hz1, hz2⟩ := info_parts infoInt
  have HV := Lib.hid hv; clear hv
  have HFI := Lib.hid hfi; clear hfi
  obtain ⟨fa, fc, rfl, hfm, HF⟩ := Rd.flat encSensorFault_len (by omega) hf
  clear hf
  obtain ⟨hn, hl, hp⟩ := isTraf_ok h1
  have HP := Lib.hid hp; clear hp h1
  have hl4 := hl.2
  obtain ⟨hn1, hn2⟩ := hn
  have HM := Lib.hid (show minL m ps = minTo m ps m from rfl)
  go_enter Try.func104, Try.ntmps104
  go_wp2_with fail
  go_loopw [7, 8] (fun o i wr => ∃ k : Nat, k ≤ m ∧ i = .int .i64 k ∧ New (w.alloc (.cells #[.int .i64 (m : Int), s] 32)) wr ∧ wr.ownsRow (w.heap.size + 1) 2 1 o k ((minTo m ps k).map (Value.int .i64))) (fun _ i _ => m - (intOf i).toNat)
  case atStart => exact ⟨0, Nat.zero_le _, rfl, (by repeat (first | with_reducible exact New.refl _ | with_reducible assumption | with_reducible refine New.drew ?_ | with_reducible refine New.drewN ?_ _ | with_reducible refine New.alloc ?_ _ | with_reducible refine New.setCell ?_ (by first | (simp; done) | (simp; omega) | omega) _ | with_reducible refine New.trans ?_ (by with_reducible assumption))), (by have := own_empty (w := w.alloc (.cells #[.int .i64 (m : Int), s] 32)) (base := w.heap.size + 1) (e := 2) (sz := 1) (by rw [World.size_alloc]; exact Nat.le_refl _); simp only [World.size_alloc] at this; exact this)⟩
  case round =>
    obtain ⟨k, hk, rfl, hb, hown⟩ := hrel
    obtain ⟨cc, f'⟩ := hb.rules
    have hbz := hb.size
    simp only [World.size_alloc] at hbz
    have hb0 : New w wr := ((New.refl w).alloc _).trans hb
    have hww : w.heap.size < wr.heap.size := by omega
    by_cases hlt : k < m
    · have HN := Lib.hid (minTo_next m ps k)
      have HC := Lib.hid (fun (w0 : World) (h : RdI w0 s ps) => sCountQ_any m s ps k w0 h ⟨hn1, hn2⟩ hl4 HP.out)
      generalize countQ m ps k = c at *
      rcases Nat.eq_zero_or_pos c with h0 | h0
      · subst h0
        have hm0 : minQ ((0 : Nat) : Int) = 0 := rfl
        rw [hm0] at HN
        replace HN := Lib.hid HN.out
        clear hm0
        go_wp2_with fail
        refine (HC.out _ (HV.out.new (by repeat (first | with_reducible exact New.refl _ | with_reducible assumption | with_reducible refine New.drew ?_ | with_reducible refine New.drewN ?_ _ | with_reducible refine New.alloc ?_ _ | with_reducible refine New.setCell ?_ (by first | (simp; done) | (simp; omega) | omega) _ | with_reducible refine New.trans ?_ (by with_reducible assumption))))).mono ?_; rintro e w2 ⟨rfl, b2⟩
        try with_reducible replace b2 := New.undrawN b2
        try with_reducible replace b2 := New.undraw b2
        obtain ⟨c2, f2⟩ := b2.rules
        have z2 := b2.size
        try simp only [World.size_alloc, World.size_drew, World.heap_drewN, World.size_setCell] at z2
        go_wp2_with (first | (at_builtin; refine wpList_append_own _ rfl _ _ 24 rfl (w.heap.size + 1) 2 i0 (.int .i64 0) 1 8 Try.underlying24 hi hz0 hz1 hz2 rfl (by decide) _ _ _ rfl ((own_new hown b2).alloc _) ⟨w2.heap.size, 0, none⟩ 1 1 [.int .i64 (0)] rfl rfl (by intro j u hj; match j, hj with | 0, hj => simp at hj; subst hj; first | (simp [Addr.add]; done) | exact alloc_one rfl) (by intro u hu; simp at hu; subst hu; rfl) (by unfold maxLen; omega) (by omega) (by first | (simp; done) | (simp; omega) | omega) ?_; intro va wa howna hgra _))
        have ba := New.grown ((hb.trans b2).alloc _) hgra (fun q hq => by have := (own_block_lt hown q hq).1; simpa using this)
        go_roundw
        case rel => exact ⟨k + 1, by omega, by go_num, ba, by rw [HN.out, List.map_append]; exact howna⟩
        case measure => simp [intOf]; omega
      · have hm0 : minQ (c : Int) = 1 := by unfold minQ; rw [if_neg (by omega)]
        rw [hm0] at HN
        replace HN := Lib.hid HN.out
        clear hm0
        have hc1 : (1 : Int) ≤ (c : Int) := by omega
        go_wp2_with fail
        refine (HC.out _ (HV.out.new (by repeat (first | with_reducible exact New.refl _ | with_reducible assumption | with_reducible refine New.drew ?_ | with_reducible refine New.drewN ?_ _ | with_reducible refine New.alloc ?_ _ | with_reducible refine New.setCell ?_ (by first | (simp; done) | (simp; omega) | omega) _ | with_reducible refine New.trans ?_ (by with_reducible assumption))))).mono ?_; rintro e w2 ⟨rfl, b2⟩
        try with_reducible replace b2 := New.undrawN b2
        try with_reducible replace b2 := New.undraw b2
        obtain ⟨c2, f2⟩ := b2.rules
        have z2 := b2.size
        try simp only [World.size_alloc, World.size_drew, World.heap_drewN, World.size_setCell] at z2
        go_wp2_with (first | (at_builtin; refine wpList_append_own _ rfl _ _ 24 rfl (w.heap.size + 1) 2 i0 (.int .i64 0) 1 8 Try.underlying24 hi hz0 hz1 hz2 rfl (by decide) _ _ _ rfl ((own_new hown b2).alloc _) ⟨w2.heap.size, 0, none⟩ 1 1 [.int .i64 (1)] rfl rfl (by intro j u hj; match j, hj with | 0, hj => simp at hj; subst hj; first | (simp [Addr.add]; done) | exact alloc_one rfl) (by intro u hu; simp at hu; subst hu; rfl) (by unfold maxLen; omega) (by omega) (by first | (simp; done) | (simp; omega) | omega) ?_; intro va wa howna hgra _))
        have ba := New.grown ((hb.trans b2).alloc _) hgra (fun q hq => by have := (own_block_lt hown q hq).1; simpa using this)
        go_roundw
        case rel => exact ⟨k + 1, by omega, by go_num, ba, by rw [HN.out, List.map_append]; exact howna⟩
        case measure => simp [intOf]; omega
    · obtain rfl : k = m := by omega
      obtain ⟨g, cap, rfl⟩ : ∃ g cap, u7 = .slice (some ⟨g, 0, none⟩) k cap := by
        rcases hown.2 with ⟨_, h⟩ | ⟨g, cap, cur, h, _⟩
        · omega
        · exact ⟨g, cap, h⟩
      have hg := (own_block_lt hown g rfl).1
      have hown0 := hown
      rw [← HM.out] at hown0
      have hLen : (minL k ps).length = k := by rw [HM.out]; exact minTo_len _ _ _
      clear HM
      replace hown0 := Lib.hid hown0
      clear hown
      go_wp2_with fail
      generalize minL k ps = L at *
      go_loopw [9] (fun i wq => ∃ j : Nat, j ≤ fs.length ∧ i = .int .i64 j ∧ New (w.alloc (.cells #[.int .i64 (k : Int), s] 32)) wq ∧ wq.ownsRow (w.heap.size + 1) 2 1 (.slice (some ⟨g, 0, none⟩) k cap) k ((putF L ch (fs.take j)).map (Value.int .i64))) (fun i _ => fs.length - (intOf i).toNat)
      case atStart => exact ⟨0, Nat.zero_le _, rfl, hb, by simpa [putF] using hown0.out⟩
      case round =>
        rename World => wq
        obtain ⟨j, hj, rfl, hq, hco⟩ := hrel
        clear hown0
        obtain ⟨cq, fq⟩ := hq.rules
        have hqz := hq.size
        simp only [World.size_alloc] at hqz
        by_cases hlu : j < fs.length
        · obtain ⟨b, o, rfl, hbl, hx⟩ := HF.out j hlu
          have x0 := hx 0 _ (by omega) rfl
          have x1 := hx 1 _ (by omega) rfl
          have x2 := hx 2 _ (by omega) rfl
          rw [Nat.add_zero] at x0
          replace hx := Lib.hid hx
          have hbq : b < wq.heap.size := by omega
          have hbw : b < w.heap.size + 1 := by omega
          have hin := HFI.out fs[j] (List.getElem_mem hlu)
          have HY := Lib.hid (fun h => putF_yes (L := L) (ch := ch) hlu h)
          have HN := Lib.hid (fun h => putF_no (L := L) (ch := ch) hlu h)
          have hpl := putF_len ch (fs.take j) L
          generalize fs[j] = x at *
          obtain ⟨xb, xc, xv⟩ := x
          dsimp only at x0 x1 x2 hin HY HN
          obtain ⟨hi0, hi1⟩ := hin
          obtain ⟨p, rfl⟩ := Int.eq_ofNat_of_zero_le hi0
          simp only [Int.toNat_natCast] at hi1 HY
          rcases Bool.eq_false_or_eq_true (xc == ch) with hc | hc
          · have hy := HY.out hc
            have hcell : wq.cell? ⟨g, p, none⟩ = some (.int .i64 ((putF L ch (fs.take j))[p]'(by omega))) := by rw [hco.cellAt p (by omega)]; first | (simp; done) | (simp; omega)
            have hfz := hco.frozenAt p
            have hst := (hco.stored p (.int .i64 xv)).1
            rw [← List.map_set, ← hy] at hst
            replace hst := Lib.hid hst
            replace hco := Lib.hid hco
            clear hy HY HN
            go_wp2_with fail
            refine wp_region_still_tail 12 (by kernel_rfl) (by kernel_rfl) ?_
            simp only [World.drew_eq, List.take_succ_cons, List.take_zero, List.drop_succ_cons, List.drop_zero]
            repeat (first | still_step)
            refine wpStill_nil ?_
            go_wp2_with fail
            go_roundw
            case rel => exact ⟨j + 1, by omega, by go_num, (hq.setCell (by simp; omega) _).drew, own_new hst.out (New.refl _).drew⟩
            case measure => simp [intOf]; omega
          · have hy := HN.out hc
            rw [← hy] at hco
            replace hco := Lib.hid hco
            clear hy HY HN
            go_wp2_with fail
            go_roundw
            case rel => exact ⟨j + 1, by omega, by go_num, hq, hco.out⟩
            case measure => simp [intOf]; omega
        · obtain rfl : j = fs.length := by omega
          rw [List.take_length] at hco
          go_wp2_with fail
          go_ret
          exact ⟨_, rfl, ((New.refl w).alloc _).trans hq, own_base hco (by omega)⟩
def RetRep2 (w : World) (f s : List Int) (e : Ending) (w' : World) : Prop := ∃ ua uc va vc, e = .returned (.agg #[.slice ua f.length uc, .slice va s.length vc]) ∧ New w w' ∧ w'.ownsRow w.heap.size 2 1 (.slice ua f.length uc) f.length (f.map (Value.int .i64)) ∧ w'.ownsRow w.heap.size 2 1 (.slice va s.length vc) s.length (s.map (Value.int .i64))
set_option maxHeartbeats 2000000 in
theorem sReport_any (m : Nat) (s fv : Value) (ps : List Int) (fs : List ESensorFault) (w : World) (hv : RdI w s ps) (hf : Rd w fv fs.length (fs.flatMap encSensorFault)) (h1 : isTraf m ps = true) (hfi : ∀ x ∈ fs, 0 ≤ x.blk ∧ x.blk.toNat < m) :
    Calls Try.prog 68 #[.agg #[.int .i64 (m : Int), s], fv] w (RetRep2 w (putF (minL m ps) 0 fs) (putF (minL m ps) 1 fs)) := by
  have HV := Lib.hid hv
  have HF := Lib.hid hf
  have HC0 := Lib.hid (fun (w0 : World) (h : RdI w0 s ps) (k : Rd w0 fv fs.length (fs.flatMap encSensorFault)) => sChannel_any m s fv ps fs 0 w0 h k h1 hfi)
  have HC1 := Lib.hid (fun (w0 : World) (h : RdI w0 s ps) (k : Rd w0 fv fs.length (fs.flatMap encSensorFault)) => sChannel_any m s fv ps fs 1 w0 h k h1 hfi)
  obtain ⟨sa, sc, rfl, hsm, _⟩ := hv
  have e0 : (putF (minL m ps) 0 fs).length = m := by rw [putF_len]; exact minTo_len _ _ _
  have e1 : (putF (minL m ps) 1 fs).length = m := by rw [putF_len]; exact minTo_len _ _ _
  clear hf h1 hfi hsm
  generalize putF (minL m ps) 0 fs = F0 at *
  generalize putF (minL m ps) 1 fs = F1 at *
  subst e0
  replace e1 := Lib.hid e1
  go_enter Try.func68, Try.ntmps68
  go_wp2_with fail
  refine RG.wp_facts [fun X _ => X = .agg #[.int .i64 F0.length, .slice sa ps.length sc], fun X _ => X = fv, fun X W' => ∃ q c, X = .slice q F0.length c ∧ W'.ownsRow (w.heap.size + 1 + 1) 2 1 (.slice q F0.length c) F0.length (F0.map (Value.int .i64)), fun X _ => X = .agg #[.int .i64 F0.length, .slice sa ps.length sc], fun X _ => X = fv, fun X W' => ∃ q c, X = .slice q F0.length c ∧ W'.ownsRow (w.heap.size + 1 + 1) 2 1 (.slice q F0.length c) F0.length (F1.map (Value.int .i64)), fun X W' => ∃ q c p l, X = .agg #[.slice q F0.length c, .slice p F0.length l] ∧ W'.ownsRow (w.heap.size + 1 + 1) 2 1 (.slice q F0.length c) F0.length (F0.map (Value.int .i64)) ∧ W'.ownsRow (w.heap.size + 1 + 1) 2 1 (.slice p F0.length l) F0.length (F1.map (Value.int .i64))] (by kernel_rfl) (by kernel_rfl) ⟨RG.stable_eq _, RG.stable_eq _, fun X w0 w1 hn ⟨q7, k7, t7, r7⟩ => ⟨q7, k7, t7, own_new r7 hn⟩, RG.stable_eq _, RG.stable_eq _, fun X w0 w1 hn ⟨q10, k10, t10, r10⟩ => ⟨q10, k10, t10, own_new r10 hn⟩, fun X w0 w1 hn ⟨q1, k1, p1, l1, t11, r1, s1⟩ => ⟨q1, k1, p1, l1, t11, own_new r1 hn, own_new s1 hn⟩, trivial⟩ ?_ ?_
  · refine ⟨?_, ?_, ?_, ?_, ?_, ?_, ?_, trivial⟩
    · intro a w9 hw ho hk
      refine .inl ⟨by rfl, ?_⟩
      have t2 := ho 2 rfl
      dsimp at t2
      try with_reducible replace hw := New.undrawN hw
      try with_reducible replace hw := New.undraw hw
      obtain ⟨c, f'⟩ := hw.rules
      go_simp
      exact New.refl _
    · intro a w9 hw ho hk
      refine .inl ⟨by rfl, ?_⟩
      have t2 := ho 1 rfl
      dsimp at t2
      try with_reducible replace hw := New.undrawN hw
      try with_reducible replace hw := New.undraw hw
      obtain ⟨c, f'⟩ := hw.rules
      go_simp
      exact New.refl _
    · intro a w9 hw ho hk
      refine .inl ⟨by rfl, ?_⟩
      have t5 : a.tmps[5]?.getD undef = .agg #[.int .i64 F0.length, .slice sa ps.length sc] := hk 0 5 (by kernel_rfl) rfl
      have t6 : a.tmps[6]?.getD undef = fv := hk 1 6 (by kernel_rfl) rfl
      go_simp
      refine (HC0.out _ (HV.out.new (by repeat (first | with_reducible exact New.refl _ | with_reducible assumption | with_reducible refine New.drew ?_ | with_reducible refine New.drewN ?_ _ | with_reducible refine New.alloc ?_ _ | with_reducible refine New.setCell ?_ (by first | (simp; done) | (simp; omega) | omega) _ | with_reducible refine New.trans ?_ (by with_reducible assumption)))) (HF.out.new (by repeat (first | with_reducible exact New.refl _ | with_reducible assumption | with_reducible refine New.drew ?_ | with_reducible refine New.drewN ?_ _ | with_reducible refine New.alloc ?_ _ | with_reducible refine New.setCell ?_ (by first | (simp; done) | (simp; omega) | omega) _ | with_reducible refine New.trans ?_ (by with_reducible assumption))))).mono ?_; rintro e w2 ⟨r, rfl, hb, o1⟩
      obtain ⟨qa, qc, rfl⟩ := own_slice o1; have hsz : w.heap.size + 1 + 1 ≤ w9.heap.size := (by have := hw.size; simp at this; omega); first | exact ⟨hb, _, rfl, _, _, rfl, own_base o1 hsz⟩ | exact ⟨hb, _, _, by simp, own_base o1 hsz⟩ | exact ⟨hb, qa, qc, by simp, own_base o1 hsz⟩
    · intro a w9 hw ho hk
      refine .inl ⟨by rfl, ?_⟩
      have t2 := ho 2 rfl
      dsimp at t2
      try with_reducible replace hw := New.undrawN hw
      try with_reducible replace hw := New.undraw hw
      obtain ⟨c, f'⟩ := hw.rules
      go_simp
      exact New.refl _
    · intro a w9 hw ho hk
      refine .inl ⟨by rfl, ?_⟩
      have t2 := ho 1 rfl
      dsimp at t2
      try with_reducible replace hw := New.undrawN hw
      try with_reducible replace hw := New.undraw hw
      obtain ⟨c, f'⟩ := hw.rules
      go_simp
      exact New.refl _
    · intro a w9 hw ho hk
      refine .inl ⟨by rfl, ?_⟩
      have t8 : a.tmps[8]?.getD undef = .agg #[.int .i64 F0.length, .slice sa ps.length sc] := hk 3 8 (by kernel_rfl) rfl
      have t9 : a.tmps[9]?.getD undef = fv := hk 4 9 (by kernel_rfl) rfl
      go_simp
      refine (HC1.out _ (HV.out.new (by repeat (first | with_reducible exact New.refl _ | with_reducible assumption | with_reducible refine New.drew ?_ | with_reducible refine New.drewN ?_ _ | with_reducible refine New.alloc ?_ _ | with_reducible refine New.setCell ?_ (by first | (simp; done) | (simp; omega) | omega) _ | with_reducible refine New.trans ?_ (by with_reducible assumption)))) (HF.out.new (by repeat (first | with_reducible exact New.refl _ | with_reducible assumption | with_reducible refine New.drew ?_ | with_reducible refine New.drewN ?_ _ | with_reducible refine New.alloc ?_ _ | with_reducible refine New.setCell ?_ (by first | (simp; done) | (simp; omega) | omega) _ | with_reducible refine New.trans ?_ (by with_reducible assumption))))).mono ?_; rintro e w2 ⟨r, rfl, hb, o1⟩
      obtain ⟨qa, qc, rfl⟩ := own_slice o1; have hsz : w.heap.size + 1 + 1 ≤ w9.heap.size := (by have := hw.size; simp at this; omega); first | exact ⟨hb, _, rfl, _, _, rfl, own_base o1 hsz⟩ | exact ⟨hb, _, _, by simp, own_base o1 hsz⟩ | exact ⟨hb, qa, qc, by simp, own_base o1 hsz⟩
    · intro a w9 hw ho hk
      refine .inl ⟨by rfl, ?_⟩
      obtain ⟨q7, k7, t7, r7⟩ : ∃ q c, (a.tmps[7]?.getD undef) = .slice q F0.length c ∧ w9.ownsRow (w.heap.size + 1 + 1) 2 1 (.slice q F0.length c) F0.length (F0.map (Value.int .i64)) := hk 2 7 (by kernel_rfl) rfl
      obtain ⟨q10, k10, t10, r10⟩ : ∃ q c, (a.tmps[10]?.getD undef) = .slice q F0.length c ∧ w9.ownsRow (w.heap.size + 1 + 1) 2 1 (.slice q F0.length c) F0.length (F1.map (Value.int .i64)) := hk 5 10 (by kernel_rfl) rfl
      go_simp
      first | exact ⟨New.refl _, _, rfl, _, _, _, _, rfl, r7, r10⟩ | exact ⟨New.refl _, q7, k7, q10, k10, by simp, r7, r10⟩
  intro w3 b3 x0 h0 x1 h1 x2 h2 x3 h3 x4 h4 x5 h5 x6 h6
  obtain ⟨q, c, p, l, rfl, o1, o2⟩ := h6
  replace o1 := Lib.hid o1
  replace o2 := Lib.hid o2
  try with_reducible replace b3 := New.undrawN b3
  try with_reducible replace b3 := New.undraw b3
  obtain ⟨c3, f3⟩ := b3.rules
  have z3 := b3.size
  try simp only [World.size_alloc, World.size_drew, World.heap_drewN, World.size_setCell] at z3
  have z3_0 : w.heap.size < w3.heap.size := by omega
  have z3_1 : w.heap.size + 1 < w3.heap.size := by omega
  simp only [RG.EndAll, List.nil_append, List.cons_append, List.length_cons, List.length_nil, Nat.zero_add, Nat.reduceAdd, List.take_succ_cons, List.take_zero, List.drop_succ_cons, List.drop_zero, RG.putAll, Act.put, List.setIfInBounds_toArray, List.set_cons_succ, List.set_cons_zero]
  go_wp2_with fail
  have e2 := e1.out
  refine bodyPost_ret (v := .agg #[.slice q F0.length c, .slice p F0.length l]) (by simp [results, Try.results68, go_sem, c3, f3, z3_0, z3_1]) rfl ⟨q, c, p, l, by rw [e2], (by repeat (first | with_reducible exact New.refl _ | with_reducible assumption | with_reducible refine New.drew ?_ | with_reducible refine New.drewN ?_ _ | with_reducible refine New.alloc ?_ _ | with_reducible refine New.setCell ?_ (by first | (simp; done) | (simp; omega) | omega) _ | with_reducible refine New.trans ?_ (by with_reducible assumption))), ?_, ?_⟩
  · refine own_base (base := w.heap.size + 1 + 1) ?_ (by omega)
    iterate 2 apply ownsRow_setCell_below
    exact o1.out
    all_goals (dsimp; omega)
  · rw [e2]
    refine own_base (base := w.heap.size + 1 + 1) ?_ (by omega)
    iterate 2 apply ownsRow_setCell_below
    exact o2.out
    all_goals (dsimp; omega)
set_option maxHeartbeats 1000000 in
theorem cloneI_any (v : Value) (xs : List Int) (w : World) (hv : RdI w v xs) (hn : xs.length ≤ 1048576) :
    Calls Try.prog 120 #[v] w (RetSlice w 2 1 xs.length (xs.map (Value.int .i64))) := by
  obtain ⟨i0, hi, hz0, hz1, hz2⟩ := info_parts infoInt
  have HV := Lib.hid hv
  obtain ⟨a, cap, rfl, hm, ⟨hno, _⟩, _⟩ := hv
  have hnil := fun (w : World) (a : Option Addr) (n c : Nat) => Lib.run_eql_slice_nil (P := Try.prog) w 24 2 a n c 0 0 Try.underlying24
  cases a with
  | none =>
    have hx : xs = [] := List.eq_nil_of_length_eq_zero (hno rfl)
    subst hx
    go_enter Try.func120, Try.ntmps120
    go_wp2_with fail
    go_ret
    exact ⟨_, rfl, (by repeat (first | with_reducible exact New.refl _ | with_reducible assumption | with_reducible refine New.drew ?_ | with_reducible refine New.drewN ?_ _ | with_reducible refine New.alloc ?_ _ | with_reducible refine New.setCell ?_ (by first | (simp; done) | (simp; omega) | omega) _ | with_reducible refine New.trans ?_ (by with_reducible assumption))), ⟨rfl, .inl ⟨rfl, rfl⟩⟩⟩
  | some ad =>
    have own0 : (w.alloc (.cells #[] 2)).ownsRow w.heap.size 2 1 (.slice (some ⟨w.heap.size, 0, none⟩) 0 0) 0 [] := own_empty (Nat.le_refl _)
    go_enter Try.func120, Try.ntmps120
    go_wp2_with (at_builtin; refine wpList_append_rd rfl _ _ 24 rfl w.heap.size 2 i0 (.int .i64 0) 1 8 Try.underlying24 hi hz0 hz1 hz2 rfl (by decide) _ _ _ rfl own0 _ xs.length (xs.map (Value.int .i64)) rfl (Rd.new HV.out (by repeat (first | with_reducible exact New.refl _ | with_reducible assumption | with_reducible refine New.drew ?_ | with_reducible refine New.drewN ?_ _ | with_reducible refine New.alloc ?_ _ | with_reducible refine New.setCell ?_ (by first | (simp; done) | (simp; omega) | omega) _ | with_reducible refine New.trans ?_ (by with_reducible assumption)))) (by simp) (by intro u hu; obtain ⟨y, _, rfl⟩ := List.mem_map.1 hu; rfl) (by unfold maxLen; omega) (by omega) (by first | (simp; done) | (simp; omega) | omega) ?_; intro va wa howna hgra)
    have ba := New.grown (show New w _ by exact (by repeat (first | with_reducible exact New.refl _ | with_reducible assumption | with_reducible refine New.drew ?_ | with_reducible refine New.drewN ?_ _ | with_reducible refine New.alloc ?_ _ | with_reducible refine New.setCell ?_ (by first | (simp; done) | (simp; omega) | omega) _ | with_reducible refine New.trans ?_ (by with_reducible assumption)))) hgra (fun q hq => by have := (own_block_lt own0 q hq).1; simpa using this)
    go_ret
    exact ⟨_, rfl, ba, by simpa using howna⟩
def repR (n : Int) (ps : List Int) (fs : List ESensorFault) : (List Int × List Int) × Int :=
  if isTraf n ps = true then (if faultsOk n fs = true then ((putF (minL n ps) 0 fs, putF (minL n ps) 1 fs), 0) else (([], []), 2)) else (([], []), 1)
def RetRepC (w : World) (R : (List Int × List Int) × Int) (e : Ending) (w' : World) : Prop := ∃ u v, e = .returned (.tuple #[.agg #[u, v], .int .i64 R.2]) ∧ New w w' ∧ w'.ownsRow w.heap.size 2 1 u R.1.1.length (R.1.1.map (Value.int .i64)) ∧ w'.ownsRow w.heap.size 2 1 v R.1.2.length (R.1.2.map (Value.int .i64))
def minK (n : Int) (ps : List Int) (m k : Nat) : List Int := minTo n ps k ++ List.replicate (m - k) 0
theorem minK_len {n : Int} {ps : List Int} {m k : Nat} (h : k ≤ m) : (minK n ps m k).length = m := by rw [minK, List.length_append, minTo_len, List.length_replicate]; omega
theorem minK_at {n : Int} {ps : List Int} {m k : Nat} (h : k < m) : (minK n ps m k)[k]? = some 0 := by
  rw [minK, List.getElem?_append_right (by rw [minTo_len]; omega), minTo_len, Nat.sub_self, List.getElem?_replicate, if_pos (by omega)]
theorem minK_set {n : Int} {ps : List Int} {m k : Nat} (h : k < m) : (minK n ps m k).set k (minQ (countQ n ps k)) = minK n ps m (k + 1) := by
  rw [minK, minK, minTo_next, List.set_append, if_neg (by rw [minTo_len]; omega), minTo_len, Nat.sub_self, show m - k = (m - (k + 1)) + 1 by omega, List.replicate_succ, List.set_cons_zero, List.append_assoc]
  rfl
theorem minK_all (n : Int) (ps : List Int) (m : Nat) : minK n ps m m = minTo n ps m := by simp [minK]
theorem minK_zero (n : Int) (ps : List Int) (m : Nat) : minK n ps m 0 = List.replicate m 0 := by simp [minK, minTo, loadsTo]
theorem faults_in {n : Int} {fs : List ESensorFault} (hn : 2 ≤ n ∧ n ≤ 8) (h : faultsOk n fs = true) : ∀ x ∈ fs, 0 ≤ x.blk ∧ x.blk.toNat < n.toNat := by
  intro x hx
  obtain ⟨k, hk, rfl⟩ := List.mem_iff_getElem.1 hx
  have hw : wrap64 (n - 1) = n - 1 := by unfold wrap64; omega
  simp only [faultsOk, allUp, Bool.and_eq_true, List.all_eq_true, hw] at h
  have h1 := h.1 k (List.mem_range.2 hk)
  rw [pF_at hk, Bool.and_eq_true, okF, Bool.and_eq_true, Bool.and_eq_true] at h1
  have := inB_iff.1 h1.1.1.1
  omega
set_option maxHeartbeats 1000000 in
theorem sReportOf_any (n : Int) (s fv : Value) (ps : List Int) (fs : List ESensorFault) (w : World) (hv : RdI w s ps) (hf : Rd w fv fs.length (fs.flatMap encSensorFault)) :
    Calls Try.prog 43 #[.agg #[.int .i64 n, s], fv] w (RetRepC w (repR n ps fs)) := by
  have HV := Lib.hid hv
  have HF := Lib.hid hf
  obtain ⟨sa, sc, rfl, hsm, _⟩ := hv
  clear hf hsm
  rcases Bool.eq_false_or_eq_true (isTraf n ps) with h1 | h1
  · obtain ⟨hn, _⟩ := isTraf_ok h1
    rcases Bool.eq_false_or_eq_true (faultsOk n fs) with h2 | h2
    · have hfi := faults_in hn h2
      have ha : areFaultsL n fs = true := by rw [areFaultsL, h2, inB_iff.2 hn]; rfl
      have HR := Lib.hid (show repR n ps fs = ((putF (minL n ps) 0 fs, putF (minL n ps) 1 fs), 0) by rw [repR, if_pos h1, if_pos h2])
      have hnn : n = (n.toNat : Int) := by omega
      generalize n.toNat = m at *
      subst hnn
      have HC := Lib.hid (fun (w0 : World) (h : RdI w0 (.slice sa ps.length sc) ps) (k : Rd w0 fv fs.length (fs.flatMap encSensorFault)) => sReport_any m (.slice sa ps.length sc) fv ps fs w0 h k h1 (by simpa using hfi))
      clear hfi h2
      go_enter Try.func43, Try.ntmps43
      go_wp2_with fail
      refine (sIsTraffic_any m _ ps _ (HV.out.new (by repeat (first | with_reducible exact New.refl _ | with_reducible assumption | with_reducible refine New.drew ?_ | with_reducible refine New.drewN ?_ _ | with_reducible refine New.alloc ?_ _ | with_reducible refine New.setCell ?_ (by first | (simp; done) | (simp; omega) | omega) _ | with_reducible refine New.trans ?_ (by with_reducible assumption))))).mono ?_; rintro e w1 ⟨rfl, b1⟩
      try with_reducible replace b1 := New.undrawN b1
      try with_reducible replace b1 := New.undraw b1
      obtain ⟨c1, f1⟩ := b1.rules
      have z1 := b1.size
      try simp only [World.size_alloc, World.size_drew, World.heap_drewN, World.size_setCell] at z1
      have z1_0 : w.heap.size < w1.heap.size := by omega
      have z1_1 : w.heap.size + 1 < w1.heap.size := by omega
      go_wp2_with fail
      refine (sAreFaults_any m fv fs _ (HF.out.new (by repeat (first | with_reducible exact New.refl _ | with_reducible assumption | with_reducible refine New.drew ?_ | with_reducible refine New.drewN ?_ _ | with_reducible refine New.alloc ?_ _ | with_reducible refine New.setCell ?_ (by first | (simp; done) | (simp; omega) | omega) _ | with_reducible refine New.trans ?_ (by with_reducible assumption))))).mono ?_; rintro e w2 ⟨rfl, b2⟩
      try with_reducible replace b2 := New.undrawN b2
      try with_reducible replace b2 := New.undraw b2
      obtain ⟨c2, f2⟩ := b2.rules
      have z2 := b2.size
      try simp only [World.size_alloc, World.size_drew, World.heap_drewN, World.size_setCell] at z2
      have z2_0 : w.heap.size < w2.heap.size := by omega
      have z2_1 : w.heap.size + 1 < w2.heap.size := by omega
      go_wp2_with fail
      refine (HC.out _ (HV.out.new (by repeat (first | with_reducible exact New.refl _ | with_reducible assumption | with_reducible refine New.drew ?_ | with_reducible refine New.drewN ?_ _ | with_reducible refine New.alloc ?_ _ | with_reducible refine New.setCell ?_ (by first | (simp; done) | (simp; omega) | omega) _ | with_reducible refine New.trans ?_ (by with_reducible assumption)))) (HF.out.new (by repeat (first | with_reducible exact New.refl _ | with_reducible assumption | with_reducible refine New.drew ?_ | with_reducible refine New.drewN ?_ _ | with_reducible refine New.alloc ?_ _ | with_reducible refine New.setCell ?_ (by first | (simp; done) | (simp; omega) | omega) _ | with_reducible refine New.trans ?_ (by with_reducible assumption))))).mono ?_; rintro e w3 ⟨ua, uc, va, vc, rfl, b3, o1, o2⟩
      replace o1 := Lib.hid o1; replace o2 := Lib.hid o2
      obtain ⟨c3, f3⟩ := b3.rules
      have z3 := b3.size
      try simp only [World.size_alloc, World.size_drew, World.heap_drewN, World.size_setCell] at z3
      have z3_0 : w.heap.size < w3.heap.size := by omega
      have z3_1 : w.heap.size + 1 < w3.heap.size := by omega
      go_wp2_with fail
      rw [HR.out]
      refine bodyPost_ret (v := .tuple #[.agg #[.slice ua (putF (minL m ps) 0 fs).length uc, .slice va (putF (minL m ps) 1 fs).length vc], .int .i64 0]) (by simp [results, Try.results43, go_sem, c3, f3, z3_0, z3_1, c2, f2, z2_0, z2_1, c1, f1, z1_0, z1_1]) rfl ⟨_, _, rfl, (by repeat (first | with_reducible exact New.refl _ | with_reducible assumption | with_reducible refine New.drew ?_ | with_reducible refine New.drewN ?_ _ | with_reducible refine New.alloc ?_ _ | with_reducible refine New.setCell ?_ (by first | (simp; done) | (simp; omega) | omega) _ | with_reducible refine New.trans ?_ (by with_reducible assumption))), ?_, ?_⟩
      · have p1 := o1.out
        exact (by apply own_base; (repeat (first | with_reducible exact p1 | with_reducible apply ownsRow_setCell_below | with_reducible refine World.ownsRow.alloc ?_ _ | with_reducible refine own_new ?_ (by with_reducible assumption))); all_goals (first | (simp; done) | (simp; omega) | omega))
      · have p1 := o2.out
        exact (by apply own_base; (repeat (first | with_reducible exact p1 | with_reducible apply ownsRow_setCell_below | with_reducible refine World.ownsRow.alloc ?_ _ | with_reducible refine own_new ?_ (by with_reducible assumption))); all_goals (first | (simp; done) | (simp; omega) | omega))
    · have HR := Lib.hid (show repR n ps fs = (([], []), 2) by rw [repR, if_pos h1, if_neg (by rw [h2]; simp)])
      have ha : areFaultsL n fs = false := by rw [areFaultsL, h2]; simp
      go_enter Try.func43, Try.ntmps43
      go_wp2_with fail
      refine (sIsTraffic_any n _ ps _ (HV.out.new (by repeat (first | with_reducible exact New.refl _ | with_reducible assumption | with_reducible refine New.drew ?_ | with_reducible refine New.drewN ?_ _ | with_reducible refine New.alloc ?_ _ | with_reducible refine New.setCell ?_ (by first | (simp; done) | (simp; omega) | omega) _ | with_reducible refine New.trans ?_ (by with_reducible assumption))))).mono ?_; rintro e w1 ⟨rfl, b1⟩
      try with_reducible replace b1 := New.undrawN b1
      try with_reducible replace b1 := New.undraw b1
      obtain ⟨c1, f1⟩ := b1.rules
      have z1 := b1.size
      try simp only [World.size_alloc, World.size_drew, World.heap_drewN, World.size_setCell] at z1
      have z1_0 : w.heap.size < w1.heap.size := by omega
      have z1_1 : w.heap.size + 1 < w1.heap.size := by omega
      go_wp2_with fail
      refine (sAreFaults_any n fv fs _ (HF.out.new (by repeat (first | with_reducible exact New.refl _ | with_reducible assumption | with_reducible refine New.drew ?_ | with_reducible refine New.drewN ?_ _ | with_reducible refine New.alloc ?_ _ | with_reducible refine New.setCell ?_ (by first | (simp; done) | (simp; omega) | omega) _ | with_reducible refine New.trans ?_ (by with_reducible assumption))))).mono ?_; rintro e w2 ⟨rfl, b2⟩
      try with_reducible replace b2 := New.undrawN b2
      try with_reducible replace b2 := New.undraw b2
      obtain ⟨c2, f2⟩ := b2.rules
      have z2 := b2.size
      try simp only [World.size_alloc, World.size_drew, World.heap_drewN, World.size_setCell] at z2
      have z2_0 : w.heap.size < w2.heap.size := by omega
      have z2_1 : w.heap.size + 1 < w2.heap.size := by omega
      go_wp2_with fail
      rw [HR.out]
      exact bodyPost_ret (v := .tuple #[.agg #[.slice none 0 0, .slice none 0 0], .int .i64 2]) (by simp [results, Try.results43, go_sem, c2, f2, z2_0, z2_1, c1, f1, z1_0, z1_1]) rfl ⟨_, _, rfl, (by repeat (first | with_reducible exact New.refl _ | with_reducible assumption | with_reducible refine New.drew ?_ | with_reducible refine New.drewN ?_ _ | with_reducible refine New.alloc ?_ _ | with_reducible refine New.setCell ?_ (by first | (simp; done) | (simp; omega) | omega) _ | with_reducible refine New.trans ?_ (by with_reducible assumption))), World.ownsRow_nil _ _ _ _, World.ownsRow_nil _ _ _ _⟩
  · have HR := Lib.hid (show repR n ps fs = (([], []), 1) by rw [repR, if_neg (by rw [h1]; simp)])
    go_enter Try.func43, Try.ntmps43
    go_wp2_with fail
    refine (sIsTraffic_any n _ ps _ (HV.out.new (by repeat (first | with_reducible exact New.refl _ | with_reducible assumption | with_reducible refine New.drew ?_ | with_reducible refine New.drewN ?_ _ | with_reducible refine New.alloc ?_ _ | with_reducible refine New.setCell ?_ (by first | (simp; done) | (simp; omega) | omega) _ | with_reducible refine New.trans ?_ (by with_reducible assumption))))).mono ?_; rintro e w1 ⟨rfl, b1⟩
    try with_reducible replace b1 := New.undrawN b1
    try with_reducible replace b1 := New.undraw b1
    obtain ⟨c1, f1⟩ := b1.rules
    have z1 := b1.size
    try simp only [World.size_alloc, World.size_drew, World.heap_drewN, World.size_setCell] at z1
    have z1_0 : w.heap.size < w1.heap.size := by omega
    have z1_1 : w.heap.size + 1 < w1.heap.size := by omega
    go_wp2_with fail
    rw [HR.out]
    exact bodyPost_ret (v := .tuple #[.agg #[.slice none 0 0, .slice none 0 0], .int .i64 1]) (by simp [results, Try.results43, go_sem, c1, f1, z1_0, z1_1]) rfl ⟨_, _, rfl, (by repeat (first | with_reducible exact New.refl _ | with_reducible assumption | with_reducible refine New.drew ?_ | with_reducible refine New.drewN ?_ _ | with_reducible refine New.alloc ?_ _ | with_reducible refine New.setCell ?_ (by first | (simp; done) | (simp; omega) | omega) _ | with_reducible refine New.trans ?_ (by with_reducible assumption))), World.ownsRow_nil _ _ _ _, World.ownsRow_nil _ _ _ _⟩
theorem own_other {w : World} {base : Nat} {e : TypeId} {sz : Nat} {v : Value} {n : Nat} {cs : List Value} (h : w.ownsRow base e sz v n cs) {g o : Nat} (hg : ∀ b, v.ownBlock = some b → b ≠ g) (u : Value) : (w.setCell ⟨g, o, none⟩ u).ownsRow base e sz v n cs := by
  refine ⟨h.1, ?_⟩
  rcases h.2 with hn | ⟨b, cap, cur, rfl, hb, hbb, rest⟩
  · exact .inl hn
  · exact .inr ⟨b, cap, cur, rfl, hb, (Below.heap_setCell _ _ _ _ (hg b rfl)).trans hbb, rest⟩
def RetRepS (w : World) (m : Nat) (f s : List Int) (e : Ending) (w' : World) : Prop := ∃ ua uc va vc, e = .returned (.agg #[.slice ua m uc, .slice va m vc]) ∧ New w w' ∧ w'.ownsRow w.heap.size 2 1 (.slice ua m uc) m (f.map (Value.int .i64)) ∧ ∃ B, w.heap.size ≤ B ∧ (∀ k, (Value.slice ua m uc).ownBlock = some k → k < B) ∧ w'.ownsRow B 2 1 (.slice va m vc) m (s.map (Value.int .i64))
set_option maxHeartbeats 4000000 in
theorem iReport_any (m : Nat) (s fv : Value) (ps : List Int) (fs : List ESensorFault) (w : World) (hv : RdI w s ps) (hf : Rd w fv fs.length (fs.flatMap encSensorFault)) (h1 : isTraf m ps = true) (hfi : ∀ x ∈ fs, (0 ≤ x.blk ∧ x.blk.toNat < m) ∧ (x.chan = 0 ∨ x.chan = 1)) :
    Calls Try.prog 98 #[.agg #[.int .i64 (m : Int), s], fv] w (RetRepS w m (putF (minL m ps) 0 fs) (putF (minL m ps) 1 fs)) := by
  obtain ⟨i0, hi, hz0, hz1, hz2⟩ := info_parts infoInt
  have HV := Lib.hid hv
  have HFI := Lib.hid hfi; clear hfi
  obtain ⟨fa, fc, rfl, hfm, HF⟩ := Rd.flat encSensorFault_len (by omega) hf
  clear hf
  obtain ⟨sa, sc, rfl, hsm, _⟩ := hv
  clear hsm
  have HIL := Lib.hid (fun (w0 : World) (h : RdI w0 (.slice sa ps.length sc) ps) => iLoads_any m (.slice sa ps.length sc) ps w0 h h1)
  have hLQ : (loadsQ m ps).length = m := loadsTo_len _ _ _
  obtain ⟨⟨hn1, hn2⟩, _⟩ := isTraf_ok h1
  have HLQ := Lib.hid hLQ
  clear h1
  go_enter Try.func98, Try.ntmps98
  go_wp2_with (at_make; refine wpList_make_full _ rfl _ _ 24 rfl (w.heap.size + 1 + 1) 2 i0 (.int .i64 0) 1 Try.underlying24 hi hz0 hz1 .i64 .i64 _ _ m rfl rfl rfl rfl (by rw [hz2]; omega) (by unfold maxLen; omega) (by simp) ?_; intro w1 hown hgr; have b1 : New ((w.alloc (.cells #[.int .i64 (m : Int), .slice sa ps.length sc] 32)).alloc (.cells #[.slice none 0 0, .slice none 0 0] 26)) w1 := (New.refl _).grown hgr (fun k hk => by cases hk); obtain ⟨c1, f1⟩ := b1.rules; have z1 := b1.size; simp only [World.size_alloc] at z1)
  have hown1 : w1.ownsRow (w.heap.size + 1 + 1) 2 1 (.slice (some ⟨w.heap.size + 1 + 1, 0, none⟩) m m) m ((minK m ps m 0).map (Value.int .i64)) := by
    have e : (madeCells (Value.int .i64 0).cells (m * 1)).toList = (List.replicate m (0 : Int)).map (Value.int .i64) := by
      rw [show (Value.int .i64 0).cells = #[.int .i64 0] from rfl, toList_madeCells_one]; simp
    rw [minK_zero, ← e]; have := hown; simp only [World.size_alloc] at this; exact this
  have hlt1 := (own_block_lt hown1 _ rfl).2
  replace hown1 := Lib.hid hown1
  clear hown hgr
  refine (HIL.out _ (HV.out.new (by repeat (first | with_reducible exact New.refl _ | with_reducible assumption | with_reducible refine New.drew ?_ | with_reducible refine New.drewN ?_ _ | with_reducible refine New.alloc ?_ _ | with_reducible refine New.setCell ?_ (by first | (simp; done) | (simp; omega) | omega) _ | with_reducible refine New.trans ?_ (by with_reducible assumption))))).mono ?_; rintro e w2 ⟨r2, rfl, b2, own2⟩
  obtain ⟨qa, qc, rfl⟩ := own_slice own2; replace own2 := Lib.hid own2
  obtain ⟨c2, f2⟩ := b2.rules
  have z2 := b2.size
  try simp only [World.size_alloc, World.size_drew, World.heap_drewN, World.size_setCell] at z2
  have z2_0 : w.heap.size < w2.heap.size := by omega
  have z2_1 : w.heap.size + 1 < w2.heap.size := by omega
  go_wp2_with fail
  have n2 : New ((w.alloc (.cells #[.int .i64 (m : Int), .slice sa ps.length sc] 32)).alloc (.cells #[.slice none 0 0, .slice none 0 0] 26)) w2 := b1.trans b2
  have o2g := own_new hown1.out b2
  replace o2g := Lib.hid o2g
  have zz2 : w1.heap.size ≤ w2.heap.size := b2.size
  clear hown1 c1 f1 c2 f2
  go_loopw [17] (fun i wr => ∃ k : Nat, k ≤ m ∧ i = .int .i64 k ∧ New ((w.alloc (.cells #[.int .i64 (m : Int), .slice sa ps.length sc] 32)).alloc (.cells #[.slice none 0 0, .slice none 0 0] 26)) wr ∧ wr.ownsRow (w.heap.size + 1 + 1) 2 1 (.slice (some ⟨w.heap.size + 1 + 1, 0, none⟩) m m) m ((minK m ps m k).map (Value.int .i64)) ∧ wr.ownsRow (w1.heap.size + 1) 2 1 (.slice qa (loadsQ m ps).length qc) (loadsQ m ps).length ((loadsQ m ps).map (Value.int .i64))) (fun i _ => m - (intOf i).toNat)
  case atStart => exact ⟨0, Nat.zero_le _, rfl, n2, o2g.out, own2.out⟩
  case round =>
    obtain ⟨k, hk, rfl, hb, hown, hld⟩ := hrel
    clear o2g own2 n2 b1 b2
    obtain ⟨cw, fw⟩ := hb.rules
    have hbz := hb.size
    simp only [World.size_alloc] at hbz
    have hLL := HLQ.out
    by_cases hlt : k < m
    · obtain ⟨a', cap', he, _, HC⟩ := RdI.open (own_rd hld)
      obtain ⟨b, o, rfl, hbl, hx⟩ := HC.out wr (New.refl _) k (by omega)
      cases he
      have hgb := (own_block_lt hld b rfl).1
      have hne : b ≠ w.heap.size + 1 + 1 := by omega
      have hlk : (loadsQ m ps)[k]'(by omega) = (countQ m ps k : Int) := by simp [loadsQ, loadsTo]
      rw [hlk] at hx
      have hst := (hown.stored k (.int .i64 (minQ (countQ m ps k)))).1
      rw [← List.map_set, minK_set hlt] at hst
      have hst2 := ownsRow_setCell_below hld (a := ⟨w.heap.size + 1 + 1, k, none⟩) (by dsimp; omega) (.int .i64 (minQ (countQ m ps k)))
      have hcell : wr.cell? ⟨w.heap.size + 1 + 1, k, none⟩ = some (.int .i64 0) := by
        rw [hown.cellAt k (by omega), List.getElem?_map, minK_at hlt]; rfl
      have hfz := hown.frozenAt k
      replace hown := Lib.hid hown
      replace hld := Lib.hid hld
      clear HC hlk
      generalize countQ m ps k = c at *
      have hm1 : (loadsQ m ps).length ≤ m := by omega
      have hm2 : m ≤ (loadsQ m ps).length := by omega
      replace hLL := Lib.hid hLL
      rcases Nat.eq_zero_or_pos c with h0 | h0
      · subst h0
        rw [show minQ ((0 : Nat) : Int) = 0 from rfl] at hst hst2
        replace hst := Lib.hid hst
        replace hst2 := Lib.hid hst2
        go_wp2_with fail
        go_roundw
        case rel => exact ⟨k + 1, by omega, by go_num, hb.setCell (by simp) _, hst.out, hst2.out⟩
        case measure => simp [intOf]; omega
      · have hm0 : minQ (c : Int) = 1 := by unfold minQ; rw [if_neg (by omega)]
        rw [hm0] at hst hst2
        replace hst := Lib.hid hst
        replace hst2 := Lib.hid hst2
        have hc1 : (1 : Int) ≤ (c : Int) := by omega
        clear hm0
        have hif := Lib.hid (show (if (1 : Int) < (c : Int) then (1 : Int) else (c : Int)) = 1 by split <;> omega)
        go_wp2_with fail
        go_roundw
        case rel => rw [hif.out]; exact ⟨k + 1, by omega, by go_num, hb.setCell (by simp) _, hst.out, hst2.out⟩
        case measure => simp [intOf]; omega
    · obtain rfl : k = m := by omega
      rw [minK_all] at hown
      have hm1 : (loadsQ k ps).length ≤ k := by omega
      have hLen : (minL k ps).length = k := minTo_len _ _ _
      have hown2 : wr.ownsRow (w.heap.size + 1 + 1) 2 1 (.slice (some ⟨w.heap.size + 1 + 1, 0, none⟩) k k) k ((minL k ps).map (Value.int .i64)) := hown
      clear hown hld
      have hwr3 := (own_block_lt hown2 _ rfl).2
      have hcl := own_rd hown2
      replace hown2 := Lib.hid hown2
      replace hLL := Lib.hid hLL
      have hcl2 : RdI wr (.slice (some ⟨w.heap.size + 1 + 1, 0, none⟩) k k) (minL k ps) := by rw [RdI, hLen]; exact hcl
      replace hcl2 := Lib.hid hcl2
      clear hcl
      generalize minL k ps = L at *
      go_wp2_with fail
      refine (cloneI_any _ L _ hcl2.out (by omega)).mono ?_; rintro e w4 ⟨r4, rfl, b4, own4⟩
      obtain ⟨ca, cc, rfl⟩ := own_slice own4; replace own4 := Lib.hid own4
      obtain ⟨c4, f4⟩ := b4.rules
      have z4 := b4.size
      try simp only [World.size_alloc, World.size_drew, World.heap_drewN, World.size_setCell] at z4
      have z4_0 : w.heap.size < w4.heap.size := by omega
      have z4_1 : w.heap.size + 1 < w4.heap.size := by omega
      go_wp2_with fail
      have hK : L.length = k := hLen
      rw [hLen] at own4
      have hown4 : w4.ownsRow (w.heap.size + 1 + 1) 2 1 (.slice (some ⟨w.heap.size + 1 + 1, 0, none⟩) k k) k (L.map (Value.int .i64)) := own_new hown2.out b4
      obtain ⟨cg, rfl⟩ : ∃ g, ca = some ⟨g, 0, none⟩ := by
        rcases own4.out.2 with ⟨_, h⟩ | ⟨g, cap, cur, h, _⟩
        · omega
        · cases h; exact ⟨g, rfl⟩
      have hcg := own_block_lt own4.out cg rfl
      have hB4 : Blk (w4.alloc (.cells #[.slice (some ⟨w.heap.size + 1 + 1, 0, none⟩) k k, .slice (some ⟨cg, 0, none⟩) k cc] 26)) w4.heap.size #[.slice (some ⟨w.heap.size + 1 + 1, 0, none⟩) k k, .slice (some ⟨cg, 0, none⟩) k cc] 26 := Blk.alloc_at rfl
      have n4 : New ((w.alloc (.cells #[.int .i64 (k : Int), .slice sa ps.length sc] 32)).alloc (.cells #[.slice none 0 0, .slice none 0 0] 26)) w4 := hb.trans b4
      have z4 := b4.size
      have hcgw : cg < w4.heap.size := hcg.2
      have hcgr : wr.heap.size ≤ cg := hcg.1
      replace hown4 := Lib.hid hown4
      replace hB4 := Lib.hid hB4
      clear hcg hown2 hcl2 cw fw c4 f4 hb
      go_loopw [34] (fun i wq => ∃ j : Nat, j ≤ fs.length ∧ i = .int .i64 j ∧ New ((w.alloc (.cells #[.int .i64 (k : Int), .slice sa ps.length sc] 32)).alloc (.cells #[.slice none 0 0, .slice none 0 0] 26)) wq ∧ wq.ownsRow (w.heap.size + 1 + 1) 2 1 (.slice (some ⟨w.heap.size + 1 + 1, 0, none⟩) k k) k ((putF L 0 (fs.take j)).map (Value.int .i64)) ∧ wq.ownsRow wr.heap.size 2 1 (.slice (some ⟨cg, 0, none⟩) k cc) k ((putF L 1 (fs.take j)).map (Value.int .i64)) ∧ Blk wq w4.heap.size #[.slice (some ⟨w.heap.size + 1 + 1, 0, none⟩) k k, .slice (some ⟨cg, 0, none⟩) k cc] 26) (fun i _ => fs.length - (intOf i).toNat)
      case atStart => exact ⟨0, Nat.zero_le _, rfl, n4.alloc _, by simpa [putF] using hown4.out.alloc _, by simpa [putF] using own4.out.alloc _, hB4.out⟩
      case round =>
        rename World => wq
        obtain ⟨j, hj, rfl, hq, hown, hcl, hR⟩ := hrel
        clear hown4 own4 hB4
        obtain ⟨cq, fq⟩ := hq.rules
        obtain ⟨cR, fR⟩ := hR.rules
        have hqz := hq.size
        simp only [World.size_alloc] at hqz
        have hgw := (own_block_lt hown _ rfl).2
        have hcw := (own_block_lt hcl _ rfl).2
        have hRw := hR.lt
        by_cases hlu : j < fs.length
        · obtain ⟨b, o, rfl, hbl, hx⟩ := HF.out j hlu
          have x0 := hx 0 _ (by omega) rfl
          have x1 := hx 1 _ (by omega) rfl
          have x2 := hx 2 _ (by omega) rfl
          rw [Nat.add_zero] at x0
          replace hx := Lib.hid hx
          have hbq : b < wq.heap.size := by omega
          have hbw : b < w.heap.size + 1 + 1 := by omega
          have hbw2 : b < w.heap.size + 1 := by omega
          obtain ⟨hin, hch⟩ := HFI.out fs[j] (List.getElem_mem hlu)
          have hp0 := putF_len 0 (fs.take j) L
          have hp1 := putF_len 1 (fs.take j) L
          obtain ⟨x, hfx⟩ : ∃ x, fs[j] = x := ⟨_, rfl⟩
          rw [hfx] at x0 x1 x2 hin hch
          obtain ⟨xb, xc, xv⟩ := x
          dsimp only at x0 x1 x2 hin hch
          obtain ⟨hi0, hi1⟩ := hin
          obtain ⟨p, rfl⟩ := Int.eq_ofNat_of_zero_le hi0
          simp only [Int.toNat_natCast] at hi1
          rcases hch with hc | hc
          · subst hc
            have hy := putF_yes (L := L) (ch := 0) hlu (by rw [hfx]; rfl)
            have hn := putF_no (L := L) (ch := 1) hlu (by rw [hfx]; rfl)
            rw [hfx] at hy
            have hcell : wq.cell? ⟨w.heap.size + 1 + 1, p, none⟩ = some (.int .i64 ((putF L 0 (fs.take j))[p]'(by omega))) := by rw [hown.cellAt p (by omega)]; first | (simp; done) | (simp; omega)
            have hfz := hown.frozenAt p
            have hst := (hown.stored p (.int .i64 xv)).1
            simp only [Int.toNat_natCast] at hy
            rw [← List.map_set, ← hy] at hst
            rw [← hn] at hcl
            replace hst := Lib.hid hst
            replace hown := Lib.hid hown
            replace hcl := Lib.hid hcl
            clear hy hn hfx
            go_wp2_with fail
            go_roundw
            case rel =>
              have ho := ownsRow_setCell_below hcl.out (a := ⟨w.heap.size + 1 + 1, p, none⟩) (by dsimp; omega) (.int .i64 xv)
              exact ⟨j + 1, by omega, by go_num, (hq.setCell (by simp) _).alloc _, hst.out.alloc _, ho.alloc _, (hR.set_ne (by omega) _).alloc _⟩
            case measure => simp [intOf]; omega
          · subst hc
            have hy := putF_yes (L := L) (ch := 1) hlu (by rw [hfx]; rfl)
            have hn := putF_no (L := L) (ch := 0) hlu (by rw [hfx]; rfl)
            rw [hfx] at hy
            have hcell : wq.cell? ⟨cg, p, none⟩ = some (.int .i64 ((putF L 1 (fs.take j))[p]'(by omega))) := by rw [hcl.cellAt p (by omega)]; first | (simp; done) | (simp; omega)
            have hfz := hcl.frozenAt p
            have hst := (hcl.stored p (.int .i64 xv)).1
            simp only [Int.toNat_natCast] at hy
            rw [← List.map_set, ← hy] at hst
            rw [← hn] at hown
            replace hst := Lib.hid hst
            replace hown := Lib.hid hown
            replace hcl := Lib.hid hcl
            clear hy hn hfx
            go_wp2_with fail
            go_roundw
            case rel =>
              have ho := own_other hown.out (g := cg) (o := p) (fun b hb => by have h9 : w.heap.size + 1 + 1 = b := Option.some.inj hb; omega) (.int .i64 xv)
              exact ⟨j + 1, by omega, by go_num, (hq.setCell (by simp; omega) _).alloc _, ho.alloc _, hst.out.alloc _, (hR.set_ne (by omega) _).alloc _⟩
            case measure => simp [intOf]; omega
        · obtain rfl : j = fs.length := by omega
          rw [List.take_length] at hown hcl
          replace hown := Lib.hid hown
          replace hcl := Lib.hid hcl
          go_wp2_with fail
          have hS := (own_block_lt hcl.out _ rfl).1
          refine bodyPost_ret (v := .agg #[.slice (some ⟨w.heap.size + 1 + 1, 0, none⟩) k k, .slice (some ⟨cg, 0, none⟩) k cc]) (by simp [results, Try.results98, go_sem, cR, cq, fq, fR]) rfl ⟨_, _, _, _, rfl, (by repeat (first | with_reducible exact New.refl _ | with_reducible assumption | with_reducible refine New.drew ?_ | with_reducible refine New.drewN ?_ _ | with_reducible refine New.alloc ?_ _ | with_reducible refine New.setCell ?_ (by first | (simp; done) | (simp; omega) | omega) _ | with_reducible refine New.trans ?_ (by with_reducible assumption))), ?_, wr.heap.size, by omega, (fun b hb => by have h9 : w.heap.size + 1 + 1 = b := Option.some.inj hb; omega), ?_⟩
          · refine own_base (base := w.heap.size + 1 + 1) ?_ (by omega)
            iterate 2 apply ownsRow_setCell_below
            exact hown.out
            all_goals (dsimp; omega)
          · iterate 2 apply ownsRow_setCell_below
            exact hcl.out
            all_goals (dsimp; omega)
theorem faults_in2 {n : Int} {fs : List ESensorFault} (hn : 2 ≤ n ∧ n ≤ 8) (h : faultsOk n fs = true) : ∀ x ∈ fs, (0 ≤ x.blk ∧ x.blk.toNat < n.toNat) ∧ (x.chan = 0 ∨ x.chan = 1) := by
  intro x hx
  refine ⟨faults_in hn h x hx, ?_⟩
  obtain ⟨k, hk, rfl⟩ := List.mem_iff_getElem.1 hx
  simp only [faultsOk, allUp, Bool.and_eq_true, List.all_eq_true] at h
  have h1 := h.1 k (List.mem_range.2 hk)
  rw [pF_at hk, Bool.and_eq_true, okF, Bool.and_eq_true, Bool.and_eq_true] at h1
  have := inB_iff.1 h1.1.1.2
  omega
def RetRepSC (w : World) (R : (List Int × List Int) × Int) (e : Ending) (w' : World) : Prop := ∃ ua uc va vc, e = .returned (.tuple #[.agg #[.slice ua R.1.1.length uc, .slice va R.1.2.length vc], .int .i64 R.2]) ∧ New w w' ∧ w'.ownsRow w.heap.size 2 1 (.slice ua R.1.1.length uc) R.1.1.length (R.1.1.map (Value.int .i64)) ∧ ∃ B, w.heap.size ≤ B ∧ (∀ k, (Value.slice ua R.1.1.length uc).ownBlock = some k → k < B) ∧ w'.ownsRow B 2 1 (.slice va R.1.2.length vc) R.1.2.length (R.1.2.map (Value.int .i64))
set_option maxHeartbeats 1000000 in
theorem iReportOf_any (n : Int) (s fv : Value) (ps : List Int) (fs : List ESensorFault) (w : World) (hv : RdI w s ps) (hf : Rd w fv fs.length (fs.flatMap encSensorFault)) :
    Calls Try.prog 45 #[.agg #[.int .i64 n, s], fv] w (RetRepSC w (repR n ps fs)) := by
  have HV := Lib.hid hv
  have HF := Lib.hid hf
  obtain ⟨sa, sc, rfl, hsm, _⟩ := hv
  clear hf hsm
  rcases Bool.eq_false_or_eq_true (isTraf n ps) with h1 | h1
  · obtain ⟨hn, _⟩ := isTraf_ok h1
    rcases Bool.eq_false_or_eq_true (faultsOk n fs) with h2 | h2
    · have hfi := faults_in2 hn h2
      have HR := Lib.hid (show repR n ps fs = ((putF (minL n ps) 0 fs, putF (minL n ps) 1 fs), 0) by rw [repR, if_pos h1, if_pos h2])
      have hnn : n = (n.toNat : Int) := by omega
      generalize n.toNat = m at *
      subst hnn
      have HC := Lib.hid (fun (w0 : World) (h : RdI w0 (.slice sa ps.length sc) ps) (k : Rd w0 fv fs.length (fs.flatMap encSensorFault)) => iReport_any m (.slice sa ps.length sc) fv ps fs w0 h k h1 (by simpa using hfi))
      have HE0 := Lib.hid (show (putF (minL m ps) 0 fs).length = m by rw [putF_len]; exact minTo_len _ _ _)
      have HE1 := Lib.hid (show (putF (minL m ps) 1 fs).length = m by rw [putF_len]; exact minTo_len _ _ _)
      clear hfi
      go_enter Try.func45, Try.ntmps45
      go_wp2_with fail
      refine (iIsTraffic_any m _ ps _ (HV.out.new (by repeat (first | with_reducible exact New.refl _ | with_reducible assumption | with_reducible refine New.drew ?_ | with_reducible refine New.drewN ?_ _ | with_reducible refine New.alloc ?_ _ | with_reducible refine New.setCell ?_ (by first | (simp; done) | (simp; omega) | omega) _ | with_reducible refine New.trans ?_ (by with_reducible assumption))))).mono ?_; rintro e w1 ⟨rfl, b1⟩
      try with_reducible replace b1 := New.undrawN b1
      try with_reducible replace b1 := New.undraw b1
      obtain ⟨c1, f1⟩ := b1.rules
      have z1 := b1.size
      try simp only [World.size_alloc, World.size_drew, World.heap_drewN, World.size_setCell] at z1
      have z1_0 : w.heap.size < w1.heap.size := by omega
      have z1_1 : w.heap.size + 1 < w1.heap.size := by omega
      go_wp2_with fail
      refine (areFaultsIn_any m fv fs _ (HF.out.new (by repeat (first | with_reducible exact New.refl _ | with_reducible assumption | with_reducible refine New.drew ?_ | with_reducible refine New.drewN ?_ _ | with_reducible refine New.alloc ?_ _ | with_reducible refine New.setCell ?_ (by first | (simp; done) | (simp; omega) | omega) _ | with_reducible refine New.trans ?_ (by with_reducible assumption))))).mono ?_; rintro e w2 ⟨rfl, b2⟩
      try with_reducible replace b2 := New.undrawN b2
      try with_reducible replace b2 := New.undraw b2
      obtain ⟨c2, f2⟩ := b2.rules
      have z2 := b2.size
      try simp only [World.size_alloc, World.size_drew, World.heap_drewN, World.size_setCell] at z2
      have z2_0 : w.heap.size < w2.heap.size := by omega
      have z2_1 : w.heap.size + 1 < w2.heap.size := by omega
      go_wp2_with fail
      refine (HC.out _ (HV.out.new (by repeat (first | with_reducible exact New.refl _ | with_reducible assumption | with_reducible refine New.drew ?_ | with_reducible refine New.drewN ?_ _ | with_reducible refine New.alloc ?_ _ | with_reducible refine New.setCell ?_ (by first | (simp; done) | (simp; omega) | omega) _ | with_reducible refine New.trans ?_ (by with_reducible assumption)))) (HF.out.new (by repeat (first | with_reducible exact New.refl _ | with_reducible assumption | with_reducible refine New.drew ?_ | with_reducible refine New.drewN ?_ _ | with_reducible refine New.alloc ?_ _ | with_reducible refine New.setCell ?_ (by first | (simp; done) | (simp; omega) | omega) _ | with_reducible refine New.trans ?_ (by with_reducible assumption))))).mono ?_; rintro e w3 ⟨ua, uc, va, vc, rfl, b3, o1, B, hB, hu, o2⟩
      replace o1 := Lib.hid o1; replace o2 := Lib.hid o2; replace hu := Lib.hid hu
      obtain ⟨c3, f3⟩ := b3.rules
      have z3 := b3.size
      try simp only [World.size_alloc, World.size_drew, World.heap_drewN, World.size_setCell] at z3
      have z3_0 : w.heap.size < w3.heap.size := by omega
      have z3_1 : w.heap.size + 1 < w3.heap.size := by omega
      go_wp2_with fail
      rw [HR.out]
      have p1 := o1.out
      have p2 := o2.out
      refine bodyPost_ret (v := .tuple #[.agg #[.slice ua m uc, .slice va m vc], .int .i64 0]) (by simp [results, Try.results45, go_sem, c3, f3, z3_0, z3_1, c2, f2, z2_0, z2_1, c1, f1, z1_0, z1_1]) rfl ⟨ua, uc, va, vc, by dsimp only; rw [HE0.out, HE1.out], (by repeat (first | with_reducible exact New.refl _ | with_reducible assumption | with_reducible refine New.drew ?_ | with_reducible refine New.drewN ?_ _ | with_reducible refine New.alloc ?_ _ | with_reducible refine New.setCell ?_ (by first | (simp; done) | (simp; omega) | omega) _ | with_reducible refine New.trans ?_ (by with_reducible assumption))), ?_, B, by omega, by dsimp only; rw [HE0.out]; exact hu.out, ?_⟩
      · dsimp only; rw [HE0.out]; exact (by apply own_base; (repeat (first | with_reducible exact p1 | with_reducible apply ownsRow_setCell_below | with_reducible refine World.ownsRow.alloc ?_ _ | with_reducible refine own_new ?_ (by with_reducible assumption))); all_goals (first | (simp; done) | (simp; omega) | omega))
      · dsimp only; rw [HE1.out]; exact (by apply own_base; (repeat (first | with_reducible exact p2 | with_reducible apply ownsRow_setCell_below | with_reducible refine World.ownsRow.alloc ?_ _ | with_reducible refine own_new ?_ (by with_reducible assumption))); all_goals (first | (simp; done) | (simp; omega) | omega))
    · have HR := Lib.hid (show repR n ps fs = (([], []), 2) by rw [repR, if_pos h1, if_neg (by rw [h2]; simp)])
      go_enter Try.func45, Try.ntmps45
      go_wp2_with fail
      refine (iIsTraffic_any n _ ps _ (HV.out.new (by repeat (first | with_reducible exact New.refl _ | with_reducible assumption | with_reducible refine New.drew ?_ | with_reducible refine New.drewN ?_ _ | with_reducible refine New.alloc ?_ _ | with_reducible refine New.setCell ?_ (by first | (simp; done) | (simp; omega) | omega) _ | with_reducible refine New.trans ?_ (by with_reducible assumption))))).mono ?_; rintro e w1 ⟨rfl, b1⟩
      try with_reducible replace b1 := New.undrawN b1
      try with_reducible replace b1 := New.undraw b1
      obtain ⟨c1, f1⟩ := b1.rules
      have z1 := b1.size
      try simp only [World.size_alloc, World.size_drew, World.heap_drewN, World.size_setCell] at z1
      have z1_0 : w.heap.size < w1.heap.size := by omega
      have z1_1 : w.heap.size + 1 < w1.heap.size := by omega
      go_wp2_with fail
      refine (areFaultsIn_any n fv fs _ (HF.out.new (by repeat (first | with_reducible exact New.refl _ | with_reducible assumption | with_reducible refine New.drew ?_ | with_reducible refine New.drewN ?_ _ | with_reducible refine New.alloc ?_ _ | with_reducible refine New.setCell ?_ (by first | (simp; done) | (simp; omega) | omega) _ | with_reducible refine New.trans ?_ (by with_reducible assumption))))).mono ?_; rintro e w2 ⟨rfl, b2⟩
      try with_reducible replace b2 := New.undrawN b2
      try with_reducible replace b2 := New.undraw b2
      obtain ⟨c2, f2⟩ := b2.rules
      have z2 := b2.size
      try simp only [World.size_alloc, World.size_drew, World.heap_drewN, World.size_setCell] at z2
      have z2_0 : w.heap.size < w2.heap.size := by omega
      have z2_1 : w.heap.size + 1 < w2.heap.size := by omega
      go_wp2_with fail
      rw [HR.out]
      exact bodyPost_ret (v := .tuple #[.agg #[.slice none 0 0, .slice none 0 0], .int .i64 2]) (by simp [results, Try.results45, go_sem, c2, f2, z2_0, z2_1, c1, f1, z1_0, z1_1]) rfl ⟨_, _, _, _, rfl, (by repeat (first | with_reducible exact New.refl _ | with_reducible assumption | with_reducible refine New.drew ?_ | with_reducible refine New.drewN ?_ _ | with_reducible refine New.alloc ?_ _ | with_reducible refine New.setCell ?_ (by first | (simp; done) | (simp; omega) | omega) _ | with_reducible refine New.trans ?_ (by with_reducible assumption))), World.ownsRow_nil _ _ _ _, w.heap.size, Nat.le_refl _, (fun k hk => by cases hk), World.ownsRow_nil _ _ _ _⟩
  · have HR := Lib.hid (show repR n ps fs = (([], []), 1) by rw [repR, if_neg (by rw [h1]; simp)])
    go_enter Try.func45, Try.ntmps45
    go_wp2_with fail
    refine (iIsTraffic_any n _ ps _ (HV.out.new (by repeat (first | with_reducible exact New.refl _ | with_reducible assumption | with_reducible refine New.drew ?_ | with_reducible refine New.drewN ?_ _ | with_reducible refine New.alloc ?_ _ | with_reducible refine New.setCell ?_ (by first | (simp; done) | (simp; omega) | omega) _ | with_reducible refine New.trans ?_ (by with_reducible assumption))))).mono ?_; rintro e w1 ⟨rfl, b1⟩
    try with_reducible replace b1 := New.undrawN b1
    try with_reducible replace b1 := New.undraw b1
    obtain ⟨c1, f1⟩ := b1.rules
    have z1 := b1.size
    try simp only [World.size_alloc, World.size_drew, World.heap_drewN, World.size_setCell] at z1
    have z1_0 : w.heap.size < w1.heap.size := by omega
    have z1_1 : w.heap.size + 1 < w1.heap.size := by omega
    go_wp2_with fail
    rw [HR.out]
    exact bodyPost_ret (v := .tuple #[.agg #[.slice none 0 0, .slice none 0 0], .int .i64 1]) (by simp [results, Try.results45, go_sem, c1, f1, z1_0, z1_1]) rfl ⟨_, _, _, _, rfl, (by repeat (first | with_reducible exact New.refl _ | with_reducible assumption | with_reducible refine New.drew ?_ | with_reducible refine New.drewN ?_ _ | with_reducible refine New.alloc ?_ _ | with_reducible refine New.setCell ?_ (by first | (simp; done) | (simp; omega) | omega) _ | with_reducible refine New.trans ?_ (by with_reducible assumption))), World.ownsRow_nil _ _ _ _, w.heap.size, Nat.le_refl _, (fun k hk => by cases hk), World.ownsRow_nil _ _ _ _⟩
end Go.Proofs.Ytinlichcbjpeaaa
