/- Lines and uses of a name are told as they stand, and so are the blocks of a program, for every code. No condition but the row's own: the table of keywords holds what the program's text lays. -/
import Derived.Test.YteielmihlfakgaaDoorRows
import Derived.Test.YteielmihlfakgaaDoorCards
import Derived.Test.YteielmihlfakgaaDoorTie
import Derived.Test.YteielmihlfakgaaDoorShape
import Derived.Test.YteielmihlfakgaaDoorUA
import Derived.Test.YteielmihlfakgaaDoorKeys
import Derived.Test.YteielmihlfakgaaDoorDrL14
import Derived.Test.YteielmihlfakgaaDoorUses
import Derived.Test.YteielmihlfakgaaDoorBlocksP
import Derived.Test.YteielmihlfakgaaDoorLikeC
import Derived.Test.YteielmihlfakgaaDoorBlocks
namespace Go.Proofs.YteielmihlfakgaaDoor
open Go Go.Proofs Go.RowKit Go.ChangeShapes Go.WideShapes Go.ChangeAt
set_option linter.unusedVariables false
set_option linter.unusedSimpArgs false
set_option maxRecDepth 100000
theorem hrun_all : ∀ (ts : List ETerm) (n : Int) (acc : List Int) (R : List Int × Int), hrun ts n acc = some R → ∀ t ∈ ts, termE t = true
  | [], _, _, _, _, t, ht => by cases ht
  | x :: ts, n, acc, R, h, t, ht => by
    rw [hrun] at h
    split at h
    · rename_i hc
      rcases List.mem_cons.1 ht with rfl | ht
      · exact hc.1
      · exact hrun_all ts _ _ R h t ht
    · cases h
theorem blk_is {p : ProgD} (h : wB p = true) : ∀ x ∈ blkP p, isBlk x.kind x.name x.num = true := fun x hx => by
  obtain ⟨l, hl, hx⟩ := List.mem_flatMap.1 hx
  obtain ⟨hx, hk⟩ := List.mem_filter.1 hx
  rw [wB, Bool.and_eq_true, Bool.and_eq_true] at h
  have hlb := List.all_eq_true.1 h.2.1 l hl
  rw [lineB, Bool.and_eq_true] at hlb
  have ho := hlb.2
  cases hr : hrun l.terms 0 [] with
  | none => rw [(H_none hr).2.1] at ho; cases ho
  | some R =>
    have ht := hrun_all _ _ _ _ hr x hx
    rw [isBlk, Bool.and_eq_true]
    exact ⟨ht, hk⟩
theorem blk_fit2 {r : ProgD} (h : FitP r) : ∀ x ∈ (blkR r).1, fitTerm x := fun x hx => by
  rw [blkR] at hx
  split at hx
  · obtain ⟨l, hl, h1⟩ := List.mem_flatMap.1 hx
    exact (h.lines l hl).2.1 x (List.mem_filter.1 h1).1
  · cases hx
theorem blk_facts {r : ProgD} : ((blkR r).2 = 0 ∧ ∀ x ∈ (blkR r).1, isBlk x.kind x.name x.num = true) ∨ (blkR r).2 = 1 := by
  rcases Bool.eq_false_or_eq_true (wB r) with h | h
  · rw [show blkR r = (blkP r, 0) by rw [blkR, if_pos h]]; exact .inl ⟨rfl, blk_is h⟩
  · rw [show blkR r = ([], 1) by rw [blkR, if_neg (by simp [h])]]; exact .inr rfl
theorem idx_at {α : Type} {f : α → Bool} {xs : List α} (h : ¬ idx f xs < 0) : ∃ k, ∃ hk : k < xs.length, idx f xs = (k : Int) ∧ f xs[k] = true := by
  cases hi : xs.findIdx? f with
  | none => rw [idx_none hi] at h; omega
  | some k =>
    obtain ⟨hk, h1, _⟩ := List.findIdx?_eq_some_iff_getElem.1 hi
    exact ⟨k, hk, idx_some hi, h1⟩
theorem line_facts {p : ProgD} {s : ByteArray} {ps : List LV} (hps : ps.map Prod.fst = p.lines) : (∃ k, ∃ hk : k < ps.length, (lineR p s).1 = (k : Int) ∧ (lineR p s).2 = 0 ∧ (ps[k].1.target.toList == s.toList) = true) ∨ (lineR p s).2 = 1 ∨ (lineR p s).2 = 4 := by
  rcases Bool.eq_false_or_eq_true (wB p) with h | h
  · by_cases h2 : lineIdx p s < 0
    · rw [lineR_4 h h2]; exact .inr (.inr rfl)
    · rw [lineR_1 h h2]
      obtain ⟨k, hk, e, he⟩ := idx_at h2
      obtain ⟨hk', hl⟩ : ∃ hk' : k < ps.length, p.lines[k] = ps[k].1 := by
        have hl : p.lines.length = ps.length := by rw [← hps, List.length_map]
        exact ⟨by omega, by simp [← hps]⟩
      rw [hl] at he
      exact .inl ⟨k, hk', e, rfl, he⟩
  · rw [lineR_0 h]; exact .inr (.inl rfl)
set_option maxHeartbeats 4000000 in
theorem fnNamesOf_any (v : Value) (bs : List Int) (w : World) (hv : Rd w v bs.length (bs.map (Value.int .u8))) (hb : ∀ c ∈ bs, 0 ≤ c ∧ c ≤ 255) (hk : KW w) :
    Calls Tryd.prog 3 #[v] w fun e w' => e = .returned (.bool true) ∧ New w w' := by
  have HV := Lib.hid hv
  have HB := Lib.hid hb
  have HK := Lib.hid hk
  clear hv hb hk
  by_cases hl : (4096 : Int) < (bs.length : Int)
  · go_enter Tryd.func3, Tryd.ntmps3
    go_wp2_with fail
    refine (big_any v bs.length _ _ HV.out).mono ?_; rintro e w1 ⟨rfl, rfl⟩
    go_wp2_with fail
    go_ret
    exact ⟨rfl, New.refl _⟩
  · have hl' : bs.length ≤ 4096 := by omega
    have HL := Lib.hid hl'; clear hl'
    go_enter Tryd.func3, Tryd.ntmps3
    go_wp2_with fail
    refine (big_any v bs.length _ _ HV.out).mono ?_; rintro e w1 ⟨rfl, rfl⟩
    go_wp2_with fail
    refine (drawLineOf_any v bs _ HV.out HL.out HB.out).mono ?_; rintro e w1 ⟨p, iv, vv, ov, lv, s, rfl, b1, OP, hsm, hs⟩
    obtain ⟨qa, qc, rfl⟩ := own_slice OP.ins; obtain ⟨qv, qd, rfl⟩ := own_slice OP.vars; obtain ⟨qo, qe, rfl⟩ := own_slice OP.outs; obtain ⟨ps, hps, OL⟩ := id OP.lines; obtain ⟨ql, qf, rfl⟩ := own_slice OL.row; have RP := Lib.hid OP.rd; have RL := Lib.hid (own_rd OL.row); have hpl : Hid (p.lines.length = ps.length) := Lib.hid (by rw [← hps, List.length_map]); have hpsl : ps.length ≤ 100 := (by have := hsm.linesl; have := hpl.out; omega); replace hps := Lib.hid hps; clear OP OL
    obtain ⟨c1, f1⟩ := b1.rules
    have z1 := b1.size
    try simp only [World.size_alloc, World.size_drew, World.heap_drewN, World.size_setCell] at z1
    go_wp2_with fail
    have hfp := Lib.hid hsm.fit
    clear hsm
    have hLR := line_facts (p := p) (s := s) hps.out
    have HLI := Lib.hid (fun (w0 : World) (h : RdP w0 p (.slice qa p.inputs.length qc) (.slice qv p.vars.length qd) (.slice qo p.outputs.length qe) (.slice ql ps.length qf)) (k : KW w0) => iLineOf_any p _ _ _ _ s w0 h hfp.out k)
    have HLS := Lib.hid (fun (w0 : World) (h : RdP w0 p (.slice qa p.inputs.length qc) (.slice qv p.vars.length qd) (.slice qo p.outputs.length qe) (.slice ql ps.length qf)) => sLineOf_any p _ _ _ _ s w0 h hfp.out)
    obtain ⟨m, hm⟩ : ∃ m, m = (lineR p s).1 := ⟨_, rfl⟩
    obtain ⟨c, hc⟩ : ∃ c, c = (lineR p s).2 := ⟨_, rfl⟩
    rw [← hm, ← hc] at HLI HLS hLR
    clear hm hc
    replace hLR := Lib.hid hLR
    have hmm : (m != m) = false := by simp
    have hcc : (c != c) = false := by simp
    refine (HLI.out _ (RP.out.new (by repeat (first | with_reducible exact New.refl _ | with_reducible assumption | with_reducible refine New.drew ?_ | with_reducible refine New.drewN ?_ _ | with_reducible refine New.alloc ?_ _ | with_reducible refine New.setCell ?_ (by first | (simp; done) | (simp; omega) | omega) _ | with_reducible refine New.trans ?_ (by with_reducible assumption)))) (HK.out.new (by repeat (first | with_reducible exact New.refl _ | with_reducible assumption | with_reducible refine New.drew ?_ | with_reducible refine New.drewN ?_ _ | with_reducible refine New.alloc ?_ _ | with_reducible refine New.setCell ?_ (by first | (simp; done) | (simp; omega) | omega) _ | with_reducible refine New.trans ?_ (by with_reducible assumption))))).mono ?_; rintro e w2 ⟨rfl, b2⟩
    try with_reducible replace b2 := New.undrawN b2
    try with_reducible replace b2 := New.undraw b2
    obtain ⟨c2, f2⟩ := b2.rules
    have z2 := b2.size
    try simp only [World.size_alloc, World.size_drew, World.heap_drewN, World.size_setCell] at z2
    have z2_0 : w1.heap.size < w2.heap.size := by omega
    go_wp2_with fail
    refine (HLS.out _ (RP.out.new (by repeat (first | with_reducible exact New.refl _ | with_reducible assumption | with_reducible refine New.drew ?_ | with_reducible refine New.drewN ?_ _ | with_reducible refine New.alloc ?_ _ | with_reducible refine New.setCell ?_ (by first | (simp; done) | (simp; omega) | omega) _ | with_reducible refine New.trans ?_ (by with_reducible assumption))))).mono ?_; rintro e w3 ⟨rfl, b3⟩
    try with_reducible replace b3 := New.undrawN b3
    try with_reducible replace b3 := New.undraw b3
    obtain ⟨c3, f3⟩ := b3.rules
    have z3 := b3.size
    try simp only [World.size_alloc, World.size_drew, World.heap_drewN, World.size_setCell] at z3
    have z3_0 : w1.heap.size < w3.heap.size := by omega
    go_wp2_with fail
    refine (drawUsesOf_any v bs _ (HV.out.new (by repeat (first | with_reducible exact New.refl _ | with_reducible assumption | with_reducible refine New.drew ?_ | with_reducible refine New.drewN ?_ _ | with_reducible refine New.alloc ?_ _ | with_reducible refine New.setCell ?_ (by first | (simp; done) | (simp; omega) | omega) _ | with_reducible refine New.trans ?_ (by with_reducible assumption)))) HL.out HB.out).mono ?_; rintro e w4 ⟨q, iv2, vv2, ov2, lv2, s2, rfl, b4, OQ, hsm2, hs2⟩
    obtain ⟨ra, rc, rfl⟩ := own_slice OQ.ins; obtain ⟨rv, rd, rfl⟩ := own_slice OQ.vars; obtain ⟨ro, re, rfl⟩ := own_slice OQ.outs; obtain ⟨ps2, hps2, OL2⟩ := id OQ.lines; obtain ⟨rl, rf, rfl⟩ := own_slice OL2.row; have RQ := Lib.hid OQ.rd; clear OQ OL2 hps2
    obtain ⟨c4, f4⟩ := b4.rules
    have z4 := b4.size
    try simp only [World.size_alloc, World.size_drew, World.heap_drewN, World.size_setCell] at z4
    have z4_0 : w1.heap.size < w4.heap.size := by omega
    go_wp2_with fail
    have hfq := Lib.hid hsm2.fit
    clear hsm2
    refine (iUsesOf_any q _ _ _ _ s2 _ (RQ.out.new (by repeat (first | with_reducible exact New.refl _ | with_reducible assumption | with_reducible refine New.drew ?_ | with_reducible refine New.drewN ?_ _ | with_reducible refine New.alloc ?_ _ | with_reducible refine New.setCell ?_ (by first | (simp; done) | (simp; omega) | omega) _ | with_reducible refine New.trans ?_ (by with_reducible assumption)))) hfq.out (HK.out.new (by repeat (first | with_reducible exact New.refl _ | with_reducible assumption | with_reducible refine New.drew ?_ | with_reducible refine New.drewN ?_ _ | with_reducible refine New.alloc ?_ _ | with_reducible refine New.setCell ?_ (by first | (simp; done) | (simp; omega) | omega) _ | with_reducible refine New.trans ?_ (by with_reducible assumption))))).mono ?_; rintro e w5 ⟨v5, rfl, b5, o5⟩
    obtain ⟨a5, k5, rfl⟩ := own_slice o5; replace o5 := Lib.hid o5
    obtain ⟨c5, f5⟩ := b5.rules
    have z5 := b5.size
    try simp only [World.size_alloc, World.size_drew, World.heap_drewN, World.size_setCell] at z5
    have z5_0 : w1.heap.size < w5.heap.size := by omega
    have z5_1 : w4.heap.size < w5.heap.size := by omega
    go_wp2_with fail
    refine (sUsesOf_any q _ _ _ _ s2 _ (RQ.out.new (by repeat (first | with_reducible exact New.refl _ | with_reducible assumption | with_reducible refine New.drew ?_ | with_reducible refine New.drewN ?_ _ | with_reducible refine New.alloc ?_ _ | with_reducible refine New.setCell ?_ (by first | (simp; done) | (simp; omega) | omega) _ | with_reducible refine New.trans ?_ (by with_reducible assumption)))) hfq.out).mono ?_; rintro e w6 ⟨v6, rfl, b6, o6⟩
    obtain ⟨a6, k6, rfl⟩ := own_slice o6; replace o6 := Lib.hid o6
    obtain ⟨c6, f6⟩ := b6.rules
    have z6 := b6.size
    try simp only [World.size_alloc, World.size_drew, World.heap_drewN, World.size_setCell] at z6
    have z6_0 : w1.heap.size < w6.heap.size := by omega
    have z6_1 : w4.heap.size < w6.heap.size := by omega
    go_wp2_with fail
    refine (DrawBlocksIn_any v bs _ (HV.out.new (by repeat (first | with_reducible exact New.refl _ | with_reducible assumption | with_reducible refine New.drew ?_ | with_reducible refine New.drewN ?_ _ | with_reducible refine New.alloc ?_ _ | with_reducible refine New.setCell ?_ (by first | (simp; done) | (simp; omega) | omega) _ | with_reducible refine New.trans ?_ (by with_reducible assumption)))) HL.out HB.out).mono ?_; rintro e w7 ⟨r, iv3, vv3, ov3, lv3, rfl, b7, RR, hsm3⟩
    obtain ⟨ta, tc, rfl, _⟩ := id RR.ins; obtain ⟨tv, td, rfl, _⟩ := id RR.vars; obtain ⟨to, te, rfl, _⟩ := id RR.outs; obtain ⟨tl, tf, rfl⟩ := RR.lines.slice; replace RR := Lib.hid RR
    obtain ⟨c7, f7⟩ := b7.rules
    have z7 := b7.size
    try simp only [World.size_alloc, World.size_drew, World.heap_drewN, World.size_setCell] at z7
    have z7_0 : w1.heap.size < w7.heap.size := by omega
    have z7_1 : w4.heap.size < w7.heap.size := by omega
    go_wp2_with fail
    have hfr := Lib.hid hsm3.fit
    clear hsm3
    have hBR := blk_facts (r := r)
    have hBF : ∀ x ∈ (blkR r).1, fitTerm x := blk_fit2 hfr.out
    have HBI := Lib.hid (fun (w0 : World) (h : RdP w0 r (.slice ta r.inputs.length tc) (.slice tv r.vars.length td) (.slice to r.outputs.length te) (.slice tl r.lines.length tf)) (k : KW w0) => iBlocksIn_any r _ _ _ _ w0 h hfr.out k)
    have HBS := Lib.hid (fun (w0 : World) (h : RdP w0 r (.slice ta r.inputs.length tc) (.slice tv r.vars.length td) (.slice to r.outputs.length te) (.slice tl r.lines.length tf)) => sBlocksIn_any r _ _ _ _ w0 h hfr.out)
    generalize blkR r = BR at hBR hBF HBI HBS
    obtain ⟨X, t⟩ := BR
    replace hBF := Lib.hid hBF
    have htt : (t != t) = false := by simp
    refine (HBI.out _ (RR.out.new (by repeat (first | with_reducible exact New.refl _ | with_reducible assumption | with_reducible refine New.drew ?_ | with_reducible refine New.drewN ?_ _ | with_reducible refine New.alloc ?_ _ | with_reducible refine New.setCell ?_ (by first | (simp; done) | (simp; omega) | omega) _ | with_reducible refine New.trans ?_ (by with_reducible assumption)))) (HK.out.new (by repeat (first | with_reducible exact New.refl _ | with_reducible assumption | with_reducible refine New.drew ?_ | with_reducible refine New.drewN ?_ _ | with_reducible refine New.alloc ?_ _ | with_reducible refine New.setCell ?_ (by first | (simp; done) | (simp; omega) | omega) _ | with_reducible refine New.trans ?_ (by with_reducible assumption))))).mono ?_; rintro e w8 ⟨v8, rfl, b8, o8⟩
    obtain ⟨a8, k8, rfl⟩ := own_slice o8; replace o8 := Lib.hid o8
    obtain ⟨c8, f8⟩ := b8.rules
    have z8 := b8.size
    try simp only [World.size_alloc, World.size_drew, World.heap_drewN, World.size_setCell] at z8
    have z8_0 : w1.heap.size < w8.heap.size := by omega
    have z8_1 : w7.heap.size < w8.heap.size := by omega
    go_wp2_with fail
    refine (HBS.out _ (RR.out.new (by repeat (first | with_reducible exact New.refl _ | with_reducible assumption | with_reducible refine New.drew ?_ | with_reducible refine New.drewN ?_ _ | with_reducible refine New.alloc ?_ _ | with_reducible refine New.setCell ?_ (by first | (simp; done) | (simp; omega) | omega) _ | with_reducible refine New.trans ?_ (by with_reducible assumption))))).mono ?_; rintro e w9 ⟨v9, rfl, b9, o9⟩
    obtain ⟨a9, k9, rfl⟩ := own_slice o9; replace o9 := Lib.hid o9
    obtain ⟨c9, f9⟩ := b9.rules
    have z9 := b9.size
    try simp only [World.size_alloc, World.size_drew, World.heap_drewN, World.size_setCell] at z9
    have z9_0 : w1.heap.size < w9.heap.size := by omega
    have z9_1 : w7.heap.size < w9.heap.size := by omega
    go_wp2_with fail
    have huu : ((usesR q s2).2 != (usesR q s2).2) = false := by simp
    refine (likeInts_same _ _ (usesR q s2).1 _ (RdI.new (own_rd o5.out) (by repeat (first | with_reducible exact New.refl _ | with_reducible assumption | with_reducible refine New.drew ?_ | with_reducible refine New.drewN ?_ _ | with_reducible refine New.alloc ?_ _ | with_reducible refine New.setCell ?_ (by first | (simp; done) | (simp; omega) | omega) _ | with_reducible refine New.trans ?_ (by with_reducible assumption)))) (RdI.new (own_rd o6.out) (by repeat (first | with_reducible exact New.refl _ | with_reducible assumption | with_reducible refine New.drew ?_ | with_reducible refine New.drewN ?_ _ | with_reducible refine New.alloc ?_ _ | with_reducible refine New.setCell ?_ (by first | (simp; done) | (simp; omega) | omega) _ | with_reducible refine New.trans ?_ (by with_reducible assumption))))).mono ?_; rintro e w10 ⟨rfl, b10⟩
    try with_reducible replace b10 := New.undrawN b10
    try with_reducible replace b10 := New.undraw b10
    obtain ⟨c10, f10⟩ := b10.rules
    have z10 := b10.size
    try simp only [World.size_alloc, World.size_drew, World.heap_drewN, World.size_setCell] at z10
    have z10_0 : w1.heap.size < w10.heap.size := by omega
    go_wp2_with fail
    have R8 := Lib.hid (show RdT w10 (.slice a8 X.length k8) X from Rd.new (own_rd o8.out) (by repeat (first | with_reducible exact New.refl _ | with_reducible assumption | with_reducible refine New.drew ?_ | with_reducible refine New.drewN ?_ _ | with_reducible refine New.alloc ?_ _ | with_reducible refine New.setCell ?_ (by first | (simp; done) | (simp; omega) | omega) _ | with_reducible refine New.trans ?_ (by with_reducible assumption))))
    have R9 := Lib.hid (show RdT w10 (.slice a9 X.length k9) X from Rd.new (own_rd o9.out) (by repeat (first | with_reducible exact New.refl _ | with_reducible assumption | with_reducible refine New.drew ?_ | with_reducible refine New.drewN ?_ _ | with_reducible refine New.alloc ?_ _ | with_reducible refine New.setCell ?_ (by first | (simp; done) | (simp; omega) | omega) _ | with_reducible refine New.trans ?_ (by with_reducible assumption))))
    have KP10 : Blk w10 w1.heap.size #[.string p.name, .slice qa p.inputs.length qc, .slice qv p.vars.length qd, .slice qo p.outputs.length qe, .string p.guard, .slice ql ps.length qf] 27 := (by repeat (first | with_reducible assumption | with_reducible exact Blk.alloc_at (by first | rfl | (simp; done) | (simp; omega)) | with_reducible apply Blk.alloc | with_reducible apply Blk.drew | with_reducible apply Blk.drewN | with_reducible apply Blk.set | ((with_reducible apply Blk.set_ne); rotate_left; (focus omega)) | ((with_reducible apply Blk.dr); rotate_left; (focus (with_reducible assumption)); (focus omega)) | ((with_reducible apply Blk.new); rotate_left; (focus (with_reducible assumption)))))
    have K10 := HK.out.new (show New w w10 by exact (by repeat (first | with_reducible exact New.refl _ | with_reducible assumption | with_reducible refine New.drew ?_ | with_reducible refine New.drewN ?_ _ | with_reducible refine New.alloc ?_ _ | with_reducible refine New.setCell ?_ (by first | (simp; done) | (simp; omega) | omega) _ | with_reducible refine New.trans ?_ (by with_reducible assumption))))
    have Nw10 : New w w10 := (by repeat (first | with_reducible exact New.refl _ | with_reducible assumption | with_reducible refine New.drew ?_ | with_reducible refine New.drewN ?_ _ | with_reducible refine New.alloc ?_ _ | with_reducible refine New.setCell ?_ (by first | (simp; done) | (simp; omega) | omega) _ | with_reducible refine New.trans ?_ (by with_reducible assumption)))
    have N110 : New w1 w10 := New.trans (New.alloc (New.refl w1) _) (New.trans b2 (New.trans b3 (New.trans b4 (New.trans (New.alloc (New.refl w4) _) (New.trans b5 (New.trans b6 (New.trans b7 (New.trans (New.alloc (New.refl w7) _) (New.trans b8 (New.trans b9 b10))))))))))
    obtain ⟨_, _, ⟨⟩, hmL, HLC⟩ := Rd.flat encLV_len (by omega) RL.out
    clear c1 c2 c3 c4 c5 c6 c7 c8 c9 c10 f1 f2 f3 f4 f5 f6 f7 f8 f9 f10 b1 b2 b3 b4 b5 b6 b7 b8 b9 b10
    refine (likeTerms_same _ _ X _ R8.out R9.out).mono ?_
    rintro e w11 ⟨rfl, b11⟩
    rcases hBR with ⟨rfl, hX⟩ | rfl
    · replace hX := Lib.hid hX
      obtain ⟨_, _, ⟨⟩, hmX, HXC⟩ := Rd.flat encTerm_len (by omega) R8.out
      go_wp2_with fail
      go_loopw [20] (fun i wr => ∃ j : Nat, j ≤ X.length ∧ i = .int .i64 j ∧ New w10 wr) (fun i _ => X.length - (intOf i).toNat)
      case atStart => exact ⟨0, Nat.zero_le _, rfl, b11⟩
      case round =>
        obtain ⟨j, hj, rfl, hN⟩ := hrel
        have hNz := hN.size
        by_cases hlt : j < X.length
        · obtain ⟨b, o, rfl, hbl, hx⟩ := HXC.out j hlt
          have x0 := (hN.cell hbl).trans (hx 0 _ (by omega) rfl)
          have x1 := (hN.cell hbl).trans (hx 1 _ (by omega) rfl)
          have x2 := (hN.cell hbl).trans (hx 2 _ (by omega) rfl)
          rw [Nat.add_zero] at x0
          clear hx
          have hbw : b < wr.heap.size := by omega
          have HIB := Lib.hid (fun (w0 : World) (k : KW w0) => (by have h := iIsBlock_any X[j].kind X[j].name X[j].num w0 (hBF.out _ (List.getElem_mem hlt)) k; rw [hX.out _ (List.getElem_mem hlt)] at h; exact h : Calls Tryd.prog 19 #[.agg #[.int .i64 X[j].kind, .string X[j].name, .int .i64 X[j].num]] w0 fun e w' => e = .returned (.bool true) ∧ New w0 w'))
          generalize X[j] = x at x0 x1 x2 HIB
          go_wp2_with fail
          refine (HIB.out _ (K10.new hN)).mono ?_
          rintro e w12 ⟨rfl, b12⟩
          go_wp2_with fail
          go_roundw
          case rel => exact ⟨j + 1, by omega, by go_num, hN.trans b12⟩
          case measure => simp [intOf]; omega
        · obtain rfl : j = X.length := by omega
          have KPX := KP10.new hN
          have hPX := KPX.lt
          obtain ⟨cP, fP⟩ := KPX.rules
          rcases hLR.out with ⟨k, hk, rfl, rfl, ht⟩ | rfl | rfl
          · obtain ⟨lb, lo, rfl, hlb, hx⟩ := HLC.out k hk
            have kx := ((N110.trans hN).cell hlb).trans (hx 0 _ (by omega) rfl)
            rw [Nat.add_zero] at kx
            clear hx
            have hlbx : lb < wr.heap.size := by have := (N110.trans hN).size; omega
            generalize ps[k].1.target = TG at ht kx
            go_wp2_with fail
            go_ret
            exact ⟨rfl, Nw10.trans hN⟩
          · go_wp2_with fail
            go_ret
            exact ⟨rfl, Nw10.trans hN⟩
          · go_wp2_with fail
            go_ret
            exact ⟨rfl, Nw10.trans hN⟩
    · skip
      have KPX := KP10.new b11
      have hPX := KPX.lt
      obtain ⟨cP, fP⟩ := KPX.rules
      rcases hLR.out with ⟨k, hk, rfl, rfl, ht⟩ | rfl | rfl
      · obtain ⟨lb, lo, rfl, hlb, hx⟩ := HLC.out k hk
        have kx := ((N110.trans b11).cell hlb).trans (hx 0 _ (by omega) rfl)
        rw [Nat.add_zero] at kx
        clear hx
        have hlbx : lb < w11.heap.size := by have := (N110.trans b11).size; omega
        generalize ps[k].1.target = TG at ht kx
        go_wp2_with fail
        go_ret
        exact ⟨rfl, Nw10.trans b11⟩
      · go_wp2_with fail
        go_ret
        exact ⟨rfl, Nw10.trans b11⟩
      · go_wp2_with fail
        go_ret
        exact ⟨rfl, Nw10.trans b11⟩
namespace fnNamesOf
theorem own : ownKnob Tryd.prog.godebug = none := by kernel_rfl
theorem reads : (Tryd.f3.params.toList.all fun t => Tryd.prog.readableRec t && decide (t < Tryd.prog.types.size)) = true := by kernel_rfl
set_option maxRecDepth 100000 in
noncomputable def laidWorld (os : Os) : World :=
  { World.holding Tryd.prog os ⟨#[], #[], []⟩ with heap := (World.holding Tryd.prog os ⟨#[], #[], []⟩).heap.modify 0 fun
      | .cells _ t frozen => .cells (keyData.map fun z => Value.string (kw z)).toArray t frozen
      | o => o }
theorem laid_met (os : Os) : laidMet Tryd.prog Rows.fnNamesOfRow.laid ((laidWorld os).forCall (fun _ _ => 0) ⟨#[], #[.slice none 0 0], []⟩).memory :=
  laidMet_of_run' 8 (by kernel_rfl) (by kernel_rfl)
theorem reading (os : Os) {H : Type} (enc : TypeId × Value → H) : ∃ x, DataW.whole enc Tryd.prog ((laidWorld os).forCall (fun _ _ => 0) ⟨#[], #[.slice none 0 0], []⟩).memory Tryd.f3.params.toList Rows.fnNamesOfSpec.vars false (#[.slice none 0 0] : Array Value).toList 8 = some x :=
  Option.isSome_iff_exists.1 (by kernel_rfl)
theorem lifted (os : Os) (started : os.Started) (H : Type) (enc : TypeId × Value → H) (F : Stop.Interp) :
    ReturnsInHanded {} Tryd.checked os 3 .any ((OpenSpec.ofChange Rows.fnNamesOfSpec).preRow enc Tryd.prog Tryd.f3 Rows.fnNamesOfRow.domain false Rows.fnNamesOfRow.laid) (((OpenSpec.ofChange Rows.fnNamesOfSpec).at F).post enc Tryd.prog Tryd.f3 false true false false) := by
  obtain ⟨x, hx⟩ := reading os enc
  refine returnsInHanded_of_row (C := Tryd.checked) (s := OpenSpec.ofChange Rows.fnNamesOfSpec) own started (by kernel_rfl) Tryd.func3
    (witness_row_at (enc := enc) (C := Tryd.checked) false (laidWorld os) #[.slice none 0 0] rfl (by kernel_rfl) (by kernel_rfl) (by kernel_rfl)
      (OpenSpec.preRow_of_cond 8 hx (by first | rfl | kernel_rfl) (fun k hk => by cases hk) (by kernel_rfl) (laid_met os))) ?_
  intro W base args ds gs before hval0 hW _ _ _ hL _ _
  have hkw : KW W := keys_of_laid hL
  have hval : ∀ (j : Nat) t v, Tryd.f3.params[j]? = some t → args[j]? = some v → Value.okWide Tryd.prog W .any base t v := hval0
  have hW' := hW
  obtain ⟨p, q, hA0, hV, rfl, hfz, hnd⟩ := hW
  have hA : DataW.TrodAll enc Tryd.prog W 0 (fun _ => true) true Tryd.f3.params.toList args.toList ds p := hA0
  rw [Tryd.params3] at hA hval
  obtain ⟨v0, vs0, d0, ds0, p0, q0, hargs, rfl, rfl, h0, r0⟩ := trodAll_cons hA
  obtain ⟨rfl, rfl, rfl⟩ := trodAll_nil r0
  obtain rfl : args = #[v0] := by cases args; simp_all
  have o0 := hval 0 22 v0 rfl rfl
  clear hA0 hval hval0
  obtain ⟨_, _, _, _, gd, _, rfl, _, _, _, _, rfl⟩ := trodVars_one hV
  have walk : Calls Tryd.prog 3 #[v0] W fun e w' => e = .returned (.bool true) ∧ New W w' := by
    obtain ⟨bs, hbs, hbb⟩ := openCode h0 o0
    exact fnNamesOf_any _ bs W hbs hbb hkw
  refine walk.mono fun e W' ⟨he, hg⟩ => ?_
  subst he
  exact ⟨_, rfl, law_post laidOut (fun t ht => reads_of reads t ht) (fun n hn g t hg ht => by
    obtain rfl : n = "loop.example/g00916/impl.keywords" := List.mem_singleton.1 hn
    obtain rfl : 0 = g := Option.some.inj ((show Tryd.prog.globalNamed "loop.example/g00916/impl.keywords" = some 0 by kernel_rfl).symm.trans hg)
    obtain rfl : 164 = t := Option.some.inj ((show (Tryd.prog.globals[0]?).map (·.type) = some 164 by kernel_rfl).symm.trans ht)
    exact ⟨by kernel_rfl, of_decide_eq_true (by kernel_rfl)⟩) rfl Tryd.underlying4 hW' rfl hg⟩
theorem said : Rows.FnNamesOfSaid :=
  OpenClaim.holds_of_cond 3 Tryd.f3 rfl rfl rfl rfl rfl rfl rfl ⟨rfl, rfl, rfl, rfl, rfl⟩ rfl rfl rfl rfl rfl (by kernel_rfl) Tryd.func3 (by kernel_rfl)
    (of_decide_eq_true (by kernel_rfl)) (by unfold Func.isWrapper; first | (rw [if_pos (by decide +kernel)]; kernel_rfl) | (rw [if_neg (by decide +kernel)]; exact ⟨rfl, rfl⟩))
    (fun os started H enc _ F => by rw [OpenClaim.pre_eq_preRow]; exact lifted os started H enc F)
theorem plain (f : FuncId) (fn : Func) (hf : Tryd.pinned.checked.prog.funcNamed "loop.example/g00916/laws.FnNamesOf" = some f) (hfn : Tryd.pinned.checked.prog.funcs[f]? = some fn) :
    false = Tryd.pinned.checked.prog.looks [] ∧ ∀ (j : Nat) t, fn.params[j]? = some t → Tryd.pinned.checked.prog.wantsStandIn t = false := by
  obtain rfl : f = 3 := Option.some.inj ((show Tryd.prog.funcNamed "loop.example/g00916/laws.FnNamesOf" = some 3 by kernel_rfl).symm.trans hf) |>.symm
  obtain rfl : fn = Tryd.f3 := (Option.some.inj (Tryd.func3.symm.trans hfn)).symm
  refine ⟨by kernel_rfl, fun j t ht => ?_⟩
  rw [Tryd.params3] at ht
  have hm : t ∈ ([22] : List TypeId) := by simpa using Array.mem_of_getElem? ht
  have all : (([22] : List TypeId).all fun t => !Tryd.prog.wantsStandIn t) = true := by kernel_rfl
  have := List.all_eq_true.1 all t hm
  show Tryd.prog.wantsStandIn t = false
  exact (Bool.not_eq_true _).mp (fun h => by rw [h] at this; cases this)
theorem card : Rows.FnNamesOfCardSaid :=
  Claim7.holds_tied_plain_at .later [] _ _ _ _ said (fun _ h => by cases h) (by kernel_rfl) (fun _ h => by cases h) fnNamesOf_row_tie rfl ⟨rfl, rfl⟩ (by kernel_rfl) rfl plain (by kernel_rfl)
#print axioms card
end fnNamesOf
end Go.Proofs.YteielmihlfakgaaDoor
