/- Each block is clear by a report, or differs, or is reported as occupied by both channels, for every code. No condition. -/
import Derived.Test.YtinlichcbjpeaaaRows
import Derived.Test.YtinlichcbjpeaaaLawBase
import Derived.Test.YtinlichcbjpeaaaFacts
import Derived.Test.YtinlichcbjpeaaaOpenCodeB
import Derived.Test.YtinlichcbjpeaaaDraw13
import Derived.Test.YtinlichcbjpeaaaReportP
import Derived.Test.YtinlichcbjpeaaaTol
import Derived.Test.YtinlichcbjpeaaaRegionG
import Derived.Test.YtinlichcbjpeaaaPermitted
namespace Go.Proofs.Ytinlichcbjpeaaa
open Go Go.Proofs Go.RowKit Go.ChangeShapes Go.WideShapes Go.ChangeAt
set_option linter.unusedVariables false
set_option linter.unusedSimpArgs false
set_option maxRecDepth 100000
theorem rep_zero {n : Int} {xs ys : List Int} (h : (repOf n xs ys (sumP xs ys 0)).2 = 0) : (2 ≤ n ∧ n ≤ 8) ∧ (xs.length : Int) = n ∧ ys.length = xs.length ∧ (∀ k (h : k < xs.length), 0 ≤ xs[k] ∧ xs[k] ≤ 1) ∧ (∀ k (h : k < ys.length), 0 ≤ ys[k] ∧ ys[k] ≤ 1) ∧
    repOf n xs ys (sumP xs ys 0) = (picked (sumP xs ys 0) xs.length, 0) ∧ repOf n xs ys (sumP xs ys 1) = (picked (sumP xs ys 1) xs.length, 0) := by
  cases h1 : inB n 2 8 with
  | false => rw [repOf, h1] at h; simp at h
  | true =>
    cases h2 : isRep n xs ys with
    | false => rw [repOf, h1, h2] at h; simp at h
    | true =>
      obtain ⟨e1, e2, e3, e4⟩ := isRep_len h2
      exact ⟨inB_iff.1 h1, e1.symm, e2.symm, fun k hk => badR_at e3 hk, fun k hk => badR_at e4 hk, by rw [repOf, h1, h2]; rfl, by rw [repOf, h1, h2]; rfl⟩
theorem picked_at {xs ys : List Int} {s : Int} {k : Nat} (h : k < xs.length) (h' : ys.length = xs.length) : ((picked (sumP xs ys s) xs.length).any (· == (k : Int))) = ((xs[k] + ys[k]'(by omega)) == s) := by
  rw [Bool.eq_iff_iff, List.any_eq_true]
  have e : sumP xs ys s k = ((xs[k] + ys[k]'(by omega)) == s) := by simp [sumP, List.getD, List.getElem?_eq_getElem h, List.getElem?_eq_getElem (show k < ys.length by omega)]
  constructor
  · rintro ⟨x, hx, he⟩
    obtain ⟨j, hj, hp, rfl⟩ := mem_picked.1 hx
    have hjk : j = k := by simp at he; omega
    subst hjk
    rw [← e]; exact hp
  · intro hs
    exact ⟨(k : Int), mem_picked.2 ⟨k, h, by rw [e]; exact hs, rfl⟩, by simp⟩
set_option maxHeartbeats 4000000 in
theorem fnReportLists_any (v : Value) (bs : List Int) (w : World) (hv : Rd w v bs.length (bs.map (Value.int .u8))) (hb : ∀ c ∈ bs, 0 ≤ c ∧ c ≤ 255) :
    Calls Try.prog 3 #[v] w fun e w' => e = .returned (.bool true) ∧ New w w' := by
  have HV := Lib.hid hv
  have HB := Lib.hid hb
  clear hv hb
  by_cases hl : (4096 : Int) < (bs.length : Int)
  · go_enter Try.func3, Try.ntmps3
    go_wp2_with fail
    refine (big_any v bs.length _ _ HV.out).mono ?_; rintro e w1 ⟨rfl, rfl⟩
    go_wp2_with fail
    go_ret
    exact ⟨rfl, New.refl _⟩
  · have hl' : bs.length ≤ 4096 := by omega
    have HL := Lib.hid hl'; clear hl'
    go_enter Try.func3, Try.ntmps3
    go_wp2_with fail
    refine (big_any v bs.length _ _ HV.out).mono ?_; rintro e w1 ⟨rfl, rfl⟩
    go_wp2_with fail
    refine (drawClearBlocks_any v bs _ HV.out HL.out HB.out).mono ?_; rintro e w1 ⟨n, u, u', xs, ys, rfl, hu, hu', b1⟩
    obtain ⟨ua, uc, rfl, hmu, _⟩ := id hu; obtain ⟨va, vc, rfl, hmv, _⟩ := id hu'; replace hu := Lib.hid hu; replace hu' := Lib.hid hu'
    obtain ⟨c1, f1⟩ := b1.rules
    have z1 := b1.size
    try simp only [World.size_alloc, World.size_drew, World.heap_drewN, World.size_setCell] at z1
    go_wp2_with fail
    have H1 := Lib.hid (fun (w0 : World) (h : RdI w0 (.slice ua xs.length uc) xs) (k : RdI w0 (.slice va ys.length vc) ys) => iClearBlocks_any n _ _ xs ys w0 h k)
    have H2 := Lib.hid (fun (w0 : World) (h : RdI w0 (.slice ua xs.length uc) xs) (k : RdI w0 (.slice va ys.length vc) ys) => sClearBlocks_any n _ _ xs ys w0 h k)
    have H3 := Lib.hid (fun (w0 : World) (h : RdI w0 (.slice ua xs.length uc) xs) (k : RdI w0 (.slice va ys.length vc) ys) => iDiscrepancies_any n _ _ xs ys w0 h k)
    have H4 := Lib.hid (fun (w0 : World) (h : RdI w0 (.slice ua xs.length uc) xs) (k : RdI w0 (.slice va ys.length vc) ys) => sDiscrepancies_any n _ _ xs ys w0 h k)
    have HZ := Lib.hid (fun h => @rep_zero n xs ys h)
    have HP := Lib.hid (fun (s : Int) (k : Nat) (h : k < xs.length) (h' : ys.length = xs.length) => @picked_at xs ys s k h h')
    generalize repOf n xs ys (sumP xs ys 0) = R at H1 H2 HZ
    generalize repOf n xs ys (sumP xs ys 1) = Q at H3 H4 HZ
    obtain ⟨C, c⟩ := R
    obtain ⟨D, d⟩ := Q
    refine (H1.out _ (hu.out.new (by repeat (first | with_reducible exact New.refl _ | with_reducible assumption | with_reducible refine New.drew ?_ | with_reducible refine New.drewN ?_ _ | with_reducible refine New.alloc ?_ _ | with_reducible refine New.setCell ?_ (by first | (simp; done) | (simp; omega) | omega) _ | with_reducible refine New.trans ?_ (by with_reducible assumption)))) (hu'.out.new (by repeat (first | with_reducible exact New.refl _ | with_reducible assumption | with_reducible refine New.drew ?_ | with_reducible refine New.drewN ?_ _ | with_reducible refine New.alloc ?_ _ | with_reducible refine New.setCell ?_ (by first | (simp; done) | (simp; omega) | omega) _ | with_reducible refine New.trans ?_ (by with_reducible assumption))))).mono ?_; rintro e w2 ⟨r2, rfl, b2, o2⟩
    replace o2 := Lib.hid o2
    obtain ⟨c2, f2⟩ := b2.rules
    have z2 := b2.size
    try simp only [World.size_alloc, World.size_drew, World.heap_drewN, World.size_setCell] at z2
    have z2_0 : w1.heap.size < w2.heap.size := by omega
    go_wp2_with fail
    refine (H2.out _ (hu.out.new (by repeat (first | with_reducible exact New.refl _ | with_reducible assumption | with_reducible refine New.drew ?_ | with_reducible refine New.drewN ?_ _ | with_reducible refine New.alloc ?_ _ | with_reducible refine New.setCell ?_ (by first | (simp; done) | (simp; omega) | omega) _ | with_reducible refine New.trans ?_ (by with_reducible assumption)))) (hu'.out.new (by repeat (first | with_reducible exact New.refl _ | with_reducible assumption | with_reducible refine New.drew ?_ | with_reducible refine New.drewN ?_ _ | with_reducible refine New.alloc ?_ _ | with_reducible refine New.setCell ?_ (by first | (simp; done) | (simp; omega) | omega) _ | with_reducible refine New.trans ?_ (by with_reducible assumption))))).mono ?_; rintro e w3 ⟨r3, rfl, b3, o3⟩
    obtain ⟨a3, c3', rfl⟩ := own_slice o3; dsimp only at o3; replace o3 := Lib.hid o3
    obtain ⟨c3, f3⟩ := b3.rules
    have z3 := b3.size
    try simp only [World.size_alloc, World.size_drew, World.heap_drewN, World.size_setCell] at z3
    have z3_0 : w1.heap.size < w3.heap.size := by omega
    go_wp2_with fail
    refine (H3.out _ (hu.out.new (by repeat (first | with_reducible exact New.refl _ | with_reducible assumption | with_reducible refine New.drew ?_ | with_reducible refine New.drewN ?_ _ | with_reducible refine New.alloc ?_ _ | with_reducible refine New.setCell ?_ (by first | (simp; done) | (simp; omega) | omega) _ | with_reducible refine New.trans ?_ (by with_reducible assumption)))) (hu'.out.new (by repeat (first | with_reducible exact New.refl _ | with_reducible assumption | with_reducible refine New.drew ?_ | with_reducible refine New.drewN ?_ _ | with_reducible refine New.alloc ?_ _ | with_reducible refine New.setCell ?_ (by first | (simp; done) | (simp; omega) | omega) _ | with_reducible refine New.trans ?_ (by with_reducible assumption))))).mono ?_; rintro e w4 ⟨r4, rfl, b4, o4⟩
    replace o4 := Lib.hid o4
    obtain ⟨c4, f4⟩ := b4.rules
    have z4 := b4.size
    try simp only [World.size_alloc, World.size_drew, World.heap_drewN, World.size_setCell] at z4
    have z4_0 : w1.heap.size < w4.heap.size := by omega
    go_wp2_with fail
    refine (H4.out _ (hu.out.new (by repeat (first | with_reducible exact New.refl _ | with_reducible assumption | with_reducible refine New.drew ?_ | with_reducible refine New.drewN ?_ _ | with_reducible refine New.alloc ?_ _ | with_reducible refine New.setCell ?_ (by first | (simp; done) | (simp; omega) | omega) _ | with_reducible refine New.trans ?_ (by with_reducible assumption)))) (hu'.out.new (by repeat (first | with_reducible exact New.refl _ | with_reducible assumption | with_reducible refine New.drew ?_ | with_reducible refine New.drewN ?_ _ | with_reducible refine New.alloc ?_ _ | with_reducible refine New.setCell ?_ (by first | (simp; done) | (simp; omega) | omega) _ | with_reducible refine New.trans ?_ (by with_reducible assumption))))).mono ?_; rintro e w5 ⟨r5, rfl, b5, o5⟩
    obtain ⟨a5, c5', rfl⟩ := own_slice o5; dsimp only at o5; replace o5 := Lib.hid o5
    obtain ⟨c5, f5⟩ := b5.rules
    have z5 := b5.size
    try simp only [World.size_alloc, World.size_drew, World.heap_drewN, World.size_setCell] at z5
    have z5_0 : w1.heap.size < w5.heap.size := by omega
    go_wp2_with fail
    refine (drawPermittedMoves_any v bs _ (HV.out.new (by repeat (first | with_reducible exact New.refl _ | with_reducible assumption | with_reducible refine New.drew ?_ | with_reducible refine New.drewN ?_ _ | with_reducible refine New.alloc ?_ _ | with_reducible refine New.setCell ?_ (by first | (simp; done) | (simp; omega) | omega) _ | with_reducible refine New.trans ?_ (by with_reducible assumption)))) HL.out HB.out).mono ?_; rintro e w6 ⟨m, q, s6, t6, ps, fs, gs, rfl, hq, hs6, ht6, b6⟩
    obtain ⟨qa, qc, rfl, hmq, _⟩ := id hq; obtain ⟨sa, sc, rfl, hms, _⟩ := id hs6; obtain ⟨ta, tc, rfl, hmt, _⟩ := id ht6; replace hq := Lib.hid hq; replace hs6 := Lib.hid hs6; replace ht6 := Lib.hid ht6
    obtain ⟨c6, f6⟩ := b6.rules
    have z6 := b6.size
    try simp only [World.size_alloc, World.size_drew, World.heap_drewN, World.size_setCell] at z6
    have z6_0 : w1.heap.size < w6.heap.size := by omega
    go_wp2_with fail
    have H7 := Lib.hid (fun (w0 : World) (h : RdI w0 (.slice qa ps.length qc) ps) (k : RdI w0 (.slice sa fs.length sc) fs) (l : RdI w0 (.slice ta gs.length tc) gs) => iPermittedMoves_any m _ _ _ ps fs gs w0 h k l)
    have H8 := Lib.hid (fun (w0 : World) (h : RdI w0 (.slice qa ps.length qc) ps) (k : RdI w0 (.slice sa fs.length sc) fs) (l : RdI w0 (.slice ta gs.length tc) gs) => sPermittedMoves_any m _ _ _ ps fs gs w0 h k l)
    generalize permOf m ps fs gs = P at H7 H8
    obtain ⟨P, p⟩ := P
    refine (H7.out _ (hq.out.new (by repeat (first | with_reducible exact New.refl _ | with_reducible assumption | with_reducible refine New.drew ?_ | with_reducible refine New.drewN ?_ _ | with_reducible refine New.alloc ?_ _ | with_reducible refine New.setCell ?_ (by first | (simp; done) | (simp; omega) | omega) _ | with_reducible refine New.trans ?_ (by with_reducible assumption)))) (hs6.out.new (by repeat (first | with_reducible exact New.refl _ | with_reducible assumption | with_reducible refine New.drew ?_ | with_reducible refine New.drewN ?_ _ | with_reducible refine New.alloc ?_ _ | with_reducible refine New.setCell ?_ (by first | (simp; done) | (simp; omega) | omega) _ | with_reducible refine New.trans ?_ (by with_reducible assumption)))) (ht6.out.new (by repeat (first | with_reducible exact New.refl _ | with_reducible assumption | with_reducible refine New.drew ?_ | with_reducible refine New.drewN ?_ _ | with_reducible refine New.alloc ?_ _ | with_reducible refine New.setCell ?_ (by first | (simp; done) | (simp; omega) | omega) _ | with_reducible refine New.trans ?_ (by with_reducible assumption))))).mono ?_; rintro e w7 ⟨r7, rfl, b7, o7⟩
    replace o7 := Lib.hid o7
    obtain ⟨c7, f7⟩ := b7.rules
    have z7 := b7.size
    try simp only [World.size_alloc, World.size_drew, World.heap_drewN, World.size_setCell] at z7
    have z7_0 : w1.heap.size < w7.heap.size := by omega
    have z7_1 : w6.heap.size < w7.heap.size := by omega
    have z7_2 : w6.heap.size + 1 < w7.heap.size := by omega
    go_wp2_with fail
    refine (H8.out _ (hq.out.new (by repeat (first | with_reducible exact New.refl _ | with_reducible assumption | with_reducible refine New.drew ?_ | with_reducible refine New.drewN ?_ _ | with_reducible refine New.alloc ?_ _ | with_reducible refine New.setCell ?_ (by first | (simp; done) | (simp; omega) | omega) _ | with_reducible refine New.trans ?_ (by with_reducible assumption)))) (hs6.out.new (by repeat (first | with_reducible exact New.refl _ | with_reducible assumption | with_reducible refine New.drew ?_ | with_reducible refine New.drewN ?_ _ | with_reducible refine New.alloc ?_ _ | with_reducible refine New.setCell ?_ (by first | (simp; done) | (simp; omega) | omega) _ | with_reducible refine New.trans ?_ (by with_reducible assumption)))) (ht6.out.new (by repeat (first | with_reducible exact New.refl _ | with_reducible assumption | with_reducible refine New.drew ?_ | with_reducible refine New.drewN ?_ _ | with_reducible refine New.alloc ?_ _ | with_reducible refine New.setCell ?_ (by first | (simp; done) | (simp; omega) | omega) _ | with_reducible refine New.trans ?_ (by with_reducible assumption))))).mono ?_; rintro e w8 ⟨r8, rfl, b8, o8⟩
    replace o8 := Lib.hid o8
    obtain ⟨c8, f8⟩ := b8.rules
    have z8 := b8.size
    try simp only [World.size_alloc, World.size_drew, World.heap_drewN, World.size_setCell] at z8
    have z8_0 : w1.heap.size < w8.heap.size := by omega
    go_wp2_with fail
    refine (likeInts_eq _ _ C _ (RdI.new (own_rd o2.out) (by repeat (first | with_reducible exact New.refl _ | with_reducible assumption | with_reducible refine New.drew ?_ | with_reducible refine New.drewN ?_ _ | with_reducible refine New.alloc ?_ _ | with_reducible refine New.setCell ?_ (by first | (simp; done) | (simp; omega) | omega) _ | with_reducible refine New.trans ?_ (by with_reducible assumption)))) (RdI.new (own_rd o3.out) (by repeat (first | with_reducible exact New.refl _ | with_reducible assumption | with_reducible refine New.drew ?_ | with_reducible refine New.drewN ?_ _ | with_reducible refine New.alloc ?_ _ | with_reducible refine New.setCell ?_ (by first | (simp; done) | (simp; omega) | omega) _ | with_reducible refine New.trans ?_ (by with_reducible assumption))))).mono ?_; rintro e w9 ⟨rfl, b9⟩
    try with_reducible replace b9 := New.undrawN b9
    try with_reducible replace b9 := New.undraw b9
    obtain ⟨c9, f9⟩ := b9.rules
    have z9 := b9.size
    try simp only [World.size_alloc, World.size_drew, World.heap_drewN, World.size_setCell] at z9
    have z9_0 : w1.heap.size < w9.heap.size := by omega
    go_wp2_with fail
    refine (likeInts_eq _ _ D _ (RdI.new (own_rd o4.out) (by repeat (first | with_reducible exact New.refl _ | with_reducible assumption | with_reducible refine New.drew ?_ | with_reducible refine New.drewN ?_ _ | with_reducible refine New.alloc ?_ _ | with_reducible refine New.setCell ?_ (by first | (simp; done) | (simp; omega) | omega) _ | with_reducible refine New.trans ?_ (by with_reducible assumption)))) (RdI.new (own_rd o5.out) (by repeat (first | with_reducible exact New.refl _ | with_reducible assumption | with_reducible refine New.drew ?_ | with_reducible refine New.drewN ?_ _ | with_reducible refine New.alloc ?_ _ | with_reducible refine New.setCell ?_ (by first | (simp; done) | (simp; omega) | omega) _ | with_reducible refine New.trans ?_ (by with_reducible assumption))))).mono ?_; rintro e w10 ⟨rfl, b10⟩
    try with_reducible replace b10 := New.undrawN b10
    try with_reducible replace b10 := New.undraw b10
    obtain ⟨c10, f10⟩ := b10.rules
    have z10 := b10.size
    try simp only [World.size_alloc, World.size_drew, World.heap_drewN, World.size_setCell] at z10
    have z10_0 : w1.heap.size < w10.heap.size := by omega
    go_wp2_with fail
    by_cases hc : c = 0
    · subst hc
      obtain ⟨⟨hn1, hn2⟩, hxl, hyl, hX, hY, e0, e1⟩ := HZ.out rfl
      simp only [Prod.mk.injEq] at e0 e1
      obtain ⟨e0, -⟩ := e0
      obtain ⟨e1, rfl⟩ := e1
      have HP0 : Hid (∀ (k : Nat) (h : k < xs.length) (h' : k < ys.length), ((picked (sumP xs ys 0) xs.length).any (· == (k : Int))) = ((xs[k] + ys[k]) == 0)) := Lib.hid (fun k h h' => HP.out 0 k h hyl)
      have HP1 : Hid (∀ (k : Nat) (h : k < xs.length) (h' : k < ys.length), ((picked (sumP xs ys 1) xs.length).any (· == (k : Int))) = ((xs[k] + ys[k]) == 1)) := Lib.hid (fun k h h' => HP.out 1 k h hyl)
      rw [← e0] at HP0
      rw [← e1] at HP1
      replace hX := Lib.hid hX
      replace hY := Lib.hid hY
      clear e0 e1 HP HZ
      obtain ⟨_, _, ⟨⟩, hmx, HXC⟩ := RdI.open (show RdI w10 (.slice ua xs.length uc) xs from hu.out.new (by repeat (first | with_reducible exact New.refl _ | with_reducible assumption | with_reducible refine New.drew ?_ | with_reducible refine New.drewN ?_ _ | with_reducible refine New.alloc ?_ _ | with_reducible refine New.setCell ?_ (by first | (simp; done) | (simp; omega) | omega) _ | with_reducible refine New.trans ?_ (by with_reducible assumption))))
      obtain ⟨_, _, ⟨⟩, hmy, HYC⟩ := RdI.open (show RdI w10 (.slice va ys.length vc) ys from hu'.out.new (by repeat (first | with_reducible exact New.refl _ | with_reducible assumption | with_reducible refine New.drew ?_ | with_reducible refine New.drewN ?_ _ | with_reducible refine New.alloc ?_ _ | with_reducible refine New.setCell ?_ (by first | (simp; done) | (simp; omega) | omega) _ | with_reducible refine New.trans ?_ (by with_reducible assumption))))
      refine (likeInts_eq _ _ P _ (RdI.new (own_rd o7.out) (by repeat (first | with_reducible exact New.refl _ | with_reducible assumption | with_reducible refine New.drew ?_ | with_reducible refine New.drewN ?_ _ | with_reducible refine New.alloc ?_ _ | with_reducible refine New.setCell ?_ (by first | (simp; done) | (simp; omega) | omega) _ | with_reducible refine New.trans ?_ (by with_reducible assumption)))) (RdI.new (own_rd o8.out) (by repeat (first | with_reducible exact New.refl _ | with_reducible assumption | with_reducible refine New.drew ?_ | with_reducible refine New.drewN ?_ _ | with_reducible refine New.alloc ?_ _ | with_reducible refine New.setCell ?_ (by first | (simp; done) | (simp; omega) | omega) _ | with_reducible refine New.trans ?_ (by with_reducible assumption))))).mono ?_; rintro e w11 ⟨rfl, b11⟩
      try with_reducible replace b11 := New.undrawN b11
      try with_reducible replace b11 := New.undraw b11
      obtain ⟨c11, f11⟩ := b11.rules
      have z11 := b11.size
      try simp only [World.size_alloc, World.size_drew, World.heap_drewN, World.size_setCell] at z11
      have z11_0 : w1.heap.size < w11.heap.size := by omega
      go_wp2_with fail
      have hz11 : w1.heap.size < w11.heap.size := by omega
      have kx0 : w11.cell? ⟨w1.heap.size, 0, none⟩ = some (.slice ua xs.length uc) := by rw [c11 _ _ (by omega), c10 _ _ (by omega), c9 _ _ (by omega), c8 _ _ (by omega), c7 _ _ (by simp; omega), cell_alloc_old _ _ _ _ (by simp; omega), cell_alloc_old _ _ _ _ (by omega), c6 _ _ (by omega), c5 _ _ (by omega), c4 _ _ (by omega), c3 _ _ (by omega), c2 _ _ (by simp)]; simp
      have kx1 : w11.cell? ⟨w1.heap.size, 1, none⟩ = some (.slice va xs.length vc) := by rw [c11 _ _ (by omega), c10 _ _ (by omega), c9 _ _ (by omega), c8 _ _ (by omega), c7 _ _ (by simp; omega), cell_alloc_old _ _ _ _ (by simp; omega), cell_alloc_old _ _ _ _ (by omega), c6 _ _ (by omega), c5 _ _ (by omega), c4 _ _ (by omega), c3 _ _ (by omega), c2 _ _ (by simp)]; simp [hyl]
      clear c11 c10 c9 c8 c7 c6 c5 c4 c3 c2 f11 f10 f9 f8 f7 f6 f5 f4 f3 f2
      have HYL := Lib.hid hyl
      clear hyl
      go_loopw [19] (fun i wr => ∃ j : Nat, j ≤ xs.length ∧ i = .int .i64 j ∧ New w11 wr) (fun i _ => xs.length - (intOf i).toNat)
      case atStart => exact ⟨0, Nat.zero_le _, rfl, New.refl _⟩
      case round =>
        obtain ⟨j, hj, rfl, hN⟩ := hrel
        have zN := hN.size
        obtain ⟨cN, fN⟩ := hN.rules
        have kw0 : wr.cell? ⟨w1.heap.size, 0, none⟩ = some (.slice ua xs.length uc) := (cN _ _ hz11).trans kx0
        have kw1 : wr.cell? ⟨w1.heap.size, 1, none⟩ = some (.slice va xs.length vc) := (cN _ _ hz11).trans kx1
        by_cases hlt : j < xs.length
        · have hjn : (j : Int) < n := by omega
          have hjy : j < ys.length := by rw [HYL.out]; exact hlt
          obtain ⟨bX, oX, rfl, hbX, hx⟩ := HXC.out wr (b11.trans hN) j hlt
          obtain ⟨bY, oY, rfl, hbY, hy⟩ := HYC.out wr (b11.trans hN) j hjy
          have hwz : w1.heap.size < wr.heap.size := by omega
          have hbX' : bX < wr.heap.size := by omega
          have hbY' : bY < wr.heap.size := by omega
          have hq0 := HP0.out j hlt hjy
          have hq1 := HP1.out j hlt hjy
          obtain ⟨h1, h2⟩ := hX.out j hlt
          obtain ⟨h3, h4⟩ := hY.out j hjy
          generalize xs[j] = a at hx hq0 hq1 h1 h2
          generalize ys[j] = b at hy hq0 hq1 h3 h4
          clear cN fN kx0 kx1
          rcases (by omega : a = 0 ∨ a = 1) with rfl | rfl
          · rcases (by omega : b = 0 ∨ b = 1) with rfl | rfl
            · skip
              have HQ0 := Lib.hid (fun (w0 : World) (h : RdI w0 (.slice a3 C.length c3') C) => (hasInt_any _ _ (j : Int) w0 h).mono (fun e w' ⟨h1, h2⟩ => (⟨h1, h2 ▸ New.refl _⟩ : _ ∧ New w0 w')))
              have HQ1 := Lib.hid (fun (w0 : World) (h : RdI w0 (.slice a5 D.length c5') D) => (hasInt_any _ _ (j : Int) w0 h).mono (fun e w' ⟨h1, h2⟩ => (⟨h1, h2 ▸ New.refl _⟩ : _ ∧ New w0 w')))
              rw [hq0, show ((0 : Int) + 0 == 0) = true by decide] at HQ0
              rw [hq1, show ((0 : Int) + 0 == 1) = false by decide] at HQ1
              clear hq0 hq1
              go_wp2_with fail
              refine RG.wp_facts [fun X _ => X = .slice a3 C.length c3', fun X _ => X = .int .i64 j, fun X _ => X = .bool true, fun X _ => X = .pointer (some ⟨w1.heap.size, 0, none⟩), fun X _ => X = .slice (some ⟨bX, oX, none⟩) xs.length uc, fun X _ => X = .int .i64 j, fun X _ => X = .pointer (some ⟨bX, oX + j, none⟩), fun X _ => X = .int .i64 0, fun X _ => X = .bool true, fun X _ => X = .bool true, fun X _ => X = .pointer (some ⟨w1.heap.size, 1, none⟩), fun X _ => X = .slice (some ⟨bY, oY, none⟩) xs.length vc, fun X _ => X = .int .i64 j, fun X _ => X = .pointer (some ⟨bY, oY + j, none⟩), fun X _ => X = .int .i64 0, fun X _ => X = .bool true, fun X _ => X = .bool true, fun X _ => X = .bool false, fun X _ => X = .bool false, fun X _ => X = .slice a5 D.length c5', fun X _ => X = .int .i64 j, fun X _ => X = .bool false, fun X _ => X = .pointer (some ⟨w1.heap.size, 0, none⟩), fun X _ => X = .slice (some ⟨bX, oX, none⟩) xs.length uc, fun X _ => X = .int .i64 j, fun X _ => X = .pointer (some ⟨bX, oX + j, none⟩), fun X _ => X = .int .i64 0, fun X _ => X = .pointer (some ⟨w1.heap.size, 1, none⟩), fun X _ => X = .slice (some ⟨bY, oY, none⟩) xs.length vc, fun X _ => X = .int .i64 j, fun X _ => X = .pointer (some ⟨bY, oY + j, none⟩), fun X _ => X = .int .i64 0, fun X _ => X = .bool false, fun X _ => X = .bool false, fun X _ => X = .bool false] (by kernel_rfl) (by kernel_rfl) ⟨RG.stable_eq _, RG.stable_eq _, RG.stable_eq _, RG.stable_eq _, RG.stable_eq _, RG.stable_eq _, RG.stable_eq _, RG.stable_eq _, RG.stable_eq _, RG.stable_eq _, RG.stable_eq _, RG.stable_eq _, RG.stable_eq _, RG.stable_eq _, RG.stable_eq _, RG.stable_eq _, RG.stable_eq _, RG.stable_eq _, RG.stable_eq _, RG.stable_eq _, RG.stable_eq _, RG.stable_eq _, RG.stable_eq _, RG.stable_eq _, RG.stable_eq _, RG.stable_eq _, RG.stable_eq _, RG.stable_eq _, RG.stable_eq _, RG.stable_eq _, RG.stable_eq _, RG.stable_eq _, RG.stable_eq _, RG.stable_eq _, RG.stable_eq _, trivial⟩ ?_ ?_
              · refine ⟨?_, ?_, ?_, ?_, ?_, ?_, ?_, ?_, ?_, ?_, ?_, ?_, ?_, ?_, ?_, ?_, ?_, ?_, ?_, ?_, ?_, ?_, ?_, ?_, ?_, ?_, ?_, ?_, ?_, ?_, ?_, ?_, ?_, ?_, ?_, trivial⟩
                · intro a w9 hw ho hk
                  refine .inl ⟨by rfl, ?_⟩
                  have t2 := ho 7 rfl
                  dsimp at t2
                  try with_reducible replace hw := New.undrawN hw
                  try with_reducible replace hw := New.undraw hw
                  obtain ⟨c, f'⟩ := hw.rules
                  go_simp
                  exact New.refl _
                · intro a w9 hw ho hk
                  refine .inl ⟨by rfl, ?_⟩
                  have t2 := ho 19 rfl
                  dsimp at t2
                  try with_reducible replace hw := New.undrawN hw
                  try with_reducible replace hw := New.undraw hw
                  obtain ⟨c, f'⟩ := hw.rules
                  go_simp
                  exact New.refl _
                · intro a w9 hw ho hk
                  refine .inl ⟨by rfl, ?_⟩
                  have t106 : a.tmps[106]?.getD undef = .slice a3 C.length c3' := hk 0 106 (by kernel_rfl) rfl
                  have t107 : a.tmps[107]?.getD undef = .int .i64 j := hk 1 107 (by kernel_rfl) rfl
                  go_simp
                  refine (HQ0.out _ (RdI.new (own_rd o3.out) (New.trans (by exact (by repeat (first | with_reducible exact New.refl _ | with_reducible assumption | with_reducible refine New.drew ?_ | with_reducible refine New.drewN ?_ _ | with_reducible refine New.alloc ?_ _ | with_reducible refine New.setCell ?_ (by first | (simp; done) | (simp; omega) | omega) _ | with_reducible refine New.trans ?_ (by with_reducible assumption)))) hw))).mono ?_; rintro e w2 ⟨rfl, hb⟩
                  first | exact ⟨hb, _, rfl, by simp⟩ | exact ⟨hb, by simp⟩
                · intro a w9 hw ho hk
                  refine .inl ⟨by rfl, ?_⟩
                  have t2 := ho 4 rfl
                  dsimp at t2
                  try with_reducible replace hw := New.undrawN hw
                  try with_reducible replace hw := New.undraw hw
                  obtain ⟨c, f'⟩ := hw.rules
                  go_simp
                  exact New.refl _
                · intro a w9 hw ho hk
                  refine .inl ⟨by rfl, ?_⟩
                  have t109 : a.tmps[109]?.getD undef = .pointer (some ⟨w1.heap.size, 0, none⟩) := hk 3 109 (by kernel_rfl) rfl
                  try with_reducible replace hw := New.undrawN hw
                  try with_reducible replace hw := New.undraw hw
                  obtain ⟨c, f'⟩ := hw.rules
                  go_simp
                  exact New.refl _
                · intro a w9 hw ho hk
                  refine .inl ⟨by rfl, ?_⟩
                  have t2 := ho 19 rfl
                  dsimp at t2
                  try with_reducible replace hw := New.undrawN hw
                  try with_reducible replace hw := New.undraw hw
                  obtain ⟨c, f'⟩ := hw.rules
                  go_simp
                  exact New.refl _
                · intro a w9 hw ho hk
                  refine .inl ⟨by rfl, ?_⟩
                  have t110 : a.tmps[110]?.getD undef = .slice (some ⟨bX, oX, none⟩) xs.length uc := hk 4 110 (by kernel_rfl) rfl
                  have t111 : a.tmps[111]?.getD undef = .int .i64 j := hk 5 111 (by kernel_rfl) rfl
                  go_simp
                  exact New.refl _
                · intro a w9 hw ho hk
                  refine .inl ⟨by rfl, ?_⟩
                  have t112 : a.tmps[112]?.getD undef = .pointer (some ⟨bX, oX + j, none⟩) := hk 6 112 (by kernel_rfl) rfl
                  try with_reducible replace hw := New.undrawN hw
                  try with_reducible replace hw := New.undraw hw
                  obtain ⟨c, f'⟩ := hw.rules
                  go_simp
                  exact New.refl _
                · intro a w9 hw ho hk
                  refine .inl ⟨by rfl, ?_⟩
                  have t113 : a.tmps[113]?.getD undef = .int .i64 0 := hk 7 113 (by kernel_rfl) rfl
                  go_simp
                  exact New.refl _
                · intro a w9 hw ho hk
                  refine .inl ⟨by rfl, ?_⟩
                  have t114 : a.tmps[114]?.getD undef = .bool true := hk 8 114 (by kernel_rfl) rfl
                  go_simp
                  exact New.refl _
                · intro a w9 hw ho hk
                  have t115 : a.tmps[115]?.getD undef = .bool true := hk 9 115 (by kernel_rfl) rfl
                  refine .inl ⟨by simp [Region.wanted, yielded, RG.look t115], ?_⟩
                  have t2 := ho 4 rfl
                  dsimp at t2
                  try with_reducible replace hw := New.undrawN hw
                  try with_reducible replace hw := New.undraw hw
                  obtain ⟨c, f'⟩ := hw.rules
                  go_simp
                  exact New.refl _
                · intro a w9 hw ho hk
                  have t115 : a.tmps[115]?.getD undef = .bool true := hk 9 115 (by kernel_rfl) rfl
                  refine .inl ⟨by simp [Region.wanted, yielded, RG.look t115], ?_⟩
                  have t116 : a.tmps[116]?.getD undef = .pointer (some ⟨w1.heap.size, 1, none⟩) := hk 10 116 (by kernel_rfl) rfl
                  try with_reducible replace hw := New.undrawN hw
                  try with_reducible replace hw := New.undraw hw
                  obtain ⟨c, f'⟩ := hw.rules
                  go_simp
                  exact New.refl _
                · intro a w9 hw ho hk
                  have t115 : a.tmps[115]?.getD undef = .bool true := hk 9 115 (by kernel_rfl) rfl
                  refine .inl ⟨by simp [Region.wanted, yielded, RG.look t115], ?_⟩
                  have t2 := ho 19 rfl
                  dsimp at t2
                  try with_reducible replace hw := New.undrawN hw
                  try with_reducible replace hw := New.undraw hw
                  obtain ⟨c, f'⟩ := hw.rules
                  go_simp
                  exact New.refl _
                · intro a w9 hw ho hk
                  have t115 : a.tmps[115]?.getD undef = .bool true := hk 9 115 (by kernel_rfl) rfl
                  refine .inl ⟨by simp [Region.wanted, yielded, RG.look t115], ?_⟩
                  have t117 : a.tmps[117]?.getD undef = .slice (some ⟨bY, oY, none⟩) xs.length vc := hk 11 117 (by kernel_rfl) rfl
                  have t118 : a.tmps[118]?.getD undef = .int .i64 j := hk 12 118 (by kernel_rfl) rfl
                  go_simp
                  exact New.refl _
                · intro a w9 hw ho hk
                  have t115 : a.tmps[115]?.getD undef = .bool true := hk 9 115 (by kernel_rfl) rfl
                  refine .inl ⟨by simp [Region.wanted, yielded, RG.look t115], ?_⟩
                  have t119 : a.tmps[119]?.getD undef = .pointer (some ⟨bY, oY + j, none⟩) := hk 13 119 (by kernel_rfl) rfl
                  try with_reducible replace hw := New.undrawN hw
                  try with_reducible replace hw := New.undraw hw
                  obtain ⟨c, f'⟩ := hw.rules
                  go_simp
                  exact New.refl _
                · intro a w9 hw ho hk
                  have t115 : a.tmps[115]?.getD undef = .bool true := hk 9 115 (by kernel_rfl) rfl
                  refine .inl ⟨by simp [Region.wanted, yielded, RG.look t115], ?_⟩
                  have t120 : a.tmps[120]?.getD undef = .int .i64 0 := hk 14 120 (by kernel_rfl) rfl
                  go_simp
                  exact New.refl _
                · intro a w9 hw ho hk
                  refine .inl ⟨by rfl, ?_⟩
                  have t115 : a.tmps[115]?.getD undef = .bool true := hk 9 115 (by kernel_rfl) rfl
                  have t121 : a.tmps[121]?.getD undef = .bool true := hk 15 121 (by kernel_rfl) rfl
                  go_simp
                  exact New.refl _
                · intro a w9 hw ho hk
                  refine .inl ⟨by rfl, ?_⟩
                  have t108 : a.tmps[108]?.getD undef = .bool true := hk 2 108 (by kernel_rfl) rfl
                  have t122 : a.tmps[122]?.getD undef = .bool true := hk 16 122 (by kernel_rfl) rfl
                  go_simp
                  exact New.refl _
                · intro a w9 hw ho hk
                  refine .inl ⟨by rfl, ?_⟩
                  have t123 : a.tmps[123]?.getD undef = .bool false := hk 17 123 (by kernel_rfl) rfl
                  go_simp
                  exact New.refl _
                · intro a w9 hw ho hk
                  have t124 : a.tmps[124]?.getD undef = .bool false := hk 18 124 (by kernel_rfl) rfl
                  refine .inl ⟨by simp [Region.wanted, yielded, RG.look t124], ?_⟩
                  have t2 := ho 11 rfl
                  dsimp at t2
                  try with_reducible replace hw := New.undrawN hw
                  try with_reducible replace hw := New.undraw hw
                  obtain ⟨c, f'⟩ := hw.rules
                  go_simp
                  exact New.refl _
                · intro a w9 hw ho hk
                  have t124 : a.tmps[124]?.getD undef = .bool false := hk 18 124 (by kernel_rfl) rfl
                  refine .inl ⟨by simp [Region.wanted, yielded, RG.look t124], ?_⟩
                  have t2 := ho 19 rfl
                  dsimp at t2
                  try with_reducible replace hw := New.undrawN hw
                  try with_reducible replace hw := New.undraw hw
                  obtain ⟨c, f'⟩ := hw.rules
                  go_simp
                  exact New.refl _
                · intro a w9 hw ho hk
                  have t124 : a.tmps[124]?.getD undef = .bool false := hk 18 124 (by kernel_rfl) rfl
                  refine .inl ⟨by simp [Region.wanted, yielded, RG.look t124], ?_⟩
                  have t125 : a.tmps[125]?.getD undef = .slice a5 D.length c5' := hk 19 125 (by kernel_rfl) rfl
                  have t126 : a.tmps[126]?.getD undef = .int .i64 j := hk 20 126 (by kernel_rfl) rfl
                  go_simp
                  refine (HQ1.out _ (RdI.new (own_rd o5.out) (New.trans (by exact (by repeat (first | with_reducible exact New.refl _ | with_reducible assumption | with_reducible refine New.drew ?_ | with_reducible refine New.drewN ?_ _ | with_reducible refine New.alloc ?_ _ | with_reducible refine New.setCell ?_ (by first | (simp; done) | (simp; omega) | omega) _ | with_reducible refine New.trans ?_ (by with_reducible assumption)))) hw))).mono ?_; rintro e w2 ⟨rfl, hb⟩
                  first | exact ⟨hb, _, rfl, by simp⟩ | exact ⟨hb, by simp⟩
                · intro a w9 hw ho hk
                  have t124 : a.tmps[124]?.getD undef = .bool false := hk 18 124 (by kernel_rfl) rfl
                  refine .inl ⟨by simp [Region.wanted, yielded, RG.look t124], ?_⟩
                  have t2 := ho 4 rfl
                  dsimp at t2
                  try with_reducible replace hw := New.undrawN hw
                  try with_reducible replace hw := New.undraw hw
                  obtain ⟨c, f'⟩ := hw.rules
                  go_simp
                  exact New.refl _
                · intro a w9 hw ho hk
                  have t124 : a.tmps[124]?.getD undef = .bool false := hk 18 124 (by kernel_rfl) rfl
                  refine .inl ⟨by simp [Region.wanted, yielded, RG.look t124], ?_⟩
                  have t128 : a.tmps[128]?.getD undef = .pointer (some ⟨w1.heap.size, 0, none⟩) := hk 22 128 (by kernel_rfl) rfl
                  try with_reducible replace hw := New.undrawN hw
                  try with_reducible replace hw := New.undraw hw
                  obtain ⟨c, f'⟩ := hw.rules
                  go_simp
                  exact New.refl _
                · intro a w9 hw ho hk
                  have t124 : a.tmps[124]?.getD undef = .bool false := hk 18 124 (by kernel_rfl) rfl
                  refine .inl ⟨by simp [Region.wanted, yielded, RG.look t124], ?_⟩
                  have t2 := ho 19 rfl
                  dsimp at t2
                  try with_reducible replace hw := New.undrawN hw
                  try with_reducible replace hw := New.undraw hw
                  obtain ⟨c, f'⟩ := hw.rules
                  go_simp
                  exact New.refl _
                · intro a w9 hw ho hk
                  have t124 : a.tmps[124]?.getD undef = .bool false := hk 18 124 (by kernel_rfl) rfl
                  refine .inl ⟨by simp [Region.wanted, yielded, RG.look t124], ?_⟩
                  have t129 : a.tmps[129]?.getD undef = .slice (some ⟨bX, oX, none⟩) xs.length uc := hk 23 129 (by kernel_rfl) rfl
                  have t130 : a.tmps[130]?.getD undef = .int .i64 j := hk 24 130 (by kernel_rfl) rfl
                  go_simp
                  exact New.refl _
                · intro a w9 hw ho hk
                  have t124 : a.tmps[124]?.getD undef = .bool false := hk 18 124 (by kernel_rfl) rfl
                  refine .inl ⟨by simp [Region.wanted, yielded, RG.look t124], ?_⟩
                  have t131 : a.tmps[131]?.getD undef = .pointer (some ⟨bX, oX + j, none⟩) := hk 25 131 (by kernel_rfl) rfl
                  try with_reducible replace hw := New.undrawN hw
                  try with_reducible replace hw := New.undraw hw
                  obtain ⟨c, f'⟩ := hw.rules
                  go_simp
                  exact New.refl _
                · intro a w9 hw ho hk
                  have t124 : a.tmps[124]?.getD undef = .bool false := hk 18 124 (by kernel_rfl) rfl
                  refine .inl ⟨by simp [Region.wanted, yielded, RG.look t124], ?_⟩
                  have t2 := ho 4 rfl
                  dsimp at t2
                  try with_reducible replace hw := New.undrawN hw
                  try with_reducible replace hw := New.undraw hw
                  obtain ⟨c, f'⟩ := hw.rules
                  go_simp
                  exact New.refl _
                · intro a w9 hw ho hk
                  have t124 : a.tmps[124]?.getD undef = .bool false := hk 18 124 (by kernel_rfl) rfl
                  refine .inl ⟨by simp [Region.wanted, yielded, RG.look t124], ?_⟩
                  have t133 : a.tmps[133]?.getD undef = .pointer (some ⟨w1.heap.size, 1, none⟩) := hk 27 133 (by kernel_rfl) rfl
                  try with_reducible replace hw := New.undrawN hw
                  try with_reducible replace hw := New.undraw hw
                  obtain ⟨c, f'⟩ := hw.rules
                  go_simp
                  exact New.refl _
                · intro a w9 hw ho hk
                  have t124 : a.tmps[124]?.getD undef = .bool false := hk 18 124 (by kernel_rfl) rfl
                  refine .inl ⟨by simp [Region.wanted, yielded, RG.look t124], ?_⟩
                  have t2 := ho 19 rfl
                  dsimp at t2
                  try with_reducible replace hw := New.undrawN hw
                  try with_reducible replace hw := New.undraw hw
                  obtain ⟨c, f'⟩ := hw.rules
                  go_simp
                  exact New.refl _
                · intro a w9 hw ho hk
                  have t124 : a.tmps[124]?.getD undef = .bool false := hk 18 124 (by kernel_rfl) rfl
                  refine .inl ⟨by simp [Region.wanted, yielded, RG.look t124], ?_⟩
                  have t134 : a.tmps[134]?.getD undef = .slice (some ⟨bY, oY, none⟩) xs.length vc := hk 28 134 (by kernel_rfl) rfl
                  have t135 : a.tmps[135]?.getD undef = .int .i64 j := hk 29 135 (by kernel_rfl) rfl
                  go_simp
                  exact New.refl _
                · intro a w9 hw ho hk
                  have t124 : a.tmps[124]?.getD undef = .bool false := hk 18 124 (by kernel_rfl) rfl
                  refine .inl ⟨by simp [Region.wanted, yielded, RG.look t124], ?_⟩
                  have t136 : a.tmps[136]?.getD undef = .pointer (some ⟨bY, oY + j, none⟩) := hk 30 136 (by kernel_rfl) rfl
                  try with_reducible replace hw := New.undrawN hw
                  try with_reducible replace hw := New.undraw hw
                  obtain ⟨c, f'⟩ := hw.rules
                  go_simp
                  exact New.refl _
                · intro a w9 hw ho hk
                  have t124 : a.tmps[124]?.getD undef = .bool false := hk 18 124 (by kernel_rfl) rfl
                  refine .inl ⟨by simp [Region.wanted, yielded, RG.look t124], ?_⟩
                  have t132 : a.tmps[132]?.getD undef = .int .i64 0 := hk 26 132 (by kernel_rfl) rfl
                  have t137 : a.tmps[137]?.getD undef = .int .i64 0 := hk 31 137 (by kernel_rfl) rfl
                  go_simp
                  exact New.refl _
                · intro a w9 hw ho hk
                  have t124 : a.tmps[124]?.getD undef = .bool false := hk 18 124 (by kernel_rfl) rfl
                  refine .inl ⟨by simp [Region.wanted, yielded, RG.look t124], ?_⟩
                  have t127 : a.tmps[127]?.getD undef = .bool false := hk 21 127 (by kernel_rfl) rfl
                  have t138 : a.tmps[138]?.getD undef = .bool false := hk 32 138 (by kernel_rfl) rfl
                  go_simp
                  exact New.refl _
                · intro a w9 hw ho hk
                  refine .inl ⟨by rfl, ?_⟩
                  have t124 : a.tmps[124]?.getD undef = .bool false := hk 18 124 (by kernel_rfl) rfl
                  have t139 : a.tmps[139]?.getD undef = .bool false := hk 33 139 (by kernel_rfl) rfl
                  go_simp
                  exact New.refl _
              intro w12 b12 y0 g0 y1 g1 y2 g2 y3 g3 y4 g4 y5 g5 y6 g6 y7 g7 y8 g8 y9 g9 y10 g10 y11 g11 y12 g12 y13 g13 y14 g14 y15 g15 y16 g16 y17 g17 y18 g18 y19 g19 y20 g20 y21 g21 y22 g22 y23 g23 y24 g24 y25 g25 y26 g26 y27 g27 y28 g28 y29 g29 y30 g30 y31 g31 y32 g32 y33 g33 y34 g34
              subst g0 g1 g2 g3 g4 g5 g6 g7 g8 g9 g10 g11 g12 g13 g14 g15 g16 g17 g18 g19 g20 g21 g22 g23 g24 g25 g26 g27 g28 g29 g30 g31 g32 g33 g34
              try with_reducible replace b12 := New.undrawN b12
              try with_reducible replace b12 := New.undraw b12
              obtain ⟨c12, f12⟩ := b12.rules
              have z12 := b12.size
              try simp only [World.size_alloc, World.size_drew, World.heap_drewN, World.size_setCell] at z12
              simp only [RG.EndAll, List.nil_append, List.cons_append, List.length_cons, List.length_nil, Nat.zero_add, Nat.reduceAdd, List.take_succ_cons, List.take_zero, List.drop_succ_cons, List.drop_zero, RG.putAll, Act.put, List.setIfInBounds_toArray, List.set_cons_succ, List.set_cons_zero]
              go_wp2_with fail
              go_roundw
              case rel => exact ⟨j + 1, by omega, by go_num, (by repeat (first | with_reducible exact New.refl _ | with_reducible assumption | with_reducible refine New.drew ?_ | with_reducible refine New.drewN ?_ _ | with_reducible refine New.alloc ?_ _ | with_reducible refine New.setCell ?_ (by first | (simp; done) | (simp; omega) | omega) _ | with_reducible refine New.trans ?_ (by with_reducible assumption)))⟩
              case measure => simp [intOf]; omega
            · skip
              have HQ0 := Lib.hid (fun (w0 : World) (h : RdI w0 (.slice a3 C.length c3') C) => (hasInt_any _ _ (j : Int) w0 h).mono (fun e w' ⟨h1, h2⟩ => (⟨h1, h2 ▸ New.refl _⟩ : _ ∧ New w0 w')))
              have HQ1 := Lib.hid (fun (w0 : World) (h : RdI w0 (.slice a5 D.length c5') D) => (hasInt_any _ _ (j : Int) w0 h).mono (fun e w' ⟨h1, h2⟩ => (⟨h1, h2 ▸ New.refl _⟩ : _ ∧ New w0 w')))
              rw [hq0, show ((0 : Int) + 1 == 0) = false by decide] at HQ0
              rw [hq1, show ((0 : Int) + 1 == 1) = true by decide] at HQ1
              clear hq0 hq1
              go_wp2_with fail
              refine RG.wp_facts [fun X _ => X = .slice a3 C.length c3', fun X _ => X = .int .i64 j, fun X _ => X = .bool false, fun X _ => X = .pointer (some ⟨w1.heap.size, 0, none⟩), fun X _ => X = .slice (some ⟨bX, oX, none⟩) xs.length uc, fun X _ => X = .int .i64 j, fun X _ => X = .pointer (some ⟨bX, oX + j, none⟩), fun X _ => X = .int .i64 0, fun X _ => X = .bool true, fun X _ => X = .bool true, fun X _ => X = .pointer (some ⟨w1.heap.size, 1, none⟩), fun X _ => X = .slice (some ⟨bY, oY, none⟩) xs.length vc, fun X _ => X = .int .i64 j, fun X _ => X = .pointer (some ⟨bY, oY + j, none⟩), fun X _ => X = .int .i64 1, fun X _ => X = .bool false, fun X _ => X = .bool false, fun X _ => X = .bool false, fun X _ => X = .bool false, fun X _ => X = .slice a5 D.length c5', fun X _ => X = .int .i64 j, fun X _ => X = .bool true, fun X _ => X = .pointer (some ⟨w1.heap.size, 0, none⟩), fun X _ => X = .slice (some ⟨bX, oX, none⟩) xs.length uc, fun X _ => X = .int .i64 j, fun X _ => X = .pointer (some ⟨bX, oX + j, none⟩), fun X _ => X = .int .i64 0, fun X _ => X = .pointer (some ⟨w1.heap.size, 1, none⟩), fun X _ => X = .slice (some ⟨bY, oY, none⟩) xs.length vc, fun X _ => X = .int .i64 j, fun X _ => X = .pointer (some ⟨bY, oY + j, none⟩), fun X _ => X = .int .i64 1, fun X _ => X = .bool true, fun X _ => X = .bool false, fun X _ => X = .bool false] (by kernel_rfl) (by kernel_rfl) ⟨RG.stable_eq _, RG.stable_eq _, RG.stable_eq _, RG.stable_eq _, RG.stable_eq _, RG.stable_eq _, RG.stable_eq _, RG.stable_eq _, RG.stable_eq _, RG.stable_eq _, RG.stable_eq _, RG.stable_eq _, RG.stable_eq _, RG.stable_eq _, RG.stable_eq _, RG.stable_eq _, RG.stable_eq _, RG.stable_eq _, RG.stable_eq _, RG.stable_eq _, RG.stable_eq _, RG.stable_eq _, RG.stable_eq _, RG.stable_eq _, RG.stable_eq _, RG.stable_eq _, RG.stable_eq _, RG.stable_eq _, RG.stable_eq _, RG.stable_eq _, RG.stable_eq _, RG.stable_eq _, RG.stable_eq _, RG.stable_eq _, RG.stable_eq _, trivial⟩ ?_ ?_
              · refine ⟨?_, ?_, ?_, ?_, ?_, ?_, ?_, ?_, ?_, ?_, ?_, ?_, ?_, ?_, ?_, ?_, ?_, ?_, ?_, ?_, ?_, ?_, ?_, ?_, ?_, ?_, ?_, ?_, ?_, ?_, ?_, ?_, ?_, ?_, ?_, trivial⟩
                · intro a w9 hw ho hk
                  refine .inl ⟨by rfl, ?_⟩
                  have t2 := ho 7 rfl
                  dsimp at t2
                  try with_reducible replace hw := New.undrawN hw
                  try with_reducible replace hw := New.undraw hw
                  obtain ⟨c, f'⟩ := hw.rules
                  go_simp
                  exact New.refl _
                · intro a w9 hw ho hk
                  refine .inl ⟨by rfl, ?_⟩
                  have t2 := ho 19 rfl
                  dsimp at t2
                  try with_reducible replace hw := New.undrawN hw
                  try with_reducible replace hw := New.undraw hw
                  obtain ⟨c, f'⟩ := hw.rules
                  go_simp
                  exact New.refl _
                · intro a w9 hw ho hk
                  refine .inl ⟨by rfl, ?_⟩
                  have t106 : a.tmps[106]?.getD undef = .slice a3 C.length c3' := hk 0 106 (by kernel_rfl) rfl
                  have t107 : a.tmps[107]?.getD undef = .int .i64 j := hk 1 107 (by kernel_rfl) rfl
                  go_simp
                  refine (HQ0.out _ (RdI.new (own_rd o3.out) (New.trans (by exact (by repeat (first | with_reducible exact New.refl _ | with_reducible assumption | with_reducible refine New.drew ?_ | with_reducible refine New.drewN ?_ _ | with_reducible refine New.alloc ?_ _ | with_reducible refine New.setCell ?_ (by first | (simp; done) | (simp; omega) | omega) _ | with_reducible refine New.trans ?_ (by with_reducible assumption)))) hw))).mono ?_; rintro e w2 ⟨rfl, hb⟩
                  first | exact ⟨hb, _, rfl, by simp⟩ | exact ⟨hb, by simp⟩
                · intro a w9 hw ho hk
                  refine .inl ⟨by rfl, ?_⟩
                  have t2 := ho 4 rfl
                  dsimp at t2
                  try with_reducible replace hw := New.undrawN hw
                  try with_reducible replace hw := New.undraw hw
                  obtain ⟨c, f'⟩ := hw.rules
                  go_simp
                  exact New.refl _
                · intro a w9 hw ho hk
                  refine .inl ⟨by rfl, ?_⟩
                  have t109 : a.tmps[109]?.getD undef = .pointer (some ⟨w1.heap.size, 0, none⟩) := hk 3 109 (by kernel_rfl) rfl
                  try with_reducible replace hw := New.undrawN hw
                  try with_reducible replace hw := New.undraw hw
                  obtain ⟨c, f'⟩ := hw.rules
                  go_simp
                  exact New.refl _
                · intro a w9 hw ho hk
                  refine .inl ⟨by rfl, ?_⟩
                  have t2 := ho 19 rfl
                  dsimp at t2
                  try with_reducible replace hw := New.undrawN hw
                  try with_reducible replace hw := New.undraw hw
                  obtain ⟨c, f'⟩ := hw.rules
                  go_simp
                  exact New.refl _
                · intro a w9 hw ho hk
                  refine .inl ⟨by rfl, ?_⟩
                  have t110 : a.tmps[110]?.getD undef = .slice (some ⟨bX, oX, none⟩) xs.length uc := hk 4 110 (by kernel_rfl) rfl
                  have t111 : a.tmps[111]?.getD undef = .int .i64 j := hk 5 111 (by kernel_rfl) rfl
                  go_simp
                  exact New.refl _
                · intro a w9 hw ho hk
                  refine .inl ⟨by rfl, ?_⟩
                  have t112 : a.tmps[112]?.getD undef = .pointer (some ⟨bX, oX + j, none⟩) := hk 6 112 (by kernel_rfl) rfl
                  try with_reducible replace hw := New.undrawN hw
                  try with_reducible replace hw := New.undraw hw
                  obtain ⟨c, f'⟩ := hw.rules
                  go_simp
                  exact New.refl _
                · intro a w9 hw ho hk
                  refine .inl ⟨by rfl, ?_⟩
                  have t113 : a.tmps[113]?.getD undef = .int .i64 0 := hk 7 113 (by kernel_rfl) rfl
                  go_simp
                  exact New.refl _
                · intro a w9 hw ho hk
                  refine .inl ⟨by rfl, ?_⟩
                  have t114 : a.tmps[114]?.getD undef = .bool true := hk 8 114 (by kernel_rfl) rfl
                  go_simp
                  exact New.refl _
                · intro a w9 hw ho hk
                  have t115 : a.tmps[115]?.getD undef = .bool true := hk 9 115 (by kernel_rfl) rfl
                  refine .inl ⟨by simp [Region.wanted, yielded, RG.look t115], ?_⟩
                  have t2 := ho 4 rfl
                  dsimp at t2
                  try with_reducible replace hw := New.undrawN hw
                  try with_reducible replace hw := New.undraw hw
                  obtain ⟨c, f'⟩ := hw.rules
                  go_simp
                  exact New.refl _
                · intro a w9 hw ho hk
                  have t115 : a.tmps[115]?.getD undef = .bool true := hk 9 115 (by kernel_rfl) rfl
                  refine .inl ⟨by simp [Region.wanted, yielded, RG.look t115], ?_⟩
                  have t116 : a.tmps[116]?.getD undef = .pointer (some ⟨w1.heap.size, 1, none⟩) := hk 10 116 (by kernel_rfl) rfl
                  try with_reducible replace hw := New.undrawN hw
                  try with_reducible replace hw := New.undraw hw
                  obtain ⟨c, f'⟩ := hw.rules
                  go_simp
                  exact New.refl _
                · intro a w9 hw ho hk
                  have t115 : a.tmps[115]?.getD undef = .bool true := hk 9 115 (by kernel_rfl) rfl
                  refine .inl ⟨by simp [Region.wanted, yielded, RG.look t115], ?_⟩
                  have t2 := ho 19 rfl
                  dsimp at t2
                  try with_reducible replace hw := New.undrawN hw
                  try with_reducible replace hw := New.undraw hw
                  obtain ⟨c, f'⟩ := hw.rules
                  go_simp
                  exact New.refl _
                · intro a w9 hw ho hk
                  have t115 : a.tmps[115]?.getD undef = .bool true := hk 9 115 (by kernel_rfl) rfl
                  refine .inl ⟨by simp [Region.wanted, yielded, RG.look t115], ?_⟩
                  have t117 : a.tmps[117]?.getD undef = .slice (some ⟨bY, oY, none⟩) xs.length vc := hk 11 117 (by kernel_rfl) rfl
                  have t118 : a.tmps[118]?.getD undef = .int .i64 j := hk 12 118 (by kernel_rfl) rfl
                  go_simp
                  exact New.refl _
                · intro a w9 hw ho hk
                  have t115 : a.tmps[115]?.getD undef = .bool true := hk 9 115 (by kernel_rfl) rfl
                  refine .inl ⟨by simp [Region.wanted, yielded, RG.look t115], ?_⟩
                  have t119 : a.tmps[119]?.getD undef = .pointer (some ⟨bY, oY + j, none⟩) := hk 13 119 (by kernel_rfl) rfl
                  try with_reducible replace hw := New.undrawN hw
                  try with_reducible replace hw := New.undraw hw
                  obtain ⟨c, f'⟩ := hw.rules
                  go_simp
                  exact New.refl _
                · intro a w9 hw ho hk
                  have t115 : a.tmps[115]?.getD undef = .bool true := hk 9 115 (by kernel_rfl) rfl
                  refine .inl ⟨by simp [Region.wanted, yielded, RG.look t115], ?_⟩
                  have t120 : a.tmps[120]?.getD undef = .int .i64 1 := hk 14 120 (by kernel_rfl) rfl
                  go_simp
                  exact New.refl _
                · intro a w9 hw ho hk
                  refine .inl ⟨by rfl, ?_⟩
                  have t115 : a.tmps[115]?.getD undef = .bool true := hk 9 115 (by kernel_rfl) rfl
                  have t121 : a.tmps[121]?.getD undef = .bool false := hk 15 121 (by kernel_rfl) rfl
                  go_simp
                  exact New.refl _
                · intro a w9 hw ho hk
                  refine .inl ⟨by rfl, ?_⟩
                  have t108 : a.tmps[108]?.getD undef = .bool false := hk 2 108 (by kernel_rfl) rfl
                  have t122 : a.tmps[122]?.getD undef = .bool false := hk 16 122 (by kernel_rfl) rfl
                  go_simp
                  exact New.refl _
                · intro a w9 hw ho hk
                  refine .inl ⟨by rfl, ?_⟩
                  have t123 : a.tmps[123]?.getD undef = .bool false := hk 17 123 (by kernel_rfl) rfl
                  go_simp
                  exact New.refl _
                · intro a w9 hw ho hk
                  have t124 : a.tmps[124]?.getD undef = .bool false := hk 18 124 (by kernel_rfl) rfl
                  refine .inl ⟨by simp [Region.wanted, yielded, RG.look t124], ?_⟩
                  have t2 := ho 11 rfl
                  dsimp at t2
                  try with_reducible replace hw := New.undrawN hw
                  try with_reducible replace hw := New.undraw hw
                  obtain ⟨c, f'⟩ := hw.rules
                  go_simp
                  exact New.refl _
                · intro a w9 hw ho hk
                  have t124 : a.tmps[124]?.getD undef = .bool false := hk 18 124 (by kernel_rfl) rfl
                  refine .inl ⟨by simp [Region.wanted, yielded, RG.look t124], ?_⟩
                  have t2 := ho 19 rfl
                  dsimp at t2
                  try with_reducible replace hw := New.undrawN hw
                  try with_reducible replace hw := New.undraw hw
                  obtain ⟨c, f'⟩ := hw.rules
                  go_simp
                  exact New.refl _
                · intro a w9 hw ho hk
                  have t124 : a.tmps[124]?.getD undef = .bool false := hk 18 124 (by kernel_rfl) rfl
                  refine .inl ⟨by simp [Region.wanted, yielded, RG.look t124], ?_⟩
                  have t125 : a.tmps[125]?.getD undef = .slice a5 D.length c5' := hk 19 125 (by kernel_rfl) rfl
                  have t126 : a.tmps[126]?.getD undef = .int .i64 j := hk 20 126 (by kernel_rfl) rfl
                  go_simp
                  refine (HQ1.out _ (RdI.new (own_rd o5.out) (New.trans (by exact (by repeat (first | with_reducible exact New.refl _ | with_reducible assumption | with_reducible refine New.drew ?_ | with_reducible refine New.drewN ?_ _ | with_reducible refine New.alloc ?_ _ | with_reducible refine New.setCell ?_ (by first | (simp; done) | (simp; omega) | omega) _ | with_reducible refine New.trans ?_ (by with_reducible assumption)))) hw))).mono ?_; rintro e w2 ⟨rfl, hb⟩
                  first | exact ⟨hb, _, rfl, by simp⟩ | exact ⟨hb, by simp⟩
                · intro a w9 hw ho hk
                  have t124 : a.tmps[124]?.getD undef = .bool false := hk 18 124 (by kernel_rfl) rfl
                  refine .inl ⟨by simp [Region.wanted, yielded, RG.look t124], ?_⟩
                  have t2 := ho 4 rfl
                  dsimp at t2
                  try with_reducible replace hw := New.undrawN hw
                  try with_reducible replace hw := New.undraw hw
                  obtain ⟨c, f'⟩ := hw.rules
                  go_simp
                  exact New.refl _
                · intro a w9 hw ho hk
                  have t124 : a.tmps[124]?.getD undef = .bool false := hk 18 124 (by kernel_rfl) rfl
                  refine .inl ⟨by simp [Region.wanted, yielded, RG.look t124], ?_⟩
                  have t128 : a.tmps[128]?.getD undef = .pointer (some ⟨w1.heap.size, 0, none⟩) := hk 22 128 (by kernel_rfl) rfl
                  try with_reducible replace hw := New.undrawN hw
                  try with_reducible replace hw := New.undraw hw
                  obtain ⟨c, f'⟩ := hw.rules
                  go_simp
                  exact New.refl _
                · intro a w9 hw ho hk
                  have t124 : a.tmps[124]?.getD undef = .bool false := hk 18 124 (by kernel_rfl) rfl
                  refine .inl ⟨by simp [Region.wanted, yielded, RG.look t124], ?_⟩
                  have t2 := ho 19 rfl
                  dsimp at t2
                  try with_reducible replace hw := New.undrawN hw
                  try with_reducible replace hw := New.undraw hw
                  obtain ⟨c, f'⟩ := hw.rules
                  go_simp
                  exact New.refl _
                · intro a w9 hw ho hk
                  have t124 : a.tmps[124]?.getD undef = .bool false := hk 18 124 (by kernel_rfl) rfl
                  refine .inl ⟨by simp [Region.wanted, yielded, RG.look t124], ?_⟩
                  have t129 : a.tmps[129]?.getD undef = .slice (some ⟨bX, oX, none⟩) xs.length uc := hk 23 129 (by kernel_rfl) rfl
                  have t130 : a.tmps[130]?.getD undef = .int .i64 j := hk 24 130 (by kernel_rfl) rfl
                  go_simp
                  exact New.refl _
                · intro a w9 hw ho hk
                  have t124 : a.tmps[124]?.getD undef = .bool false := hk 18 124 (by kernel_rfl) rfl
                  refine .inl ⟨by simp [Region.wanted, yielded, RG.look t124], ?_⟩
                  have t131 : a.tmps[131]?.getD undef = .pointer (some ⟨bX, oX + j, none⟩) := hk 25 131 (by kernel_rfl) rfl
                  try with_reducible replace hw := New.undrawN hw
                  try with_reducible replace hw := New.undraw hw
                  obtain ⟨c, f'⟩ := hw.rules
                  go_simp
                  exact New.refl _
                · intro a w9 hw ho hk
                  have t124 : a.tmps[124]?.getD undef = .bool false := hk 18 124 (by kernel_rfl) rfl
                  refine .inl ⟨by simp [Region.wanted, yielded, RG.look t124], ?_⟩
                  have t2 := ho 4 rfl
                  dsimp at t2
                  try with_reducible replace hw := New.undrawN hw
                  try with_reducible replace hw := New.undraw hw
                  obtain ⟨c, f'⟩ := hw.rules
                  go_simp
                  exact New.refl _
                · intro a w9 hw ho hk
                  have t124 : a.tmps[124]?.getD undef = .bool false := hk 18 124 (by kernel_rfl) rfl
                  refine .inl ⟨by simp [Region.wanted, yielded, RG.look t124], ?_⟩
                  have t133 : a.tmps[133]?.getD undef = .pointer (some ⟨w1.heap.size, 1, none⟩) := hk 27 133 (by kernel_rfl) rfl
                  try with_reducible replace hw := New.undrawN hw
                  try with_reducible replace hw := New.undraw hw
                  obtain ⟨c, f'⟩ := hw.rules
                  go_simp
                  exact New.refl _
                · intro a w9 hw ho hk
                  have t124 : a.tmps[124]?.getD undef = .bool false := hk 18 124 (by kernel_rfl) rfl
                  refine .inl ⟨by simp [Region.wanted, yielded, RG.look t124], ?_⟩
                  have t2 := ho 19 rfl
                  dsimp at t2
                  try with_reducible replace hw := New.undrawN hw
                  try with_reducible replace hw := New.undraw hw
                  obtain ⟨c, f'⟩ := hw.rules
                  go_simp
                  exact New.refl _
                · intro a w9 hw ho hk
                  have t124 : a.tmps[124]?.getD undef = .bool false := hk 18 124 (by kernel_rfl) rfl
                  refine .inl ⟨by simp [Region.wanted, yielded, RG.look t124], ?_⟩
                  have t134 : a.tmps[134]?.getD undef = .slice (some ⟨bY, oY, none⟩) xs.length vc := hk 28 134 (by kernel_rfl) rfl
                  have t135 : a.tmps[135]?.getD undef = .int .i64 j := hk 29 135 (by kernel_rfl) rfl
                  go_simp
                  exact New.refl _
                · intro a w9 hw ho hk
                  have t124 : a.tmps[124]?.getD undef = .bool false := hk 18 124 (by kernel_rfl) rfl
                  refine .inl ⟨by simp [Region.wanted, yielded, RG.look t124], ?_⟩
                  have t136 : a.tmps[136]?.getD undef = .pointer (some ⟨bY, oY + j, none⟩) := hk 30 136 (by kernel_rfl) rfl
                  try with_reducible replace hw := New.undrawN hw
                  try with_reducible replace hw := New.undraw hw
                  obtain ⟨c, f'⟩ := hw.rules
                  go_simp
                  exact New.refl _
                · intro a w9 hw ho hk
                  have t124 : a.tmps[124]?.getD undef = .bool false := hk 18 124 (by kernel_rfl) rfl
                  refine .inl ⟨by simp [Region.wanted, yielded, RG.look t124], ?_⟩
                  have t132 : a.tmps[132]?.getD undef = .int .i64 0 := hk 26 132 (by kernel_rfl) rfl
                  have t137 : a.tmps[137]?.getD undef = .int .i64 1 := hk 31 137 (by kernel_rfl) rfl
                  go_simp
                  exact New.refl _
                · intro a w9 hw ho hk
                  have t124 : a.tmps[124]?.getD undef = .bool false := hk 18 124 (by kernel_rfl) rfl
                  refine .inl ⟨by simp [Region.wanted, yielded, RG.look t124], ?_⟩
                  have t127 : a.tmps[127]?.getD undef = .bool true := hk 21 127 (by kernel_rfl) rfl
                  have t138 : a.tmps[138]?.getD undef = .bool true := hk 32 138 (by kernel_rfl) rfl
                  go_simp
                  exact New.refl _
                · intro a w9 hw ho hk
                  refine .inl ⟨by rfl, ?_⟩
                  have t124 : a.tmps[124]?.getD undef = .bool false := hk 18 124 (by kernel_rfl) rfl
                  have t139 : a.tmps[139]?.getD undef = .bool false := hk 33 139 (by kernel_rfl) rfl
                  go_simp
                  exact New.refl _
              intro w12 b12 y0 g0 y1 g1 y2 g2 y3 g3 y4 g4 y5 g5 y6 g6 y7 g7 y8 g8 y9 g9 y10 g10 y11 g11 y12 g12 y13 g13 y14 g14 y15 g15 y16 g16 y17 g17 y18 g18 y19 g19 y20 g20 y21 g21 y22 g22 y23 g23 y24 g24 y25 g25 y26 g26 y27 g27 y28 g28 y29 g29 y30 g30 y31 g31 y32 g32 y33 g33 y34 g34
              subst g0 g1 g2 g3 g4 g5 g6 g7 g8 g9 g10 g11 g12 g13 g14 g15 g16 g17 g18 g19 g20 g21 g22 g23 g24 g25 g26 g27 g28 g29 g30 g31 g32 g33 g34
              try with_reducible replace b12 := New.undrawN b12
              try with_reducible replace b12 := New.undraw b12
              obtain ⟨c12, f12⟩ := b12.rules
              have z12 := b12.size
              try simp only [World.size_alloc, World.size_drew, World.heap_drewN, World.size_setCell] at z12
              simp only [RG.EndAll, List.nil_append, List.cons_append, List.length_cons, List.length_nil, Nat.zero_add, Nat.reduceAdd, List.take_succ_cons, List.take_zero, List.drop_succ_cons, List.drop_zero, RG.putAll, Act.put, List.setIfInBounds_toArray, List.set_cons_succ, List.set_cons_zero]
              go_wp2_with fail
              go_roundw
              case rel => exact ⟨j + 1, by omega, by go_num, (by repeat (first | with_reducible exact New.refl _ | with_reducible assumption | with_reducible refine New.drew ?_ | with_reducible refine New.drewN ?_ _ | with_reducible refine New.alloc ?_ _ | with_reducible refine New.setCell ?_ (by first | (simp; done) | (simp; omega) | omega) _ | with_reducible refine New.trans ?_ (by with_reducible assumption)))⟩
              case measure => simp [intOf]; omega
          · rcases (by omega : b = 0 ∨ b = 1) with rfl | rfl
            · skip
              have HQ0 := Lib.hid (fun (w0 : World) (h : RdI w0 (.slice a3 C.length c3') C) => (hasInt_any _ _ (j : Int) w0 h).mono (fun e w' ⟨h1, h2⟩ => (⟨h1, h2 ▸ New.refl _⟩ : _ ∧ New w0 w')))
              have HQ1 := Lib.hid (fun (w0 : World) (h : RdI w0 (.slice a5 D.length c5') D) => (hasInt_any _ _ (j : Int) w0 h).mono (fun e w' ⟨h1, h2⟩ => (⟨h1, h2 ▸ New.refl _⟩ : _ ∧ New w0 w')))
              rw [hq0, show ((1 : Int) + 0 == 0) = false by decide] at HQ0
              rw [hq1, show ((1 : Int) + 0 == 1) = true by decide] at HQ1
              clear hq0 hq1
              go_wp2_with fail
              refine RG.wp_facts [fun X _ => X = .slice a3 C.length c3', fun X _ => X = .int .i64 j, fun X _ => X = .bool false, fun X _ => X = .pointer (some ⟨w1.heap.size, 0, none⟩), fun X _ => X = .slice (some ⟨bX, oX, none⟩) xs.length uc, fun X _ => X = .int .i64 j, fun X _ => X = .pointer (some ⟨bX, oX + j, none⟩), fun X _ => X = .int .i64 1, fun X _ => X = .bool false, fun X _ => X = .bool false, fun X _ => X = undef, fun X _ => X = undef, fun X _ => X = undef, fun X _ => X = undef, fun X _ => X = undef, fun X _ => X = undef, fun X _ => X = .bool false, fun X _ => X = .bool false, fun X _ => X = .bool false, fun X _ => X = .slice a5 D.length c5', fun X _ => X = .int .i64 j, fun X _ => X = .bool true, fun X _ => X = .pointer (some ⟨w1.heap.size, 0, none⟩), fun X _ => X = .slice (some ⟨bX, oX, none⟩) xs.length uc, fun X _ => X = .int .i64 j, fun X _ => X = .pointer (some ⟨bX, oX + j, none⟩), fun X _ => X = .int .i64 1, fun X _ => X = .pointer (some ⟨w1.heap.size, 1, none⟩), fun X _ => X = .slice (some ⟨bY, oY, none⟩) xs.length vc, fun X _ => X = .int .i64 j, fun X _ => X = .pointer (some ⟨bY, oY + j, none⟩), fun X _ => X = .int .i64 0, fun X _ => X = .bool true, fun X _ => X = .bool false, fun X _ => X = .bool false] (by kernel_rfl) (by kernel_rfl) ⟨RG.stable_eq _, RG.stable_eq _, RG.stable_eq _, RG.stable_eq _, RG.stable_eq _, RG.stable_eq _, RG.stable_eq _, RG.stable_eq _, RG.stable_eq _, RG.stable_eq _, RG.stable_eq _, RG.stable_eq _, RG.stable_eq _, RG.stable_eq _, RG.stable_eq _, RG.stable_eq _, RG.stable_eq _, RG.stable_eq _, RG.stable_eq _, RG.stable_eq _, RG.stable_eq _, RG.stable_eq _, RG.stable_eq _, RG.stable_eq _, RG.stable_eq _, RG.stable_eq _, RG.stable_eq _, RG.stable_eq _, RG.stable_eq _, RG.stable_eq _, RG.stable_eq _, RG.stable_eq _, RG.stable_eq _, RG.stable_eq _, RG.stable_eq _, trivial⟩ ?_ ?_
              · refine ⟨?_, ?_, ?_, ?_, ?_, ?_, ?_, ?_, ?_, ?_, ?_, ?_, ?_, ?_, ?_, ?_, ?_, ?_, ?_, ?_, ?_, ?_, ?_, ?_, ?_, ?_, ?_, ?_, ?_, ?_, ?_, ?_, ?_, ?_, ?_, trivial⟩
                · intro a w9 hw ho hk
                  refine .inl ⟨by rfl, ?_⟩
                  have t2 := ho 7 rfl
                  dsimp at t2
                  try with_reducible replace hw := New.undrawN hw
                  try with_reducible replace hw := New.undraw hw
                  obtain ⟨c, f'⟩ := hw.rules
                  go_simp
                  exact New.refl _
                · intro a w9 hw ho hk
                  refine .inl ⟨by rfl, ?_⟩
                  have t2 := ho 19 rfl
                  dsimp at t2
                  try with_reducible replace hw := New.undrawN hw
                  try with_reducible replace hw := New.undraw hw
                  obtain ⟨c, f'⟩ := hw.rules
                  go_simp
                  exact New.refl _
                · intro a w9 hw ho hk
                  refine .inl ⟨by rfl, ?_⟩
                  have t106 : a.tmps[106]?.getD undef = .slice a3 C.length c3' := hk 0 106 (by kernel_rfl) rfl
                  have t107 : a.tmps[107]?.getD undef = .int .i64 j := hk 1 107 (by kernel_rfl) rfl
                  go_simp
                  refine (HQ0.out _ (RdI.new (own_rd o3.out) (New.trans (by exact (by repeat (first | with_reducible exact New.refl _ | with_reducible assumption | with_reducible refine New.drew ?_ | with_reducible refine New.drewN ?_ _ | with_reducible refine New.alloc ?_ _ | with_reducible refine New.setCell ?_ (by first | (simp; done) | (simp; omega) | omega) _ | with_reducible refine New.trans ?_ (by with_reducible assumption)))) hw))).mono ?_; rintro e w2 ⟨rfl, hb⟩
                  first | exact ⟨hb, _, rfl, by simp⟩ | exact ⟨hb, by simp⟩
                · intro a w9 hw ho hk
                  refine .inl ⟨by rfl, ?_⟩
                  have t2 := ho 4 rfl
                  dsimp at t2
                  try with_reducible replace hw := New.undrawN hw
                  try with_reducible replace hw := New.undraw hw
                  obtain ⟨c, f'⟩ := hw.rules
                  go_simp
                  exact New.refl _
                · intro a w9 hw ho hk
                  refine .inl ⟨by rfl, ?_⟩
                  have t109 : a.tmps[109]?.getD undef = .pointer (some ⟨w1.heap.size, 0, none⟩) := hk 3 109 (by kernel_rfl) rfl
                  try with_reducible replace hw := New.undrawN hw
                  try with_reducible replace hw := New.undraw hw
                  obtain ⟨c, f'⟩ := hw.rules
                  go_simp
                  exact New.refl _
                · intro a w9 hw ho hk
                  refine .inl ⟨by rfl, ?_⟩
                  have t2 := ho 19 rfl
                  dsimp at t2
                  try with_reducible replace hw := New.undrawN hw
                  try with_reducible replace hw := New.undraw hw
                  obtain ⟨c, f'⟩ := hw.rules
                  go_simp
                  exact New.refl _
                · intro a w9 hw ho hk
                  refine .inl ⟨by rfl, ?_⟩
                  have t110 : a.tmps[110]?.getD undef = .slice (some ⟨bX, oX, none⟩) xs.length uc := hk 4 110 (by kernel_rfl) rfl
                  have t111 : a.tmps[111]?.getD undef = .int .i64 j := hk 5 111 (by kernel_rfl) rfl
                  go_simp
                  exact New.refl _
                · intro a w9 hw ho hk
                  refine .inl ⟨by rfl, ?_⟩
                  have t112 : a.tmps[112]?.getD undef = .pointer (some ⟨bX, oX + j, none⟩) := hk 6 112 (by kernel_rfl) rfl
                  try with_reducible replace hw := New.undrawN hw
                  try with_reducible replace hw := New.undraw hw
                  obtain ⟨c, f'⟩ := hw.rules
                  go_simp
                  exact New.refl _
                · intro a w9 hw ho hk
                  refine .inl ⟨by rfl, ?_⟩
                  have t113 : a.tmps[113]?.getD undef = .int .i64 1 := hk 7 113 (by kernel_rfl) rfl
                  go_simp
                  exact New.refl _
                · intro a w9 hw ho hk
                  refine .inl ⟨by rfl, ?_⟩
                  have t114 : a.tmps[114]?.getD undef = .bool false := hk 8 114 (by kernel_rfl) rfl
                  go_simp
                  exact New.refl _
                · intro a w9 hw ho hk
                  have t115 : a.tmps[115]?.getD undef = .bool false := hk 9 115 (by kernel_rfl) rfl
                  exact .inr ⟨by simp [Region.wanted, yielded, RG.look t115], rfl⟩
                · intro a w9 hw ho hk
                  have t115 : a.tmps[115]?.getD undef = .bool false := hk 9 115 (by kernel_rfl) rfl
                  exact .inr ⟨by simp [Region.wanted, yielded, RG.look t115], rfl⟩
                · intro a w9 hw ho hk
                  have t115 : a.tmps[115]?.getD undef = .bool false := hk 9 115 (by kernel_rfl) rfl
                  exact .inr ⟨by simp [Region.wanted, yielded, RG.look t115], rfl⟩
                · intro a w9 hw ho hk
                  have t115 : a.tmps[115]?.getD undef = .bool false := hk 9 115 (by kernel_rfl) rfl
                  exact .inr ⟨by simp [Region.wanted, yielded, RG.look t115], rfl⟩
                · intro a w9 hw ho hk
                  have t115 : a.tmps[115]?.getD undef = .bool false := hk 9 115 (by kernel_rfl) rfl
                  exact .inr ⟨by simp [Region.wanted, yielded, RG.look t115], rfl⟩
                · intro a w9 hw ho hk
                  have t115 : a.tmps[115]?.getD undef = .bool false := hk 9 115 (by kernel_rfl) rfl
                  exact .inr ⟨by simp [Region.wanted, yielded, RG.look t115], rfl⟩
                · intro a w9 hw ho hk
                  refine .inl ⟨by rfl, ?_⟩
                  have t115 : a.tmps[115]?.getD undef = .bool false := hk 9 115 (by kernel_rfl) rfl
                  go_simp
                  exact New.refl _
                · intro a w9 hw ho hk
                  refine .inl ⟨by rfl, ?_⟩
                  have t108 : a.tmps[108]?.getD undef = .bool false := hk 2 108 (by kernel_rfl) rfl
                  have t122 : a.tmps[122]?.getD undef = .bool false := hk 16 122 (by kernel_rfl) rfl
                  go_simp
                  exact New.refl _
                · intro a w9 hw ho hk
                  refine .inl ⟨by rfl, ?_⟩
                  have t123 : a.tmps[123]?.getD undef = .bool false := hk 17 123 (by kernel_rfl) rfl
                  go_simp
                  exact New.refl _
                · intro a w9 hw ho hk
                  have t124 : a.tmps[124]?.getD undef = .bool false := hk 18 124 (by kernel_rfl) rfl
                  refine .inl ⟨by simp [Region.wanted, yielded, RG.look t124], ?_⟩
                  have t2 := ho 11 rfl
                  dsimp at t2
                  try with_reducible replace hw := New.undrawN hw
                  try with_reducible replace hw := New.undraw hw
                  obtain ⟨c, f'⟩ := hw.rules
                  go_simp
                  exact New.refl _
                · intro a w9 hw ho hk
                  have t124 : a.tmps[124]?.getD undef = .bool false := hk 18 124 (by kernel_rfl) rfl
                  refine .inl ⟨by simp [Region.wanted, yielded, RG.look t124], ?_⟩
                  have t2 := ho 19 rfl
                  dsimp at t2
                  try with_reducible replace hw := New.undrawN hw
                  try with_reducible replace hw := New.undraw hw
                  obtain ⟨c, f'⟩ := hw.rules
                  go_simp
                  exact New.refl _
                · intro a w9 hw ho hk
                  have t124 : a.tmps[124]?.getD undef = .bool false := hk 18 124 (by kernel_rfl) rfl
                  refine .inl ⟨by simp [Region.wanted, yielded, RG.look t124], ?_⟩
                  have t125 : a.tmps[125]?.getD undef = .slice a5 D.length c5' := hk 19 125 (by kernel_rfl) rfl
                  have t126 : a.tmps[126]?.getD undef = .int .i64 j := hk 20 126 (by kernel_rfl) rfl
                  go_simp
                  refine (HQ1.out _ (RdI.new (own_rd o5.out) (New.trans (by exact (by repeat (first | with_reducible exact New.refl _ | with_reducible assumption | with_reducible refine New.drew ?_ | with_reducible refine New.drewN ?_ _ | with_reducible refine New.alloc ?_ _ | with_reducible refine New.setCell ?_ (by first | (simp; done) | (simp; omega) | omega) _ | with_reducible refine New.trans ?_ (by with_reducible assumption)))) hw))).mono ?_; rintro e w2 ⟨rfl, hb⟩
                  first | exact ⟨hb, _, rfl, by simp⟩ | exact ⟨hb, by simp⟩
                · intro a w9 hw ho hk
                  have t124 : a.tmps[124]?.getD undef = .bool false := hk 18 124 (by kernel_rfl) rfl
                  refine .inl ⟨by simp [Region.wanted, yielded, RG.look t124], ?_⟩
                  have t2 := ho 4 rfl
                  dsimp at t2
                  try with_reducible replace hw := New.undrawN hw
                  try with_reducible replace hw := New.undraw hw
                  obtain ⟨c, f'⟩ := hw.rules
                  go_simp
                  exact New.refl _
                · intro a w9 hw ho hk
                  have t124 : a.tmps[124]?.getD undef = .bool false := hk 18 124 (by kernel_rfl) rfl
                  refine .inl ⟨by simp [Region.wanted, yielded, RG.look t124], ?_⟩
                  have t128 : a.tmps[128]?.getD undef = .pointer (some ⟨w1.heap.size, 0, none⟩) := hk 22 128 (by kernel_rfl) rfl
                  try with_reducible replace hw := New.undrawN hw
                  try with_reducible replace hw := New.undraw hw
                  obtain ⟨c, f'⟩ := hw.rules
                  go_simp
                  exact New.refl _
                · intro a w9 hw ho hk
                  have t124 : a.tmps[124]?.getD undef = .bool false := hk 18 124 (by kernel_rfl) rfl
                  refine .inl ⟨by simp [Region.wanted, yielded, RG.look t124], ?_⟩
                  have t2 := ho 19 rfl
                  dsimp at t2
                  try with_reducible replace hw := New.undrawN hw
                  try with_reducible replace hw := New.undraw hw
                  obtain ⟨c, f'⟩ := hw.rules
                  go_simp
                  exact New.refl _
                · intro a w9 hw ho hk
                  have t124 : a.tmps[124]?.getD undef = .bool false := hk 18 124 (by kernel_rfl) rfl
                  refine .inl ⟨by simp [Region.wanted, yielded, RG.look t124], ?_⟩
                  have t129 : a.tmps[129]?.getD undef = .slice (some ⟨bX, oX, none⟩) xs.length uc := hk 23 129 (by kernel_rfl) rfl
                  have t130 : a.tmps[130]?.getD undef = .int .i64 j := hk 24 130 (by kernel_rfl) rfl
                  go_simp
                  exact New.refl _
                · intro a w9 hw ho hk
                  have t124 : a.tmps[124]?.getD undef = .bool false := hk 18 124 (by kernel_rfl) rfl
                  refine .inl ⟨by simp [Region.wanted, yielded, RG.look t124], ?_⟩
                  have t131 : a.tmps[131]?.getD undef = .pointer (some ⟨bX, oX + j, none⟩) := hk 25 131 (by kernel_rfl) rfl
                  try with_reducible replace hw := New.undrawN hw
                  try with_reducible replace hw := New.undraw hw
                  obtain ⟨c, f'⟩ := hw.rules
                  go_simp
                  exact New.refl _
                · intro a w9 hw ho hk
                  have t124 : a.tmps[124]?.getD undef = .bool false := hk 18 124 (by kernel_rfl) rfl
                  refine .inl ⟨by simp [Region.wanted, yielded, RG.look t124], ?_⟩
                  have t2 := ho 4 rfl
                  dsimp at t2
                  try with_reducible replace hw := New.undrawN hw
                  try with_reducible replace hw := New.undraw hw
                  obtain ⟨c, f'⟩ := hw.rules
                  go_simp
                  exact New.refl _
                · intro a w9 hw ho hk
                  have t124 : a.tmps[124]?.getD undef = .bool false := hk 18 124 (by kernel_rfl) rfl
                  refine .inl ⟨by simp [Region.wanted, yielded, RG.look t124], ?_⟩
                  have t133 : a.tmps[133]?.getD undef = .pointer (some ⟨w1.heap.size, 1, none⟩) := hk 27 133 (by kernel_rfl) rfl
                  try with_reducible replace hw := New.undrawN hw
                  try with_reducible replace hw := New.undraw hw
                  obtain ⟨c, f'⟩ := hw.rules
                  go_simp
                  exact New.refl _
                · intro a w9 hw ho hk
                  have t124 : a.tmps[124]?.getD undef = .bool false := hk 18 124 (by kernel_rfl) rfl
                  refine .inl ⟨by simp [Region.wanted, yielded, RG.look t124], ?_⟩
                  have t2 := ho 19 rfl
                  dsimp at t2
                  try with_reducible replace hw := New.undrawN hw
                  try with_reducible replace hw := New.undraw hw
                  obtain ⟨c, f'⟩ := hw.rules
                  go_simp
                  exact New.refl _
                · intro a w9 hw ho hk
                  have t124 : a.tmps[124]?.getD undef = .bool false := hk 18 124 (by kernel_rfl) rfl
                  refine .inl ⟨by simp [Region.wanted, yielded, RG.look t124], ?_⟩
                  have t134 : a.tmps[134]?.getD undef = .slice (some ⟨bY, oY, none⟩) xs.length vc := hk 28 134 (by kernel_rfl) rfl
                  have t135 : a.tmps[135]?.getD undef = .int .i64 j := hk 29 135 (by kernel_rfl) rfl
                  go_simp
                  exact New.refl _
                · intro a w9 hw ho hk
                  have t124 : a.tmps[124]?.getD undef = .bool false := hk 18 124 (by kernel_rfl) rfl
                  refine .inl ⟨by simp [Region.wanted, yielded, RG.look t124], ?_⟩
                  have t136 : a.tmps[136]?.getD undef = .pointer (some ⟨bY, oY + j, none⟩) := hk 30 136 (by kernel_rfl) rfl
                  try with_reducible replace hw := New.undrawN hw
                  try with_reducible replace hw := New.undraw hw
                  obtain ⟨c, f'⟩ := hw.rules
                  go_simp
                  exact New.refl _
                · intro a w9 hw ho hk
                  have t124 : a.tmps[124]?.getD undef = .bool false := hk 18 124 (by kernel_rfl) rfl
                  refine .inl ⟨by simp [Region.wanted, yielded, RG.look t124], ?_⟩
                  have t132 : a.tmps[132]?.getD undef = .int .i64 1 := hk 26 132 (by kernel_rfl) rfl
                  have t137 : a.tmps[137]?.getD undef = .int .i64 0 := hk 31 137 (by kernel_rfl) rfl
                  go_simp
                  exact New.refl _
                · intro a w9 hw ho hk
                  have t124 : a.tmps[124]?.getD undef = .bool false := hk 18 124 (by kernel_rfl) rfl
                  refine .inl ⟨by simp [Region.wanted, yielded, RG.look t124], ?_⟩
                  have t127 : a.tmps[127]?.getD undef = .bool true := hk 21 127 (by kernel_rfl) rfl
                  have t138 : a.tmps[138]?.getD undef = .bool true := hk 32 138 (by kernel_rfl) rfl
                  go_simp
                  exact New.refl _
                · intro a w9 hw ho hk
                  refine .inl ⟨by rfl, ?_⟩
                  have t124 : a.tmps[124]?.getD undef = .bool false := hk 18 124 (by kernel_rfl) rfl
                  have t139 : a.tmps[139]?.getD undef = .bool false := hk 33 139 (by kernel_rfl) rfl
                  go_simp
                  exact New.refl _
              intro w12 b12 y0 g0 y1 g1 y2 g2 y3 g3 y4 g4 y5 g5 y6 g6 y7 g7 y8 g8 y9 g9 y10 g10 y11 g11 y12 g12 y13 g13 y14 g14 y15 g15 y16 g16 y17 g17 y18 g18 y19 g19 y20 g20 y21 g21 y22 g22 y23 g23 y24 g24 y25 g25 y26 g26 y27 g27 y28 g28 y29 g29 y30 g30 y31 g31 y32 g32 y33 g33 y34 g34
              subst g0 g1 g2 g3 g4 g5 g6 g7 g8 g9 g10 g11 g12 g13 g14 g15 g16 g17 g18 g19 g20 g21 g22 g23 g24 g25 g26 g27 g28 g29 g30 g31 g32 g33 g34
              try with_reducible replace b12 := New.undrawN b12
              try with_reducible replace b12 := New.undraw b12
              obtain ⟨c12, f12⟩ := b12.rules
              have z12 := b12.size
              try simp only [World.size_alloc, World.size_drew, World.heap_drewN, World.size_setCell] at z12
              simp only [RG.EndAll, List.nil_append, List.cons_append, List.length_cons, List.length_nil, Nat.zero_add, Nat.reduceAdd, List.take_succ_cons, List.take_zero, List.drop_succ_cons, List.drop_zero, RG.putAll, Act.put, List.setIfInBounds_toArray, List.set_cons_succ, List.set_cons_zero]
              go_wp2_with fail
              go_roundw
              case rel => exact ⟨j + 1, by omega, by go_num, (by repeat (first | with_reducible exact New.refl _ | with_reducible assumption | with_reducible refine New.drew ?_ | with_reducible refine New.drewN ?_ _ | with_reducible refine New.alloc ?_ _ | with_reducible refine New.setCell ?_ (by first | (simp; done) | (simp; omega) | omega) _ | with_reducible refine New.trans ?_ (by with_reducible assumption)))⟩
              case measure => simp [intOf]; omega
            · skip
              have HQ0 := Lib.hid (fun (w0 : World) (h : RdI w0 (.slice a3 C.length c3') C) => (hasInt_any _ _ (j : Int) w0 h).mono (fun e w' ⟨h1, h2⟩ => (⟨h1, h2 ▸ New.refl _⟩ : _ ∧ New w0 w')))
              have HQ1 := Lib.hid (fun (w0 : World) (h : RdI w0 (.slice a5 D.length c5') D) => (hasInt_any _ _ (j : Int) w0 h).mono (fun e w' ⟨h1, h2⟩ => (⟨h1, h2 ▸ New.refl _⟩ : _ ∧ New w0 w')))
              rw [hq0, show ((1 : Int) + 1 == 0) = false by decide] at HQ0
              rw [hq1, show ((1 : Int) + 1 == 1) = false by decide] at HQ1
              clear hq0 hq1
              go_wp2_with fail
              refine RG.wp_facts [fun X _ => X = .slice a3 C.length c3', fun X _ => X = .int .i64 j, fun X _ => X = .bool false, fun X _ => X = .pointer (some ⟨w1.heap.size, 0, none⟩), fun X _ => X = .slice (some ⟨bX, oX, none⟩) xs.length uc, fun X _ => X = .int .i64 j, fun X _ => X = .pointer (some ⟨bX, oX + j, none⟩), fun X _ => X = .int .i64 1, fun X _ => X = .bool false, fun X _ => X = .bool false, fun X _ => X = undef, fun X _ => X = undef, fun X _ => X = undef, fun X _ => X = undef, fun X _ => X = undef, fun X _ => X = undef, fun X _ => X = .bool false, fun X _ => X = .bool false, fun X _ => X = .bool false, fun X _ => X = .slice a5 D.length c5', fun X _ => X = .int .i64 j, fun X _ => X = .bool false, fun X _ => X = .pointer (some ⟨w1.heap.size, 0, none⟩), fun X _ => X = .slice (some ⟨bX, oX, none⟩) xs.length uc, fun X _ => X = .int .i64 j, fun X _ => X = .pointer (some ⟨bX, oX + j, none⟩), fun X _ => X = .int .i64 1, fun X _ => X = .pointer (some ⟨w1.heap.size, 1, none⟩), fun X _ => X = .slice (some ⟨bY, oY, none⟩) xs.length vc, fun X _ => X = .int .i64 j, fun X _ => X = .pointer (some ⟨bY, oY + j, none⟩), fun X _ => X = .int .i64 1, fun X _ => X = .bool false, fun X _ => X = .bool false, fun X _ => X = .bool false] (by kernel_rfl) (by kernel_rfl) ⟨RG.stable_eq _, RG.stable_eq _, RG.stable_eq _, RG.stable_eq _, RG.stable_eq _, RG.stable_eq _, RG.stable_eq _, RG.stable_eq _, RG.stable_eq _, RG.stable_eq _, RG.stable_eq _, RG.stable_eq _, RG.stable_eq _, RG.stable_eq _, RG.stable_eq _, RG.stable_eq _, RG.stable_eq _, RG.stable_eq _, RG.stable_eq _, RG.stable_eq _, RG.stable_eq _, RG.stable_eq _, RG.stable_eq _, RG.stable_eq _, RG.stable_eq _, RG.stable_eq _, RG.stable_eq _, RG.stable_eq _, RG.stable_eq _, RG.stable_eq _, RG.stable_eq _, RG.stable_eq _, RG.stable_eq _, RG.stable_eq _, RG.stable_eq _, trivial⟩ ?_ ?_
              · refine ⟨?_, ?_, ?_, ?_, ?_, ?_, ?_, ?_, ?_, ?_, ?_, ?_, ?_, ?_, ?_, ?_, ?_, ?_, ?_, ?_, ?_, ?_, ?_, ?_, ?_, ?_, ?_, ?_, ?_, ?_, ?_, ?_, ?_, ?_, ?_, trivial⟩
                · intro a w9 hw ho hk
                  refine .inl ⟨by rfl, ?_⟩
                  have t2 := ho 7 rfl
                  dsimp at t2
                  try with_reducible replace hw := New.undrawN hw
                  try with_reducible replace hw := New.undraw hw
                  obtain ⟨c, f'⟩ := hw.rules
                  go_simp
                  exact New.refl _
                · intro a w9 hw ho hk
                  refine .inl ⟨by rfl, ?_⟩
                  have t2 := ho 19 rfl
                  dsimp at t2
                  try with_reducible replace hw := New.undrawN hw
                  try with_reducible replace hw := New.undraw hw
                  obtain ⟨c, f'⟩ := hw.rules
                  go_simp
                  exact New.refl _
                · intro a w9 hw ho hk
                  refine .inl ⟨by rfl, ?_⟩
                  have t106 : a.tmps[106]?.getD undef = .slice a3 C.length c3' := hk 0 106 (by kernel_rfl) rfl
                  have t107 : a.tmps[107]?.getD undef = .int .i64 j := hk 1 107 (by kernel_rfl) rfl
                  go_simp
                  refine (HQ0.out _ (RdI.new (own_rd o3.out) (New.trans (by exact (by repeat (first | with_reducible exact New.refl _ | with_reducible assumption | with_reducible refine New.drew ?_ | with_reducible refine New.drewN ?_ _ | with_reducible refine New.alloc ?_ _ | with_reducible refine New.setCell ?_ (by first | (simp; done) | (simp; omega) | omega) _ | with_reducible refine New.trans ?_ (by with_reducible assumption)))) hw))).mono ?_; rintro e w2 ⟨rfl, hb⟩
                  first | exact ⟨hb, _, rfl, by simp⟩ | exact ⟨hb, by simp⟩
                · intro a w9 hw ho hk
                  refine .inl ⟨by rfl, ?_⟩
                  have t2 := ho 4 rfl
                  dsimp at t2
                  try with_reducible replace hw := New.undrawN hw
                  try with_reducible replace hw := New.undraw hw
                  obtain ⟨c, f'⟩ := hw.rules
                  go_simp
                  exact New.refl _
                · intro a w9 hw ho hk
                  refine .inl ⟨by rfl, ?_⟩
                  have t109 : a.tmps[109]?.getD undef = .pointer (some ⟨w1.heap.size, 0, none⟩) := hk 3 109 (by kernel_rfl) rfl
                  try with_reducible replace hw := New.undrawN hw
                  try with_reducible replace hw := New.undraw hw
                  obtain ⟨c, f'⟩ := hw.rules
                  go_simp
                  exact New.refl _
                · intro a w9 hw ho hk
                  refine .inl ⟨by rfl, ?_⟩
                  have t2 := ho 19 rfl
                  dsimp at t2
                  try with_reducible replace hw := New.undrawN hw
                  try with_reducible replace hw := New.undraw hw
                  obtain ⟨c, f'⟩ := hw.rules
                  go_simp
                  exact New.refl _
                · intro a w9 hw ho hk
                  refine .inl ⟨by rfl, ?_⟩
                  have t110 : a.tmps[110]?.getD undef = .slice (some ⟨bX, oX, none⟩) xs.length uc := hk 4 110 (by kernel_rfl) rfl
                  have t111 : a.tmps[111]?.getD undef = .int .i64 j := hk 5 111 (by kernel_rfl) rfl
                  go_simp
                  exact New.refl _
                · intro a w9 hw ho hk
                  refine .inl ⟨by rfl, ?_⟩
                  have t112 : a.tmps[112]?.getD undef = .pointer (some ⟨bX, oX + j, none⟩) := hk 6 112 (by kernel_rfl) rfl
                  try with_reducible replace hw := New.undrawN hw
                  try with_reducible replace hw := New.undraw hw
                  obtain ⟨c, f'⟩ := hw.rules
                  go_simp
                  exact New.refl _
                · intro a w9 hw ho hk
                  refine .inl ⟨by rfl, ?_⟩
                  have t113 : a.tmps[113]?.getD undef = .int .i64 1 := hk 7 113 (by kernel_rfl) rfl
                  go_simp
                  exact New.refl _
                · intro a w9 hw ho hk
                  refine .inl ⟨by rfl, ?_⟩
                  have t114 : a.tmps[114]?.getD undef = .bool false := hk 8 114 (by kernel_rfl) rfl
                  go_simp
                  exact New.refl _
                · intro a w9 hw ho hk
                  have t115 : a.tmps[115]?.getD undef = .bool false := hk 9 115 (by kernel_rfl) rfl
                  exact .inr ⟨by simp [Region.wanted, yielded, RG.look t115], rfl⟩
                · intro a w9 hw ho hk
                  have t115 : a.tmps[115]?.getD undef = .bool false := hk 9 115 (by kernel_rfl) rfl
                  exact .inr ⟨by simp [Region.wanted, yielded, RG.look t115], rfl⟩
                · intro a w9 hw ho hk
                  have t115 : a.tmps[115]?.getD undef = .bool false := hk 9 115 (by kernel_rfl) rfl
                  exact .inr ⟨by simp [Region.wanted, yielded, RG.look t115], rfl⟩
                · intro a w9 hw ho hk
                  have t115 : a.tmps[115]?.getD undef = .bool false := hk 9 115 (by kernel_rfl) rfl
                  exact .inr ⟨by simp [Region.wanted, yielded, RG.look t115], rfl⟩
                · intro a w9 hw ho hk
                  have t115 : a.tmps[115]?.getD undef = .bool false := hk 9 115 (by kernel_rfl) rfl
                  exact .inr ⟨by simp [Region.wanted, yielded, RG.look t115], rfl⟩
                · intro a w9 hw ho hk
                  have t115 : a.tmps[115]?.getD undef = .bool false := hk 9 115 (by kernel_rfl) rfl
                  exact .inr ⟨by simp [Region.wanted, yielded, RG.look t115], rfl⟩
                · intro a w9 hw ho hk
                  refine .inl ⟨by rfl, ?_⟩
                  have t115 : a.tmps[115]?.getD undef = .bool false := hk 9 115 (by kernel_rfl) rfl
                  go_simp
                  exact New.refl _
                · intro a w9 hw ho hk
                  refine .inl ⟨by rfl, ?_⟩
                  have t108 : a.tmps[108]?.getD undef = .bool false := hk 2 108 (by kernel_rfl) rfl
                  have t122 : a.tmps[122]?.getD undef = .bool false := hk 16 122 (by kernel_rfl) rfl
                  go_simp
                  exact New.refl _
                · intro a w9 hw ho hk
                  refine .inl ⟨by rfl, ?_⟩
                  have t123 : a.tmps[123]?.getD undef = .bool false := hk 17 123 (by kernel_rfl) rfl
                  go_simp
                  exact New.refl _
                · intro a w9 hw ho hk
                  have t124 : a.tmps[124]?.getD undef = .bool false := hk 18 124 (by kernel_rfl) rfl
                  refine .inl ⟨by simp [Region.wanted, yielded, RG.look t124], ?_⟩
                  have t2 := ho 11 rfl
                  dsimp at t2
                  try with_reducible replace hw := New.undrawN hw
                  try with_reducible replace hw := New.undraw hw
                  obtain ⟨c, f'⟩ := hw.rules
                  go_simp
                  exact New.refl _
                · intro a w9 hw ho hk
                  have t124 : a.tmps[124]?.getD undef = .bool false := hk 18 124 (by kernel_rfl) rfl
                  refine .inl ⟨by simp [Region.wanted, yielded, RG.look t124], ?_⟩
                  have t2 := ho 19 rfl
                  dsimp at t2
                  try with_reducible replace hw := New.undrawN hw
                  try with_reducible replace hw := New.undraw hw
                  obtain ⟨c, f'⟩ := hw.rules
                  go_simp
                  exact New.refl _
                · intro a w9 hw ho hk
                  have t124 : a.tmps[124]?.getD undef = .bool false := hk 18 124 (by kernel_rfl) rfl
                  refine .inl ⟨by simp [Region.wanted, yielded, RG.look t124], ?_⟩
                  have t125 : a.tmps[125]?.getD undef = .slice a5 D.length c5' := hk 19 125 (by kernel_rfl) rfl
                  have t126 : a.tmps[126]?.getD undef = .int .i64 j := hk 20 126 (by kernel_rfl) rfl
                  go_simp
                  refine (HQ1.out _ (RdI.new (own_rd o5.out) (New.trans (by exact (by repeat (first | with_reducible exact New.refl _ | with_reducible assumption | with_reducible refine New.drew ?_ | with_reducible refine New.drewN ?_ _ | with_reducible refine New.alloc ?_ _ | with_reducible refine New.setCell ?_ (by first | (simp; done) | (simp; omega) | omega) _ | with_reducible refine New.trans ?_ (by with_reducible assumption)))) hw))).mono ?_; rintro e w2 ⟨rfl, hb⟩
                  first | exact ⟨hb, _, rfl, by simp⟩ | exact ⟨hb, by simp⟩
                · intro a w9 hw ho hk
                  have t124 : a.tmps[124]?.getD undef = .bool false := hk 18 124 (by kernel_rfl) rfl
                  refine .inl ⟨by simp [Region.wanted, yielded, RG.look t124], ?_⟩
                  have t2 := ho 4 rfl
                  dsimp at t2
                  try with_reducible replace hw := New.undrawN hw
                  try with_reducible replace hw := New.undraw hw
                  obtain ⟨c, f'⟩ := hw.rules
                  go_simp
                  exact New.refl _
                · intro a w9 hw ho hk
                  have t124 : a.tmps[124]?.getD undef = .bool false := hk 18 124 (by kernel_rfl) rfl
                  refine .inl ⟨by simp [Region.wanted, yielded, RG.look t124], ?_⟩
                  have t128 : a.tmps[128]?.getD undef = .pointer (some ⟨w1.heap.size, 0, none⟩) := hk 22 128 (by kernel_rfl) rfl
                  try with_reducible replace hw := New.undrawN hw
                  try with_reducible replace hw := New.undraw hw
                  obtain ⟨c, f'⟩ := hw.rules
                  go_simp
                  exact New.refl _
                · intro a w9 hw ho hk
                  have t124 : a.tmps[124]?.getD undef = .bool false := hk 18 124 (by kernel_rfl) rfl
                  refine .inl ⟨by simp [Region.wanted, yielded, RG.look t124], ?_⟩
                  have t2 := ho 19 rfl
                  dsimp at t2
                  try with_reducible replace hw := New.undrawN hw
                  try with_reducible replace hw := New.undraw hw
                  obtain ⟨c, f'⟩ := hw.rules
                  go_simp
                  exact New.refl _
                · intro a w9 hw ho hk
                  have t124 : a.tmps[124]?.getD undef = .bool false := hk 18 124 (by kernel_rfl) rfl
                  refine .inl ⟨by simp [Region.wanted, yielded, RG.look t124], ?_⟩
                  have t129 : a.tmps[129]?.getD undef = .slice (some ⟨bX, oX, none⟩) xs.length uc := hk 23 129 (by kernel_rfl) rfl
                  have t130 : a.tmps[130]?.getD undef = .int .i64 j := hk 24 130 (by kernel_rfl) rfl
                  go_simp
                  exact New.refl _
                · intro a w9 hw ho hk
                  have t124 : a.tmps[124]?.getD undef = .bool false := hk 18 124 (by kernel_rfl) rfl
                  refine .inl ⟨by simp [Region.wanted, yielded, RG.look t124], ?_⟩
                  have t131 : a.tmps[131]?.getD undef = .pointer (some ⟨bX, oX + j, none⟩) := hk 25 131 (by kernel_rfl) rfl
                  try with_reducible replace hw := New.undrawN hw
                  try with_reducible replace hw := New.undraw hw
                  obtain ⟨c, f'⟩ := hw.rules
                  go_simp
                  exact New.refl _
                · intro a w9 hw ho hk
                  have t124 : a.tmps[124]?.getD undef = .bool false := hk 18 124 (by kernel_rfl) rfl
                  refine .inl ⟨by simp [Region.wanted, yielded, RG.look t124], ?_⟩
                  have t2 := ho 4 rfl
                  dsimp at t2
                  try with_reducible replace hw := New.undrawN hw
                  try with_reducible replace hw := New.undraw hw
                  obtain ⟨c, f'⟩ := hw.rules
                  go_simp
                  exact New.refl _
                · intro a w9 hw ho hk
                  have t124 : a.tmps[124]?.getD undef = .bool false := hk 18 124 (by kernel_rfl) rfl
                  refine .inl ⟨by simp [Region.wanted, yielded, RG.look t124], ?_⟩
                  have t133 : a.tmps[133]?.getD undef = .pointer (some ⟨w1.heap.size, 1, none⟩) := hk 27 133 (by kernel_rfl) rfl
                  try with_reducible replace hw := New.undrawN hw
                  try with_reducible replace hw := New.undraw hw
                  obtain ⟨c, f'⟩ := hw.rules
                  go_simp
                  exact New.refl _
                · intro a w9 hw ho hk
                  have t124 : a.tmps[124]?.getD undef = .bool false := hk 18 124 (by kernel_rfl) rfl
                  refine .inl ⟨by simp [Region.wanted, yielded, RG.look t124], ?_⟩
                  have t2 := ho 19 rfl
                  dsimp at t2
                  try with_reducible replace hw := New.undrawN hw
                  try with_reducible replace hw := New.undraw hw
                  obtain ⟨c, f'⟩ := hw.rules
                  go_simp
                  exact New.refl _
                · intro a w9 hw ho hk
                  have t124 : a.tmps[124]?.getD undef = .bool false := hk 18 124 (by kernel_rfl) rfl
                  refine .inl ⟨by simp [Region.wanted, yielded, RG.look t124], ?_⟩
                  have t134 : a.tmps[134]?.getD undef = .slice (some ⟨bY, oY, none⟩) xs.length vc := hk 28 134 (by kernel_rfl) rfl
                  have t135 : a.tmps[135]?.getD undef = .int .i64 j := hk 29 135 (by kernel_rfl) rfl
                  go_simp
                  exact New.refl _
                · intro a w9 hw ho hk
                  have t124 : a.tmps[124]?.getD undef = .bool false := hk 18 124 (by kernel_rfl) rfl
                  refine .inl ⟨by simp [Region.wanted, yielded, RG.look t124], ?_⟩
                  have t136 : a.tmps[136]?.getD undef = .pointer (some ⟨bY, oY + j, none⟩) := hk 30 136 (by kernel_rfl) rfl
                  try with_reducible replace hw := New.undrawN hw
                  try with_reducible replace hw := New.undraw hw
                  obtain ⟨c, f'⟩ := hw.rules
                  go_simp
                  exact New.refl _
                · intro a w9 hw ho hk
                  have t124 : a.tmps[124]?.getD undef = .bool false := hk 18 124 (by kernel_rfl) rfl
                  refine .inl ⟨by simp [Region.wanted, yielded, RG.look t124], ?_⟩
                  have t132 : a.tmps[132]?.getD undef = .int .i64 1 := hk 26 132 (by kernel_rfl) rfl
                  have t137 : a.tmps[137]?.getD undef = .int .i64 1 := hk 31 137 (by kernel_rfl) rfl
                  go_simp
                  exact New.refl _
                · intro a w9 hw ho hk
                  have t124 : a.tmps[124]?.getD undef = .bool false := hk 18 124 (by kernel_rfl) rfl
                  refine .inl ⟨by simp [Region.wanted, yielded, RG.look t124], ?_⟩
                  have t127 : a.tmps[127]?.getD undef = .bool false := hk 21 127 (by kernel_rfl) rfl
                  have t138 : a.tmps[138]?.getD undef = .bool false := hk 32 138 (by kernel_rfl) rfl
                  go_simp
                  exact New.refl _
                · intro a w9 hw ho hk
                  refine .inl ⟨by rfl, ?_⟩
                  have t124 : a.tmps[124]?.getD undef = .bool false := hk 18 124 (by kernel_rfl) rfl
                  have t139 : a.tmps[139]?.getD undef = .bool false := hk 33 139 (by kernel_rfl) rfl
                  go_simp
                  exact New.refl _
              intro w12 b12 y0 g0 y1 g1 y2 g2 y3 g3 y4 g4 y5 g5 y6 g6 y7 g7 y8 g8 y9 g9 y10 g10 y11 g11 y12 g12 y13 g13 y14 g14 y15 g15 y16 g16 y17 g17 y18 g18 y19 g19 y20 g20 y21 g21 y22 g22 y23 g23 y24 g24 y25 g25 y26 g26 y27 g27 y28 g28 y29 g29 y30 g30 y31 g31 y32 g32 y33 g33 y34 g34
              subst g0 g1 g2 g3 g4 g5 g6 g7 g8 g9 g10 g11 g12 g13 g14 g15 g16 g17 g18 g19 g20 g21 g22 g23 g24 g25 g26 g27 g28 g29 g30 g31 g32 g33 g34
              try with_reducible replace b12 := New.undrawN b12
              try with_reducible replace b12 := New.undraw b12
              obtain ⟨c12, f12⟩ := b12.rules
              have z12 := b12.size
              try simp only [World.size_alloc, World.size_drew, World.heap_drewN, World.size_setCell] at z12
              simp only [RG.EndAll, List.nil_append, List.cons_append, List.length_cons, List.length_nil, Nat.zero_add, Nat.reduceAdd, List.take_succ_cons, List.take_zero, List.drop_succ_cons, List.drop_zero, RG.putAll, Act.put, List.setIfInBounds_toArray, List.set_cons_succ, List.set_cons_zero]
              go_wp2_with fail
              go_roundw
              case rel => exact ⟨j + 1, by omega, by go_num, (by repeat (first | with_reducible exact New.refl _ | with_reducible assumption | with_reducible refine New.drew ?_ | with_reducible refine New.drewN ?_ _ | with_reducible refine New.alloc ?_ _ | with_reducible refine New.setCell ?_ (by first | (simp; done) | (simp; omega) | omega) _ | with_reducible refine New.trans ?_ (by with_reducible assumption)))⟩
              case measure => simp [intOf]; omega
        · obtain rfl : j = xs.length := by omega
          have hjn : ¬ ((xs.length : Int) < n) := by omega
          go_wp2_with fail
          go_ret
          exact ⟨rfl, (by repeat (first | with_reducible exact New.refl _ | with_reducible assumption | with_reducible refine New.drew ?_ | with_reducible refine New.drewN ?_ _ | with_reducible refine New.alloc ?_ _ | with_reducible refine New.setCell ?_ (by first | (simp; done) | (simp; omega) | omega) _ | with_reducible refine New.trans ?_ (by with_reducible assumption)))⟩
    · have hc' : (c == 0) = false := by simpa using hc
      refine (likeInts_eq _ _ P _ (RdI.new (own_rd o7.out) (by repeat (first | with_reducible exact New.refl _ | with_reducible assumption | with_reducible refine New.drew ?_ | with_reducible refine New.drewN ?_ _ | with_reducible refine New.alloc ?_ _ | with_reducible refine New.setCell ?_ (by first | (simp; done) | (simp; omega) | omega) _ | with_reducible refine New.trans ?_ (by with_reducible assumption)))) (RdI.new (own_rd o8.out) (by repeat (first | with_reducible exact New.refl _ | with_reducible assumption | with_reducible refine New.drew ?_ | with_reducible refine New.drewN ?_ _ | with_reducible refine New.alloc ?_ _ | with_reducible refine New.setCell ?_ (by first | (simp; done) | (simp; omega) | omega) _ | with_reducible refine New.trans ?_ (by with_reducible assumption))))).mono ?_; rintro e w11 ⟨rfl, b11⟩
      try with_reducible replace b11 := New.undrawN b11
      try with_reducible replace b11 := New.undraw b11
      obtain ⟨c11, f11⟩ := b11.rules
      have z11 := b11.size
      try simp only [World.size_alloc, World.size_drew, World.heap_drewN, World.size_setCell] at z11
      have z11_0 : w1.heap.size < w11.heap.size := by omega
      go_wp2_with fail
      go_ret
      exact ⟨rfl, (by repeat (first | with_reducible exact New.refl _ | with_reducible assumption | with_reducible refine New.drew ?_ | with_reducible refine New.drewN ?_ _ | with_reducible refine New.alloc ?_ _ | with_reducible refine New.setCell ?_ (by first | (simp; done) | (simp; omega) | omega) _ | with_reducible refine New.trans ?_ (by with_reducible assumption)))⟩
namespace fnReportLists
theorem own : ownKnob Try.prog.godebug = none := by kernel_rfl
theorem reads : (Try.f3.params.toList.all fun t => Try.prog.readableRec t && decide (t < Try.prog.types.size)) = true := by kernel_rfl
set_option maxRecDepth 100000 in
theorem lifted (os : Os) (started : os.Started) (H : Type) (enc : TypeId × Value → H) :
    ReturnsInHanded {} Try.checked os 3 .any (Rows.fnReportListsSpec.pre6 enc Try.prog Try.f3 Rows.fnReportListsRow.domain false) (Rows.fnReportListsSpec.post enc Try.prog Try.f3 false true false false) := by
  refine returnsInHanded_of_change (C := Try.checked) own started (by kernel_rfl) Try.func3
    (ChangeSpec.witness6 (enc := enc) (C := Try.checked) false ⟨#[], #[.slice none 0 0], []⟩ 8 (by kernel_rfl) (by kernel_rfl) (by kernel_rfl) (by kernel_rfl)) ?_
  intro W base args ds gs before hval0 hW hcnd _
  have hval : ∀ (j : Nat) t v, Try.f3.params[j]? = some t → args[j]? = some v → Value.okWide Try.prog W .any base t v := hval0
  have hW' := hW
  obtain ⟨p, q, hA0, hV, rfl, hfz, hnd⟩ := hW
  have hA : DataW.TrodAll enc Try.prog W 0 (fun _ => true) true Try.f3.params.toList args.toList ds p := hA0
  rw [Try.params3] at hA hval
  obtain ⟨v0, vs0, d0, ds0, p0, q0, hargs, rfl, rfl, h0, r0⟩ := trodAll_cons hA
  obtain ⟨rfl, rfl, rfl⟩ := trodAll_nil r0
  obtain rfl : args = #[v0] := by cases args; simp_all
  have o0 := hval 0 22 v0 rfl rfl
  clear hA0 hval hval0
  obtain ⟨rfl, rfl⟩ := trodVars_none hV
  have walk : Calls Try.prog 3 #[v0] W fun e w' => e = .returned (.bool true) ∧ New W w' := by
    obtain ⟨bs, hbs, hbb⟩ := openCode h0 o0
    exact fnReportLists_any _ bs W hbs hbb
  refine walk.mono fun e W' ⟨he, hg⟩ => ?_
  subst he
  exact ⟨_, rfl, law_post laidOut (fun t ht => reads_of reads t ht) (fun n hn => by cases hn) rfl Try.underlying4 hW' rfl hg⟩
theorem proved : Rows.FnReportListsSaid :=
  OpenClaim.holds_of_wide 3 Try.f3 rfl rfl rfl rfl rfl rfl rfl ⟨rfl, rfl, rfl, rfl, rfl⟩ rfl rfl rfl rfl rfl (by kernel_rfl) Try.func3 (by kernel_rfl)
    (of_decide_eq_true (by kernel_rfl)) (by unfold Func.isWrapper; first | (rw [if_pos (by decide +kernel)]; kernel_rfl) | (rw [if_neg (by decide +kernel)]; exact ⟨rfl, rfl⟩))
    (fun os started H enc _ => lifted os started H enc)
#print axioms proved
end fnReportLists
end Go.Proofs.Ytinlichcbjpeaaa
