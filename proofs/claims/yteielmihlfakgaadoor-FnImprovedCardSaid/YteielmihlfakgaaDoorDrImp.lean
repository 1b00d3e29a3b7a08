/- Contracts: codes drawn for a law. -/
import Derived.WalkSpells
import Derived.Test.YteielmihlfakgaaDoorProg
import Derived.Test.YteielmihlfakgaaDoorDrCode
import Derived.Test.YteielmihlfakgaaDoorDrT17
namespace Go.Proofs.YteielmihlfakgaaDoor
open Go Go.Proofs Go.RowKit
set_option linter.unusedVariables false
set_option linter.unusedSimpArgs false
set_option maxRecDepth 100000
theorem rdB_new {w w' : World} {v : Value} {n : Nat} {cs : List Value} (h : Rd w v n cs) (hn : New w w') : RdB w.heap.size w' v n cs := (Rd.toB h).same hn.block
def DrawCdN (w : World) (e : Ending) (w' : World) : Prop := ∃ (c : CodeD) (bv sv : Value), e = .returned (valC c bv sv) ∧ New w w' ∧ RdT w' bv c.blocks ∧ RdN w' sv c.steps ∧ SmC c
theorem ret_cdn {fn : Func} {base : Nat} {w0 w : World} {a : Act} {c : CodeD} {bv sv : Value} (hd : a.defers = []) (hD : New w0 w) (h : OwnCd w base c bv sv) (hs : SmC c) (hr : (results fn a.tmps).run Tryd.prog w = .ok (valC c bv sv) w) :
    bodyPost Tryd.prog fn (DrawCdN w0) .ret a w := ⟨hd, _, hr, c, bv, sv, rfl, hD, own_rd h.blocks, own_rd h.steps, hs⟩
theorem New.set5 {a w : World} (h : New a w) {b : Nat} (hb : a.heap.size ≤ b) (u0 u1 u2 u3 u4 : Value) : New a (setC5 w b u0 u1 u2 u3 u4) := ((((h.setCell (p := ⟨b, 0, none⟩) hb u0).setCell (p := ⟨b, 1, none⟩) hb u1).setCell (p := ⟨b, 2, none⟩) hb u2).setCell (p := ⟨b, 3, none⟩) hb u3).setCell (p := ⟨b, 4, none⟩) hb u4
theorem drT17_4 {B : Nat} (S : Nat) (w : World) (hs : Src B S w) : Calls Tryd.prog 68 #[.pointer (some ⟨S, 0, none⟩), .int .i64 4] w (DrawT S 31 w) := drT17_any S 4 (by omega) w hs
def prog1 (ts : List ETerm) : ProgD := ⟨⟨#[112]⟩, [⟨#[97]⟩], [], [⟨#[113]⟩], ⟨#[]⟩, [⟨⟨#[113]⟩, ts⟩]⟩
theorem prog1_few {ts : List ETerm} (h : ts.length ≤ 40) : fewL (prog1 ts) := ⟨show (1 : Nat) ≤ 40 by omega, fun l hl => by obtain rfl := List.mem_singleton.1 hl; exact h⟩
theorem prog1_rd {w : World} {ts : List ETerm} {iv ov lv tv : Value} (h1 : Rd w iv 1 [.string ⟨#[97]⟩]) (h2 : Rd w ov 1 [.string ⟨#[113]⟩]) (h3 : Rd w lv 1 [.string ⟨#[113]⟩, tv]) (h4 : Rd w tv ts.length (ts.flatMap encTerm)) : RdP w (prog1 ts) iv (.slice none 0 0) ov lv :=
  ⟨h1, ⟨none, 0, rfl, Nat.zero_le _, ⟨fun _ => rfl, Nat.le_refl _⟩, fun j u hu => by simp [prog1] at hu⟩, h2, [(⟨⟨#[113]⟩, ts⟩, tv)], rfl, h3, fun p hp => by obtain rfl := List.mem_singleton.1 hp; exact h4⟩
set_option maxHeartbeats 4000000 in
theorem drawImproveCode_any (v : Value) (bs : List Int) (w : World) (hv : Rd w v bs.length (bs.map (Value.int .u8))) (hl : bs.length ≤ 4096) (hb : ∀ c ∈ bs, 0 ≤ c ∧ c ≤ 255) :
    Calls Tryd.prog 34 #[v] w (DrawCdN w) := by
  have HV := Lib.hid hv
  have HB := Lib.hid hb
  clear hv hb
  go_enter Tryd.func34, Tryd.ntmps34
  go_wp2_with fail
  refine (l01From_any w.heap.size v bs _ (rdB_new HV.out (by repeat (first | with_reducible exact New.refl _ | with_reducible assumption | with_reducible refine New.drew ?_ | with_reducible refine New.drewN ?_ _ | with_reducible refine New.alloc ?_ _ | with_reducible refine New.setCell ?_ (by first | (simp; done) | (simp; omega) | omega) _ | with_reducible refine New.trans ?_ (by with_reducible assumption)))) (by first | (simp; done) | (simp; omega)) hl HB.out).mono ?_
  rintro e w1 ⟨S, rfl, hS0, n1, hs⟩
  have b1 := Dr.of_new (S := S) n1; have hS := hs.lt; replace hs := Lib.hid hs; simp only [World.size_alloc] at hS0
  have z1 := b1.size
  try simp only [World.size_alloc, World.size_drew, World.heap_drewN, World.size_setCell] at z1
  have y1 : S < w1.heap.size := by omega
  have N1 : New w w1 := ((New.refl w).alloc _).trans n1
  have KR1 := (Blk.alloc_at (w := w) (cs := #[.int .i64 0, .int .i64 0, .int .i64 0, .slice none 0 0, .slice none 0 0]) (T := 59) rfl).new n1
  clear n1 b1
  have zz1 := N1.size
  go_wp2_with fail
  refine (l01Next_any S 2 _ hs.out).mono ?_
  rintro e w2 ⟨r2, rfl, p2, q2, b2⟩
  have KR2 := KR1.dr b2 (by omega)
  have z2 := b2.size
  try simp only [World.size_alloc, World.size_drew, World.heap_drewN, World.size_setCell] at z2
  try clear c1_0 f1_0 K1_0
  try clear c1_1 f1_1 K1_1
  try clear c1_2 f1_2 K1_2
  try clear c1_3 f1_3 K1_3
  try clear c1_4 f1_4 K1_4
  try clear c1_5 f1_5 K1_5
  have y2 : S < w2.heap.size := by omega
  have hR2 := KR2.lt
  rcases (by omega : r2 = 0 ∨ r2 = 1) with rfl | rfl
  · go_wp2_with fail
    refine (drT17_4 S _ (Dr.src ((b2.alloc _).alloc _) hs.out)).mono ?_
    rintro e w3 ⟨v3, ts, rfl, b3, o3, h3a, h3b, h3f⟩
    obtain ⟨ta, tc, rfl⟩ := own_slice o3
    have z3 := b3.size
    try simp only [World.size_alloc, World.size_drew, World.heap_drewN, World.size_setCell] at z3
    try clear c2_0 f2_0 K2_0
    try clear c2_1 f2_1 K2_1
    try clear c2_2 f2_2 K2_2
    try clear c2_3 f2_3 K2_3
    try clear c2_4 f2_4 K2_4
    try clear c2_5 f2_5 K2_5
    try clear c1_0 f1_0 K1_0
    try clear c1_1 f1_1 K1_1
    try clear c1_2 f1_2 K1_2
    try clear c1_3 f1_3 K1_3
    try clear c1_4 f1_4 K1_4
    try clear c1_5 f1_5 K1_5
    have y3 : S < w3.heap.size := by omega
    go_wp2_with fail
    have A1 := own_rd (((own_dr ((own_litS (w := w2) (base := w2.heap.size) (b := w2.heap.size) (n := 1) (T := 9) [⟨#[97]⟩] (Nat.le_refl _) rfl rfl (by simp)).alloc (.cells #[.string ⟨#[113]⟩] 9)) b3 (by omega)).alloc (.cells #[.string ⟨#[113]⟩, .slice ta ts.length tc] 45)).alloc (.cells #[.string ⟨#[112]⟩, .slice (some ⟨w2.heap.size, 0, none⟩) 1 1, .slice none 0 0, .slice (some ⟨w2.heap.size + 1, 0, none⟩) 1 1, .string ⟨#[]⟩, .slice (some ⟨w3.heap.size, 0, none⟩) 1 1] 27))
    have A2 := own_rd (((own_dr (own_litS (w := w2.alloc (.cells #[.string ⟨#[97]⟩] 9)) (base := w2.heap.size) (b := w2.heap.size + 1) (n := 1) (T := 9) [⟨#[113]⟩] (by simp) (by simp) rfl (by simp)) b3 (by omega)).alloc (.cells #[.string ⟨#[113]⟩, .slice ta ts.length tc] 45)).alloc (.cells #[.string ⟨#[112]⟩, .slice (some ⟨w2.heap.size, 0, none⟩) 1 1, .slice none 0 0, .slice (some ⟨w2.heap.size + 1, 0, none⟩) 1 1, .string ⟨#[]⟩, .slice (some ⟨w3.heap.size, 0, none⟩) 1 1] 27))
    have A3 := rd_of_blkL ((Blk.alloc_at (w := w3) (cs := #[.string ⟨#[113]⟩, .slice ta ts.length tc]) (T := 45) rfl).alloc (.cells #[.string ⟨#[112]⟩, .slice (some ⟨w2.heap.size, 0, none⟩) 1 1, .slice none 0 0, .slice (some ⟨w2.heap.size + 1, 0, none⟩) 1 1, .string ⟨#[]⟩, .slice (some ⟨w3.heap.size, 0, none⟩) 1 1] 27))
    have A4 := own_rd ((o3.alloc (.cells #[.string ⟨#[113]⟩, .slice ta ts.length tc] 45)).alloc (.cells #[.string ⟨#[112]⟩, .slice (some ⟨w2.heap.size, 0, none⟩) 1 1, .slice none 0 0, .slice (some ⟨w2.heap.size + 1, 0, none⟩) 1 1, .string ⟨#[]⟩, .slice (some ⟨w3.heap.size, 0, none⟩) 1 1] 27))
    have RP := prog1_rd A1 A2 A3 A4
    have hfew := prog1_few (ts := ts) (by omega)
    obtain ⟨hSM, hq1, hq2⟩ := comp_sm hfew (fun l hl x hx => by obtain rfl := List.mem_singleton.1 hl; exact h3f x hx) (Nat.le_refl _)
    have N3 : New w w3 := Dr.new (S := S) N1 (b2.trans (Dr.trans (((Dr.refl S w2).alloc _).alloc _) b3)) (by omega)
    have KR3 := (((((KR2.alloc _).alloc _).dr b3 (by omega)).alloc (.cells #[.string ⟨#[113]⟩, .slice ta ts.length tc] 45)).alloc (.cells #[.string ⟨#[112]⟩, .slice (some ⟨w2.heap.size, 0, none⟩) 1 1, .slice none 0 0, .slice (some ⟨w2.heap.size + 1, 0, none⟩) 1 1, .string ⟨#[]⟩, .slice (some ⟨w3.heap.size, 0, none⟩) 1 1] 27))
    have NP := (N3.alloc (.cells #[.string ⟨#[113]⟩, .slice ta ts.length tc] 45)).alloc (.cells #[.string ⟨#[112]⟩, .slice (some ⟨w2.heap.size, 0, none⟩) 1 1, .slice none 0 0, .slice (some ⟨w2.heap.size + 1, 0, none⟩) 1 1, .string ⟨#[]⟩, .slice (some ⟨w3.heap.size, 0, none⟩) 1 1] 27)
    refine (sCompile0_any _ _ _ _ _ _ RP hfew).mono ?_
    rintro e w4 ⟨bv, sv, rfl, b4, ob, os⟩
    clear A1 A2 A3 A4 RP
    generalize compC (prog1 ts) = c at *
    have hz4 := b4.size
    simp only [World.size_alloc] at hz4 ob os
    obtain ⟨ba, bc, rfl⟩ := own_slice ob
    obtain ⟨sa, sc, rfl⟩ := own_slice os
    have KR4 := KR3.new b4
    have N4 := NP.trans b4
    have hR4 := KR4.lt
    obtain ⟨cR, fR⟩ := KR4.rules
    go_wp2_with fail
    have DF := N4.set5 (b := w.heap.size) (Nat.le_refl _) (.int .i64 c.ins) (.int .i64 c.vars) (.int .i64 c.outs) (.slice ba c.blocks.length bc) (.slice sa c.steps.length sc)
    have OF := OwnCd.set5 (b := w.heap.size) (⟨ob, os⟩ : OwnCd w4 (w3.heap.size + 1 + 1) c _ _) (by omega) (.int .i64 c.ins) (.int .i64 c.vars) (.int .i64 c.outs) (.slice ba c.blocks.length bc) (.slice sa c.steps.length sc)
    exact ret_cdn rfl DF OF hSM (by simp [results, Tryd.results34, go_sem, cR, fR, hR4])
  · go_wp2_with fail
    refine (drCd_any S _ (Dr.src b2 hs.out)).mono ?_
    rintro e w3 ⟨c, bv, sv, rfl, b3, oc, hsm⟩
    have z3 := b3.size
    try simp only [World.size_alloc, World.size_drew, World.heap_drewN, World.size_setCell] at z3
    try clear c2_0 f2_0 K2_0
    try clear c2_1 f2_1 K2_1
    try clear c2_2 f2_2 K2_2
    try clear c2_3 f2_3 K2_3
    try clear c2_4 f2_4 K2_4
    try clear c2_5 f2_5 K2_5
    try clear c1_0 f1_0 K1_0
    try clear c1_1 f1_1 K1_1
    try clear c1_2 f1_2 K1_2
    try clear c1_3 f1_3 K1_3
    try clear c1_4 f1_4 K1_4
    try clear c1_5 f1_5 K1_5
    have y3 : S < w3.heap.size := by omega
    have KR3 := KR2.dr b3 (by omega)
    have hR3 := KR3.lt
    obtain ⟨cR, fR⟩ := KR3.rules
    obtain ⟨ba, bc, rfl⟩ := own_slice oc.blocks
    obtain ⟨sa, sc, rfl⟩ := own_slice oc.steps
    have N3 : New w w3 := Dr.new (S := S) N1 (b2.trans b3) (by omega)
    have hz2 := b2.size
    go_wp2_with fail
    have DF := N3.set5 (b := w.heap.size) (Nat.le_refl _) (.int .i64 c.ins) (.int .i64 c.vars) (.int .i64 c.outs) (.slice ba c.blocks.length bc) (.slice sa c.steps.length sc)
    have OF := OwnCd.set5 (b := w.heap.size) oc (by omega) (.int .i64 c.ins) (.int .i64 c.vars) (.int .i64 c.outs) (.slice ba c.blocks.length bc) (.slice sa c.steps.length sc)
    exact ret_cdn rfl DF OF hsm (by simp [results, Tryd.results34, go_sem, cR, fR, hR3])
end Go.Proofs.YteielmihlfakgaaDoor
