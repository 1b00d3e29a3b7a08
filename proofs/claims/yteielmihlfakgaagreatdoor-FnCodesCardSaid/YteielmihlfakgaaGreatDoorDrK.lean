/- Contracts: codes, texts and numbers drawn for the law of codes. -/
import Derived.WalkSpells
import Derived.Test.YteielmihlfakgaaGreatDoorProg
import Derived.Test.YteielmihlfakgaaGreatDoorDrCode
import Derived.Test.YteielmihlfakgaaGreatDoorDamage
import Derived.Test.YteielmihlfakgaaGreatDoorRdcS
import Derived.Test.YteielmihlfakgaaGreatDoorDrawQ
namespace Go.Proofs.YteielmihlfakgaaGreatDoor
open Go Go.Proofs Go.RowKit
set_option linter.unusedVariables false
set_option linter.unusedSimpArgs false
set_option maxRecDepth 100000
theorem rdB_new {w w' : World} {v : Value} {n : Nat} {cs : List Value} (h : Rd w v n cs) (hn : New w w') : RdB w.heap.size w' v n cs := (Rd.toB h).same hn.block
def DrawCdN (w : World) (e : Ending) (w' : World) : Prop := ∃ (c : CodeD) (bv sv : Value), e = .returned (valC c bv sv) ∧ New w w' ∧ RdT w' bv c.blocks ∧ RdN w' sv c.steps ∧ SmC c
theorem ret_cdn {fn : Func} {base : Nat} {w0 w : World} {a : Act} {c : CodeD} {bv sv : Value} (hd : a.defers = []) (hD : New w0 w) (h : OwnCd w base c bv sv) (hs : SmC c) (hr : (results fn a.tmps).run Tryz.prog w = .ok (valC c bv sv) w) :
    bodyPost Tryz.prog fn (DrawCdN w0) .ret a w := ⟨hd, _, hr, c, bv, sv, rfl, hD, own_rd h.blocks, own_rd h.steps, hs⟩
theorem New.set5 {a w : World} (h : New a w) {b : Nat} (hb : a.heap.size ≤ b) (u0 u1 u2 u3 u4 : Value) : New a (setC5 w b u0 u1 u2 u3 u4) := ((((h.setCell (p := ⟨b, 0, none⟩) hb u0).setCell (p := ⟨b, 1, none⟩) hb u1).setCell (p := ⟨b, 2, none⟩) hb u2).setCell (p := ⟨b, 3, none⟩) hb u3).setCell (p := ⟨b, 4, none⟩) hb u4
set_option maxHeartbeats 2000000 in
theorem drawCodeText_any (v : Value) (bs : List Int) (w : World) (hv : Rd w v bs.length (bs.map (Value.int .u8))) (hl : bs.length ≤ 4096) (hb : ∀ c ∈ bs, 0 ≤ c ∧ c ≤ 255) :
    Calls Tryz.prog 6 #[v] w (DrawCdN w) := by
  have HV := Lib.hid hv
  have HB := Lib.hid hb
  clear hv hb
  go_enter Tryz.func6, Tryz.ntmps6
  go_wp2_with fail
  refine (l01From_any w.heap.size v bs _ (rdB_new HV.out (by repeat (first | with_reducible exact New.refl _ | with_reducible assumption | with_reducible refine New.drew ?_ | with_reducible refine New.drewN ?_ _ | with_reducible refine New.alloc ?_ _ | with_reducible refine New.setCell ?_ (by first | (simp; done) | (simp; omega) | omega) _ | with_reducible refine New.trans ?_ (by with_reducible assumption)))) (by first | (simp; done) | (simp; omega)) hl HB.out).mono ?_
  rintro e w1 ⟨S, rfl, hS0, n1, hs⟩
  have b1 := Dr.of_new (S := S) n1; have hS := hs.lt; replace hs := Lib.hid hs; simp only [World.size_alloc] at hS0
  have z1 := b1.size
  try simp only [World.size_alloc, World.size_drew, World.heap_drewN, World.size_setCell] at z1
  have y1 : S < w1.heap.size := by omega
  have N1 : New w w1 := ((New.refl w).alloc _).trans n1
  have KR1 := (Blk.alloc_at (w := w) (cs := #[.int .i64 0, .int .i64 0, .int .i64 0, .slice none 0 0, .slice none 0 0]) (T := 27) rfl).new n1
  clear n1 b1
  have zz1 := N1.size
  have hR1 := KR1.lt
  go_wp2_with fail
  refine (drCd_any S _ hs.out).mono ?_
  rintro e w2 ⟨c, bv, sv, rfl, b2, oc, hsm⟩
  have z2 := b2.size
  try simp only [World.size_alloc, World.size_drew, World.heap_drewN, World.size_setCell] at z2
  try clear c1_0 f1_0 K1_0
  try clear c1_1 f1_1 K1_1
  try clear c1_2 f1_2 K1_2
  try clear c1_3 f1_3 K1_3
  try clear c1_4 f1_4 K1_4
  try clear c1_5 f1_5 K1_5
  have y2 : S < w2.heap.size := by omega
  have KR3 := KR1.dr b2 (by omega)
  have hR3 := KR3.lt
  obtain ⟨cR, fR⟩ := KR3.rules
  obtain ⟨ba, bc, rfl⟩ := own_slice oc.blocks
  obtain ⟨sa, sc, rfl⟩ := own_slice oc.steps
  have N3 : New w w2 := Dr.new (S := S) N1 b2 (by omega)
  go_wp2_with fail
  have DF := N3.set5 (b := w.heap.size) (Nat.le_refl _) (.int .i64 c.ins) (.int .i64 c.vars) (.int .i64 c.outs) (.slice ba c.blocks.length bc) (.slice sa c.steps.length sc)
  have OF := OwnCd.set5 (b := w.heap.size) oc (by omega) (.int .i64 c.ins) (.int .i64 c.vars) (.int .i64 c.outs) (.slice ba c.blocks.length bc) (.slice sa c.steps.length sc)
  exact ret_cdn rfl DF OF hsm (by simp [results, Tryz.results6, go_sem, cR, fR, hR3])
theorem ctextR_size (c : CodeD) (h : c.steps.length ≤ 3000) : (strL (ctextR c)).size ≤ 90000 := by
  rw [strL_size, ctextR]
  split
  · rename_i hc
    have := ctS_len hc c.steps.length (Nat.le_refl _)
    rw [ctext]; omega
  · simp
set_option maxHeartbeats 2000000 in
theorem drawReadCode_any (v : Value) (bs : List Int) (w : World) (hv : Rd w v bs.length (bs.map (Value.int .u8))) (hl : bs.length ≤ 4096) (hb : ∀ c ∈ bs, 0 ≤ c ∧ c ≤ 255) :
    Calls Tryz.prog 9 #[v] w fun e w' => ∃ r : ByteArray, e = .returned (.string r) ∧ r.size ≤ 1048576 ∧ New w w' := by
  have HV := Lib.hid hv
  have HB := Lib.hid hb
  clear hv hb
  have HT := Lib.hid (fun (c : CodeD) (bv sv : Value) (w0 : World) (h1 : RdT w0 bv c.blocks) (h2 : RdN w0 sv c.steps) (h3 : ∀ x ∈ c.blocks, fitTerm x) => sCodeTR_any c bv sv w0 h1 h2 h3)
  go_enter Tryz.func9, Tryz.ntmps9
  go_wp2_with fail
  refine (l01From_any w.heap.size v bs _ (rdB_new HV.out (by repeat (first | with_reducible exact New.refl _ | with_reducible assumption | with_reducible refine New.drew ?_ | with_reducible refine New.drewN ?_ _ | with_reducible refine New.alloc ?_ _ | with_reducible refine New.setCell ?_ (by first | (simp; done) | (simp; omega) | omega) _ | with_reducible refine New.trans ?_ (by with_reducible assumption)))) (by first | (simp; done) | (simp; omega)) hl HB.out).mono ?_
  rintro e w1 ⟨S, rfl, hS0, n1, hs⟩
  have b1 := Dr.of_new (S := S) n1; have hS := hs.lt; replace hs := Lib.hid hs; try simp only [World.size_alloc] at hS0
  have z1 := b1.size
  try simp only [World.size_alloc, World.size_drew, World.heap_drewN, World.size_setCell] at z1
  have y1 : S < w1.heap.size := by omega
  go_wp2_with fail
  refine (drCd_any S _ (Dr.src ?hs1 hs.out)).mono ?_
  case hs1 => exact (by repeat (first | with_reducible refine Dr.setCell ?_ (by first | (simp; done) | (simp; omega) | omega) _ | with_reducible refine Dr.alloc ?_ _ | with_reducible exact Dr.refl _ _ | with_reducible assumption | with_reducible refine Dr.trans ?_ (by with_reducible assumption) | with_reducible refine Dr.trans ?_ (Dr.of_new (by with_reducible assumption)) | with_reducible refine Dr.drewN ?_ _ | with_reducible refine Dr.drew ?_))
  rintro e w2 ⟨c, bv, sv, rfl, b2, oc, hsm⟩
  have z2 := b2.size
  try simp only [World.size_alloc, World.size_drew, World.heap_drewN, World.size_setCell] at z2
  try clear c1_0 f1_0 K1_0
  try clear c1_1 f1_1 K1_1
  try clear c1_2 f1_2 K1_2
  try clear c1_3 f1_3 K1_3
  try clear c1_4 f1_4 K1_4
  try clear c1_5 f1_5 K1_5
  have y2 : S < w2.heap.size := by omega
  go_wp2_with fail
  have hz := ctextR_size c hsm.stepsl
  refine (HT.out c bv sv _ (own_rd oc.blocks) (own_rd oc.steps) hsm.terms).mono ?_
  rintro e w3 ⟨rfl, n3⟩
  have b3 := Dr.of_new (S := S) n3
  have z3 := b3.size
  try simp only [World.size_alloc, World.size_drew, World.heap_drewN, World.size_setCell] at z3
  try clear c2_0 f2_0 K2_0
  try clear c2_1 f2_1 K2_1
  try clear c2_2 f2_2 K2_2
  try clear c2_3 f2_3 K2_3
  try clear c2_4 f2_4 K2_4
  try clear c2_5 f2_5 K2_5
  try clear c1_0 f1_0 K1_0
  try clear c1_1 f1_1 K1_1
  try clear c1_2 f1_2 K1_2
  try clear c1_3 f1_3 K1_3
  try clear c1_4 f1_4 K1_4
  try clear c1_5 f1_5 K1_5
  have y3 : S < w3.heap.size := by omega
  go_wp2_with fail
  generalize strL (ctextR c) = T at hz
  refine (l01Next_n S _ _ (Dr.src ?hs2 hs.out)).mono ?_
  case hs2 => exact (by repeat (first | with_reducible refine Dr.setCell ?_ (by first | (simp; done) | (simp; omega) | omega) _ | with_reducible refine Dr.alloc ?_ _ | with_reducible exact Dr.refl _ _ | with_reducible assumption | with_reducible refine Dr.trans ?_ (by with_reducible assumption) | with_reducible refine Dr.trans ?_ (Dr.of_new (by with_reducible assumption)) | with_reducible refine Dr.drewN ?_ _ | with_reducible refine Dr.drew ?_))
  rintro e w4 ⟨r4, rfl, b4⟩
  have z4 := b4.size
  try simp only [World.size_alloc, World.size_drew, World.heap_drewN, World.size_setCell] at z4
  try clear c3_0 f3_0 K3_0
  try clear c3_1 f3_1 K3_1
  try clear c3_2 f3_2 K3_2
  try clear c3_3 f3_3 K3_3
  try clear c3_4 f3_4 K3_4
  try clear c3_5 f3_5 K3_5
  try clear c2_0 f2_0 K2_0
  try clear c2_1 f2_1 K2_1
  try clear c2_2 f2_2 K2_2
  try clear c2_3 f2_3 K2_3
  try clear c2_4 f2_4 K2_4
  try clear c2_5 f2_5 K2_5
  try clear c1_0 f1_0 K1_0
  try clear c1_1 f1_1 K1_1
  try clear c1_2 f1_2 K1_2
  try clear c1_3 f1_3 K1_3
  try clear c1_4 f1_4 K1_4
  try clear c1_5 f1_5 K1_5
  have y4 : S < w4.heap.size := by omega
  go_wp2_with fail
  · skip
    refine (l01Damage_any S T _ (Dr.src ?hs3 hs.out) (by omega)).mono ?_
    case hs3 => exact (by repeat (first | with_reducible refine Dr.setCell ?_ (by first | (simp; done) | (simp; omega) | omega) _ | with_reducible refine Dr.alloc ?_ _ | with_reducible exact Dr.refl _ _ | with_reducible assumption | with_reducible refine Dr.trans ?_ (by with_reducible assumption) | with_reducible refine Dr.trans ?_ (Dr.of_new (by with_reducible assumption)) | with_reducible refine Dr.drewN ?_ _ | with_reducible refine Dr.drew ?_))
    rintro e w5 ⟨r, rfl, hr, b5⟩
    have z5 := b5.size
    try simp only [World.size_alloc, World.size_drew, World.heap_drewN, World.size_setCell] at z5
    try clear c4_0 f4_0 K4_0
    try clear c4_1 f4_1 K4_1
    try clear c4_2 f4_2 K4_2
    try clear c4_3 f4_3 K4_3
    try clear c4_4 f4_4 K4_4
    try clear c4_5 f4_5 K4_5
    try clear c3_0 f3_0 K3_0
    try clear c3_1 f3_1 K3_1
    try clear c3_2 f3_2 K3_2
    try clear c3_3 f3_3 K3_3
    try clear c3_4 f3_4 K3_4
    try clear c3_5 f3_5 K3_5
    try clear c2_0 f2_0 K2_0
    try clear c2_1 f2_1 K2_1
    try clear c2_2 f2_2 K2_2
    try clear c2_3 f2_3 K2_3
    try clear c2_4 f2_4 K2_4
    try clear c2_5 f2_5 K2_5
    have y5 : S < w5.heap.size := by omega
    go_wp2_with fail
    go_ret
    exact ⟨r, rfl, by omega, Dr.new (S := S) (w0 := w) (w := w1) (by repeat (first | with_reducible exact New.refl _ | with_reducible assumption | with_reducible refine New.drew ?_ | with_reducible refine New.drewN ?_ _ | with_reducible refine New.alloc ?_ _ | with_reducible refine New.setCell ?_ (by first | (simp; done) | (simp; omega) | omega) _ | with_reducible refine New.trans ?_ (by with_reducible assumption))) (by repeat (first | with_reducible refine Dr.setCell ?_ (by first | (simp; done) | (simp; omega) | omega) _ | with_reducible refine Dr.alloc ?_ _ | with_reducible exact Dr.refl _ _ | with_reducible assumption | with_reducible refine Dr.trans ?_ (by with_reducible assumption) | with_reducible refine Dr.trans ?_ (Dr.of_new (by with_reducible assumption)) | with_reducible refine Dr.drewN ?_ _ | with_reducible refine Dr.drew ?_)) (by omega)⟩
  · go_ret
    exact ⟨T, rfl, by omega, Dr.new (S := S) (w0 := w) (w := w1) (by repeat (first | with_reducible exact New.refl _ | with_reducible assumption | with_reducible refine New.drew ?_ | with_reducible refine New.drewN ?_ _ | with_reducible refine New.alloc ?_ _ | with_reducible refine New.setCell ?_ (by first | (simp; done) | (simp; omega) | omega) _ | with_reducible refine New.trans ?_ (by with_reducible assumption))) (by repeat (first | with_reducible refine Dr.setCell ?_ (by first | (simp; done) | (simp; omega) | omega) _ | with_reducible refine Dr.alloc ?_ _ | with_reducible exact Dr.refl _ _ | with_reducible assumption | with_reducible refine Dr.trans ?_ (by with_reducible assumption) | with_reducible refine Dr.trans ?_ (Dr.of_new (by with_reducible assumption)) | with_reducible refine Dr.drewN ?_ _ | with_reducible refine Dr.drew ?_)) (by omega)⟩
/-- A slice that lies in blocks from M on. -/
def RdMK (M : Nat) (w : World) (v : Value) (n : Nat) (cs : List Value) : Prop := Rd w v n cs ∧ ∀ b o k c, v = .slice (some ⟨b, o, none⟩) k c → M ≤ b
theorem own_rdMK {base : Nat} {w : World} {e : TypeId} {sz : Nat} {v : Value} {n : Nat} {cs : List Value} (h : w.ownsRow base e sz v n cs) : RdMK base w v n cs :=
  ⟨own_rd h, fun b o k c e => by
    subst e
    exact (own_block_lt h b (by rcases h.2 with ⟨h1, _⟩ | ⟨g, cap, cur, h1, _⟩ <;> cases h1; rfl)).1⟩
theorem RdMK.kept {M : Nat} {w w' : World} {v : Value} {n : Nat} {cs : List Value} (h : RdMK M w v n cs) (hz : w.heap.size ≤ w'.heap.size) (hb : ∀ k, M ≤ k → k < w.heap.size → w'.heap[k]? = w.heap[k]?) : RdMK M w' v n cs := by
  obtain ⟨⟨a, cap, rfl, hn, h0, hc⟩, hS⟩ := h
  refine ⟨⟨a, cap, rfl, hn, h0, fun j u hu => ?_⟩, hS⟩
  obtain ⟨b', o, ha, hlt, hcell⟩ := hc j u hu
  subst ha
  exact ⟨b', o, rfl, Nat.lt_of_lt_of_le hlt hz, (World.cell?_of_block (hb _ (hS _ _ _ _ rfl) hlt)).trans hcell⟩
def DrawCtN (w : World) (e : Ending) (w' : World) : Prop := ∃ (c : CodeD) (bv sv : Value) (r : Int), e = .returned (.tuple #[valC c bv sv, .int .i64 r]) ∧ New w w' ∧ RdT w' bv c.blocks ∧ RdN w' sv c.steps ∧ SmC c
set_option maxHeartbeats 4000000 in
theorem drawCountSteps_any (v : Value) (bs : List Int) (w : World) (hv : Rd w v bs.length (bs.map (Value.int .u8))) (hl : bs.length ≤ 4096) (hb : ∀ c ∈ bs, 0 ≤ c ∧ c ≤ 255) :
    Calls Tryz.prog 11 #[v] w (DrawCtN w) := by
  have HV := Lib.hid hv
  have HB := Lib.hid hb
  clear hv hb
  go_enter Tryz.func11, Tryz.ntmps11
  go_wp2_with fail
  refine (l01From_any w.heap.size v bs _ (rdB_new HV.out (by repeat (first | with_reducible exact New.refl _ | with_reducible assumption | with_reducible refine New.drew ?_ | with_reducible refine New.drewN ?_ _ | with_reducible refine New.alloc ?_ _ | with_reducible refine New.setCell ?_ (by first | (simp; done) | (simp; omega) | omega) _ | with_reducible refine New.trans ?_ (by with_reducible assumption)))) (by first | (simp; done) | (simp; omega)) hl HB.out).mono ?_
  rintro e w1 ⟨S, rfl, hS0, n1, hs⟩
  have b1 := Dr.of_new (S := S) n1; have hS := hs.lt; replace hs := Lib.hid hs; simp only [World.size_alloc] at hS0
  have z1 := b1.size
  try simp only [World.size_alloc, World.size_drew, World.heap_drewN, World.size_setCell] at z1
  have y1 : S < w1.heap.size := by omega
  have N1 : New w w1 := ((New.refl w).alloc _).trans n1
  have KR1 := (Blk.alloc_at (w := w) (cs := #[.int .i64 0, .int .i64 0, .int .i64 0, .slice none 0 0, .slice none 0 0]) (T := 27) rfl).new n1
  clear n1 b1
  have zz1 := N1.size
  have hR1 := KR1.lt
  go_wp2_with fail
  refine (drCd_any S _ hs.out).mono ?_
  rintro e w2 ⟨c, bv, sv, rfl, b2, oc, hsm⟩
  have z2 := b2.size
  try simp only [World.size_alloc, World.size_drew, World.heap_drewN, World.size_setCell] at z2
  try clear c1_0 f1_0 K1_0
  try clear c1_1 f1_1 K1_1
  try clear c1_2 f1_2 K1_2
  try clear c1_3 f1_3 K1_3
  try clear c1_4 f1_4 K1_4
  try clear c1_5 f1_5 K1_5
  have y2 : S < w2.heap.size := by omega
  have KR2 := KR1.dr b2 (by omega)
  have hR2 := KR2.lt
  have zz2 := b2.size
  obtain ⟨ba, bc, rfl⟩ := own_slice oc.blocks
  obtain ⟨sa, sc, rfl⟩ := own_slice oc.steps
  have N2 : New w w2 := Dr.new (S := S) N1 b2 (by omega)
  have mb := Lib.hid (own_rdMK (own_new oc.blocks ((New.refl w2).alloc (.cells #[.int .i64 c.ins, .int .i64 c.vars, .int .i64 c.outs, .slice ba c.blocks.length bc, .slice sa c.steps.length sc] 27))))
  have ms := Lib.hid (own_rdMK (own_new oc.steps ((New.refl w2).alloc (.cells #[.int .i64 c.ins, .int .i64 c.vars, .int .i64 c.outs, .slice ba c.blocks.length bc, .slice sa c.steps.length sc] 27))))
  clear oc
  go_wp2_with fail
  have KX : Blk (w2.alloc (.cells #[.int .i64 c.ins, .int .i64 c.vars, .int .i64 c.outs, .slice ba c.blocks.length bc, .slice sa c.steps.length sc] 27)) w2.heap.size #[.int .i64 c.ins, .int .i64 c.vars, .int .i64 c.outs, .slice ba c.blocks.length bc, .slice sa c.steps.length sc] 27 := Blk.alloc_at rfl
  have KR : Blk (w2.alloc (.cells #[.int .i64 c.ins, .int .i64 c.vars, .int .i64 c.outs, .slice ba c.blocks.length bc, .slice sa c.steps.length sc] 27)) w.heap.size #[.int .i64 0, .int .i64 0, .int .i64 0, .slice none 0 0, .slice none 0 0] 27 := KR2.alloc _
  have hzz : w2.heap.size < (w2.alloc (.cells #[.int .i64 c.ins, .int .i64 c.vars, .int .i64 c.outs, .slice ba c.blocks.length bc, .slice sa c.steps.length sc] 27)).heap.size := by simp
  have hSW : S < (w2.alloc (.cells #[.int .i64 c.ins, .int .i64 c.vars, .int .i64 c.outs, .slice ba c.blocks.length bc, .slice sa c.steps.length sc] 27)).heap.size := by omega
  have hSRC := Dr.src (Dr.alloc b2 (.cells #[.int .i64 c.ins, .int .i64 c.vars, .int .i64 c.outs, .slice ba c.blocks.length bc, .slice sa c.steps.length sc] 27)) hs.out
  replace hSRC := Lib.hid hSRC
  have hL9 : LateOK S (w2.alloc (.cells #[.int .i64 c.ins, .int .i64 c.vars, .int .i64 c.outs, .slice ba c.blocks.length bc, .slice sa c.steps.length sc] 27)) [(w.heap.size, #[.int .i64 c.ins, .int .i64 c.vars, .int .i64 c.outs, .slice ba c.blocks.length bc, .slice sa c.steps.length sc], 27)] := ⟨⟨by omega, by omega⟩, trivial⟩
  have hM9 : ∀ x ∈ ([(w.heap.size, #[.int .i64 c.ins, .int .i64 c.vars, .int .i64 c.outs, .slice ba c.blocks.length bc, .slice sa c.steps.length sc], 27)] : Late), x.1 < (w2.alloc (.cells #[.int .i64 c.ins, .int .i64 c.vars, .int .i64 c.outs, .slice ba c.blocks.length bc, .slice sa c.steps.length sc] 27)).heap.size := fun x hx => (LateOK.get hL9 x hx).2
  refine RQ.wp_facts (Dq.ord S [(w.heap.size, #[.int .i64 c.ins, .int .i64 c.vars, .int .i64 c.outs, .slice ba c.blocks.length bc, .slice sa c.steps.length sc], 27)]) [fun X _ => X = .agg #[.int .i64 c.ins, .int .i64 c.vars, .int .i64 c.outs, .slice ba c.blocks.length bc, .slice sa c.steps.length sc], fun X _ => X = .pointer (some ⟨S, 0, none⟩), fun X W' => ∃ r : Int, X = .int .i64 r, fun X W' => ∃ r : Int, X = .int .i64 r, fun X W' => Blk W' (w.heap.size) (#[.int .i64 c.ins, .int .i64 c.vars, .int .i64 c.outs, .slice ba c.blocks.length bc, .slice sa c.steps.length sc]) (27), fun X W' => ∃ r : Int, X = .int .i64 r] (by kernel_rfl) (by kernel_rfl) ⟨RQ.stable_eq _, RQ.stable_eq _, fun X w0 w1 hn ⟨r12, t12⟩ => ⟨r12, t12⟩, fun X w0 w1 hn ⟨r13, t13⟩ => ⟨r13, t13⟩, fun X w0 w1 hn kb0 => Blk.kept kb0 hn (by simp), fun X w0 w1 hn ⟨r3, t3⟩ => ⟨r3, t3⟩, trivial⟩ ?_ ?_
  · refine ⟨?_, ?_, ?_, ?_, ?_, ?_, trivial⟩
    · intro a w9 hw ho hk
      refine .inl ⟨by rfl, ?_⟩
      have s5 := ho 5 rfl
      dsimp at s5
      have K9 := Blk.dq KX hw (by omega) ⟨by omega, trivial⟩
      obtain ⟨c9, f9⟩ := K9.rules
      go_simp
      exact Dq.refl _ _ _
    · intro a w9 hw ho hk
      refine .inl ⟨by rfl, ?_⟩
      have s4 := ho 4 rfl
      dsimp at s4
      go_simp
      exact Dq.refl _ _ _
    · intro a w9 hw ho hk
      refine .inl ⟨by rfl, ?_⟩
      have t11 : a.tmps[11]?.getD undef = .pointer (some ⟨S, 0, none⟩) := hk 1 11 (by kernel_rfl) rfl
      go_simp
      refine (l01Next_n S _ _ (Dq.src hw (by intro x hx; simp at hx; subst hx; simp) hSRC.out)).mono ?_; rintro e w2 ⟨r, rfl, hb⟩
      first | exact ⟨Dq.of_dr hb (hL9.mono hw.size), _, rfl, _, rfl⟩ | exact ⟨Dq.of_dr hb (hL9.mono hw.size), _, by simp⟩
    · intro a w9 hw ho hk
      refine .inl ⟨by rfl, ?_⟩
      obtain ⟨r12, t12⟩ : ∃ r : Int, (a.tmps[12]?.getD undef) = .int .i64 r := hk 2 12 (by kernel_rfl) rfl
      go_simp
      first | exact ⟨Dq.refl _ _ _, _, rfl, _, rfl⟩ | exact ⟨Dq.refl _ _ _, _, by simp⟩
    · intro a w9 hw ho hk
      refine .inl ⟨by rfl, ?_⟩
      have s2 := ho 2 rfl
      dsimp at s2
      have t10 : a.tmps[10]?.getD undef = .agg #[.int .i64 c.ins, .int .i64 c.vars, .int .i64 c.outs, .slice ba c.blocks.length bc, .slice sa c.steps.length sc] := hk 0 10 (by kernel_rfl) rfl
      rcases Blk.late KR hw (by simp : ((w.heap.size, #[.int .i64 c.ins, .int .i64 c.vars, .int .i64 c.outs, .slice ba c.blocks.length bc, .slice sa c.steps.length sc], 27) : Nat × Array Value × TypeId) ∈ ([(w.heap.size, #[.int .i64 c.ins, .int .i64 c.vars, .int .i64 c.outs, .slice ba c.blocks.length bc, .slice sa c.steps.length sc], 27)] : Late)) with K9 | K9
      all_goals obtain ⟨c9, f9⟩ := K9.rules
      all_goals go_simp
      all_goals refine Dq.stored2 (b := w.heap.size) (F := #[.int .i64 c.ins, .int .i64 c.vars, .int .i64 c.outs, .slice ba c.blocks.length bc, .slice sa c.steps.length sc]) (T := 27) (by repeat (first | with_reducible exact Same1.refl _ _ | with_reducible refine Same1.set ?_ _ _)) ?_ (by simp) (by intro x hx; simp at hx; rcases hx with rfl <;> first | (intro _; rfl) | (intro h; exfalso; simp at h; done) | (intro h; exfalso; simp at h; omega)) (by omega)
      all_goals
        apply blk_cast
        · repeat (first | with_reducible exact K9 | with_reducible apply Blk.set)
        · rfl
    · intro a w9 hw ho hk
      refine .inl ⟨by rfl, ?_⟩
      obtain ⟨r13, t13⟩ : ∃ r : Int, (a.tmps[13]?.getD undef) = .int .i64 r := hk 3 13 (by kernel_rfl) rfl
      go_simp
      first | exact ⟨Dq.refl _ _ _, _, rfl, _, rfl⟩ | exact ⟨Dq.refl _ _ _, _, by simp⟩
  intro w9 b9
  rintro _ rfl
  rintro _ rfl
  rintro _ ⟨r12, rfl⟩
  rintro _ ⟨r13, rfl⟩
  rintro _ kb0
  rintro _ ⟨r3, rfl⟩
  obtain ⟨cl0, fl0⟩ := kb0.rules
  simp only [RQ.EndAll, List.nil_append, List.cons_append, List.length_cons, List.length_nil, Nat.zero_add, Nat.reduceAdd, List.take_succ_cons, List.take_zero, List.drop_succ_cons, List.drop_zero, RQ.putAll, Act.put, List.setIfInBounds_toArray, List.set_cons_succ, List.set_cons_zero]
  go_wp2_with fail
  have hxb := mb.out.kept b9.size (fun k h1 h2 => b9.other k h2 (by omega) (fun x hx => by simp at hx; subst hx; first | (simp; omega) | (simp; done)))
  have hxs := ms.out.kept b9.size (fun k h1 h2 => b9.other k h2 (by omega) (fun x hx => by simp at hx; subst hx; first | (simp; omega) | (simp; done)))
  have n9 : New w w9 := Dq.new (w0 := w) (N2.alloc _) b9 (by omega) (by intro x hx; simp at hx; subst hx; simp)
  refine bodyPost_ret (v := .tuple #[valC c (.slice ba c.blocks.length bc) (.slice sa c.steps.length sc), .int .i64 r3]) (by simp [results, Tryz.results11, go_sem, cl0]) rfl ⟨c, _, _, r3, rfl, n9, hxb.1, hxs.1, hsm⟩
end Go.Proofs.YteielmihlfakgaaGreatDoor
