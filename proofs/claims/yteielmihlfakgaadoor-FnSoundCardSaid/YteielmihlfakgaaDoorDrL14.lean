/- Contracts: programs and names drawn for the laws. -/
import Derived.WalkSpells
import Derived.Test.YteielmihlfakgaaDoorProg
import Derived.Test.YteielmihlfakgaaDoorDrAny
import Derived.Test.YteielmihlfakgaaDoorSound2
namespace Go.Proofs.YteielmihlfakgaaDoor
open Go Go.Proofs Go.RowKit
set_option linter.unusedVariables false
set_option linter.unusedSimpArgs false
set_option maxRecDepth 100000
abbrev anyQ (p : ProgD) (iv vv ov : Value) : Prop := True
set_option maxHeartbeats 2000000 in
theorem dr14_any {B : Nat} (S : Nat) (w : World) (hs : Src B S w) : Calls Tryd.prog 41 #[.pointer (some ⟨S, 0, none⟩)] w (DrawPg S anyQ w) := by
  have hS := hs.lt
  have HS := Lib.hid hs; clear hs
  go_enter Tryd.func41, Tryd.ntmps41
  go_wp2_with fail
  refine (l01Next_any S 4 _ (Dr.src ?hs1 HS.out)).mono ?_
  case hs1 => exact (by repeat (first | with_reducible refine Dr.setCell ?_ (by first | (simp; done) | (simp; omega) | omega) _ | with_reducible refine Dr.alloc ?_ _ | with_reducible exact Dr.refl _ _ | with_reducible assumption | with_reducible refine Dr.trans ?_ (by with_reducible assumption) | with_reducible refine Dr.trans ?_ (Dr.of_new (by with_reducible assumption)) | with_reducible refine Dr.drewN ?_ _ | with_reducible refine Dr.drew ?_))
  rintro e w1 ⟨r1, rfl, p1, q1, b1⟩
  have z1 := b1.size
  try simp only [World.size_alloc, World.size_drew, World.heap_drewN, World.size_setCell] at z1
  have y1 : S < w1.heap.size := by omega
  have KR1 := (Blk.alloc_at (w := w) (cs := #[.string ⟨#[]⟩, .slice none 0 0, .slice none 0 0, .slice none 0 0, .string ⟨#[]⟩, .slice none 0 0]) (T := 27) rfl).dr b1 (by omega)
  have D1 : Dr S w w1 := (by repeat (first | with_reducible refine Dr.setCell ?_ (by first | (simp; done) | (simp; omega) | omega) _ | with_reducible refine Dr.alloc ?_ _ | with_reducible exact Dr.refl _ _ | with_reducible assumption | with_reducible refine Dr.trans ?_ (by with_reducible assumption) | with_reducible refine Dr.trans ?_ (Dr.of_new (by with_reducible assumption)) | with_reducible refine Dr.drewN ?_ _ | with_reducible refine Dr.drew ?_))
  have hz1 := D1.size
  have hz1' := b1.size
  simp only [World.size_alloc] at hz1'
  clear b1
  by_cases h0 : r1 = 0
  · subst h0
    go_wp2_with fail
    refine (drAny_any S _ (D1.src HS.out)).mono ?_
    rintro e w2 ⟨p, iv, vv, ov, lv, rfl, b2, OP, hsm, _⟩
    have z2 := b2.size
    try simp only [World.size_alloc, World.size_drew, World.heap_drewN, World.size_setCell] at z2
    try clear c1_0 f1_0 K1_0
    try clear c1_1 f1_1 K1_1
    try clear c1_2 f1_2 K1_2
    try clear c1_3 f1_3 K1_3
    try clear c1_4 f1_4 K1_4
    try clear c1_5 f1_5 K1_5
    have y2 : S < w2.heap.size := by omega
    obtain ⟨qa, qc, rfl⟩ := own_slice OP.ins
    obtain ⟨qv, qd, rfl⟩ := own_slice OP.vars
    obtain ⟨qo, qe, rfl⟩ := own_slice OP.outs
    obtain ⟨ps, hps, OL⟩ := id OP.lines
    obtain ⟨ql, qf, rfl⟩ := own_slice OL.row
    have DE := D1.trans b2
    have KR2 := KR1.dr b2 (by omega)
    have hR2 := KR2.lt
    obtain ⟨cR, fR⟩ := KR2.rules
    have OE := OwnPg.base (base' := w.heap.size + 1) OP (by omega)
    go_wp2_with fail
    have DF := DE.set6 (b := w.heap.size) (Nat.le_refl _) (.string p.name) (.slice qa p.inputs.length qc) (.slice qv p.vars.length qd) (.slice qo p.outputs.length qe) (.string p.guard) (.slice ql ps.length qf)
    have OF := OE.set6 (b := w.heap.size) (by omega) (.string p.name) (.slice qa p.inputs.length qc) (.slice qv p.vars.length qd) (.slice qo p.outputs.length qe) (.string p.guard) (.slice ql ps.length qf)
    exact ret_pg rfl DF (by omega) OF hsm trivial (by simp [results, Tryd.results41, go_sem, cR, fR, hR2])
  · have e0 : (r1 == 0) = false := by simpa using h0
    go_wp2_with fail
    refine (drPg_any S _ (D1.src HS.out)).mono ?_
    rintro e w2 ⟨p, iv, vv, ov, lv, rfl, b2, OP, hsm, _⟩
    have z2 := b2.size
    try simp only [World.size_alloc, World.size_drew, World.heap_drewN, World.size_setCell] at z2
    try clear c1_0 f1_0 K1_0
    try clear c1_1 f1_1 K1_1
    try clear c1_2 f1_2 K1_2
    try clear c1_3 f1_3 K1_3
    try clear c1_4 f1_4 K1_4
    try clear c1_5 f1_5 K1_5
    have y2 : S < w2.heap.size := by omega
    obtain ⟨qa, qc, rfl⟩ := own_slice OP.ins
    obtain ⟨qv, qd, rfl⟩ := own_slice OP.vars
    obtain ⟨qo, qe, rfl⟩ := own_slice OP.outs
    obtain ⟨ps, hps, OL⟩ := id OP.lines
    obtain ⟨ql, qf, rfl⟩ := own_slice OL.row
    have DE := D1.trans b2
    have KR2 := KR1.dr b2 (by omega)
    have hR2 := KR2.lt
    obtain ⟨cR, fR⟩ := KR2.rules
    have OE := OwnPg.base (base' := w.heap.size + 1) OP (by omega)
    go_wp2_with fail
    have DF := DE.set6 (b := w.heap.size) (Nat.le_refl _) (.string p.name) (.slice qa p.inputs.length qc) (.slice qv p.vars.length qd) (.slice qo p.outputs.length qe) (.string p.guard) (.slice ql ps.length qf)
    have OF := OE.set6 (b := w.heap.size) (by omega) (.string p.name) (.slice qa p.inputs.length qc) (.slice qv p.vars.length qd) (.slice qo p.outputs.length qe) (.string p.guard) (.slice ql ps.length qf)
    exact ret_pg rfl DF (by omega) OF hsm trivial (by simp [results, Tryd.results41, go_sem, cR, fR, hR2])
def DrawNm (S : Nat) (w : World) (e : Ending) (w' : World) : Prop := ∃ s : ByteArray, e = .returned (.string s) ∧ s.size ≤ 100 ∧ Dr S w w'
theorem smN : ∀ x ∈ ([⟨#[110, 111, 98, 111, 100, 121]⟩, ⟨#[]⟩, ⟨#[101, 110, 100]⟩, ⟨#[120]⟩, ⟨#[113]⟩] : List ByteArray), x.size ≤ 100 := fun x hx => by simp at hx; rcases hx with rfl | rfl | rfl | rfl | rfl <;> decide
set_option maxHeartbeats 2000000 in
theorem drName_any {B : Nat} (S : Nat) (p : ProgD) (iv vv ov lv : Value) (base : Nat) (w : World) (hs : Src B S w) (hp : OwnPg w base p iv vv ov lv) (hb : S < base) (hsm : SmP p) : Calls Tryd.prog 42 #[.pointer (some ⟨S, 0, none⟩), valP p iv vv ov lv] w (DrawNm S w) := by
  have hS := hs.lt
  have HS := Lib.hid hs; clear hs
  have HP := Lib.hid hp
  obtain ⟨qa, qc, rfl⟩ := own_slice hp.ins
  obtain ⟨qv, qd, rfl⟩ := own_slice hp.vars
  obtain ⟨qo, qe, rfl⟩ := own_slice hp.outs
  obtain ⟨ps, hps, OL⟩ := hp.lines
  obtain ⟨ql, qf, rfl⟩ := own_slice OL.row
  clear OL
  go_enter Tryd.func42, Tryd.ntmps42
  go_wp2_with fail
  refine (sAll_any p _ _ _ _ _ (HP.out.rd.new (by repeat (first | with_reducible exact New.refl _ | with_reducible assumption | with_reducible refine New.drew ?_ | with_reducible refine New.drewN ?_ _ | with_reducible refine New.alloc ?_ _ | with_reducible refine New.setCell ?_ (by first | (simp; done) | (simp; omega) | omega) _ | with_reducible refine New.trans ?_ (by with_reducible assumption)))) hsm.fit).mono ?_
  rintro e w1 ⟨v1, rfl, b1, o1⟩
  have hz1 := b1.size
  simp only [World.size_alloc] at o1 hz1
  have hall : ∀ x ∈ allP p, x.size ≤ 100 := fun x hx => by
    rw [allP, List.mem_append, List.mem_append] at hx
    rcases hx with (h | h) | h
    · exact hsm.ins x h
    · exact hsm.vars x h
    · exact hsm.outs x h
  have hal : (allP p).length ≤ 300 := by
    have := hsm.insl; have := hsm.varsl; have := hsm.outsl
    rw [allP, List.length_append, List.length_append]; omega
  have D1 : Dr S w w1 := ((Dr.refl S w).alloc _).trans (Dr.of_new b1)
  obtain ⟨xa, xc, rfl⟩ := own_slice o1
  generalize allP p = A at *
  have HA := Lib.hid hall
  clear hall b1
  by_cases hA : A.length = 0
  · have eA : ((A.length : Int) == 0) = true := by simp [hA]
    go_wp2_with fail
    have oX := own_litS (w := w1) (b := w1.heap.size) (base := w1.heap.size) (n := 5) (T := 9) ([⟨#[110, 111, 98, 111, 100, 121]⟩, ⟨#[]⟩, ⟨#[101, 110, 100]⟩, ⟨#[120]⟩, ⟨#[113]⟩] : List ByteArray) (Nat.le_refl _) rfl rfl (by simp)
    have zw1 := D1.size
    refine (l01Next_any S 5 _ ((D1.alloc _).src HS.out)).mono ?_
    rintro e w5 ⟨r5, rfl, p5, q5, b5⟩
    obtain ⟨n5, rfl⟩ := Int.eq_ofNat_of_zero_le p5; replace q5 : n5 < 5 := (by omega)
    have z5 := b5.size
    try simp only [World.size_alloc, World.size_drew, World.heap_drewN, World.size_setCell] at z5
    try clear c4_0 f4_0 K4_0
    try clear c4_1 f4_1 K4_1
    try clear c4_2 f4_2 K4_2
    try clear c4_3 f4_3 K4_3
    try clear c4_4 f4_4 K4_4
    try clear c4_5 f4_5 K4_5
    try clear c3_0 f3_0 K3_0
    try clear c3_1 f3_1 K3_1
    try clear c3_2 f3_2 K3_2
    try clear c3_3 f3_3 K3_3
    try clear c3_4 f3_4 K3_4
    try clear c3_5 f3_5 K3_5
    try clear c2_0 f2_0 K2_0
    try clear c2_1 f2_1 K2_1
    try clear c2_2 f2_2 K2_2
    try clear c2_3 f2_3 K2_3
    try clear c2_4 f2_4 K2_4
    try clear c2_5 f2_5 K2_5
    have y5 : S < w5.heap.size := by omega
    have D5 := (D1.alloc (.cells (([⟨#[110, 111, 98, 111, 100, 121]⟩, ⟨#[]⟩, ⟨#[101, 110, 100]⟩, ⟨#[120]⟩, ⟨#[113]⟩] : List ByteArray).map Value.string).toArray 9)).trans b5
    obtain ⟨xb, xo, hxe, hxb, hxc⟩ := rd_atS (own_rd (own_dr oX b5 (by omega))) (show n5 < ([⟨#[110, 111, 98, 111, 100, 121]⟩, ⟨#[]⟩, ⟨#[101, 110, 100]⟩, ⟨#[120]⟩, ⟨#[113]⟩] : List ByteArray).length from q5)
    cases hxe
    have hfs : (([⟨#[110, 111, 98, 111, 100, 121]⟩, ⟨#[]⟩, ⟨#[101, 110, 100]⟩, ⟨#[120]⟩, ⟨#[113]⟩] : List ByteArray)[n5]'q5).size ≤ 100 := smN _ (List.getElem_mem q5)
    generalize ([⟨#[110, 111, 98, 111, 100, 121]⟩, ⟨#[]⟩, ⟨#[101, 110, 100]⟩, ⟨#[120]⟩, ⟨#[113]⟩] : List ByteArray)[n5]'q5 = nm at hxc hfs
    rw [Nat.zero_add] at hxc
    clear oX b5
    go_wp2_with fail
    go_ret
    exact ⟨nm, rfl, hfs, D5⟩
  · have eA : ((A.length : Int) == 0) = false := beq_eq_false_iff_ne.2 (by omega)
    replace o1 := Lib.hid o1
    go_wp2_with fail
    refine (l01Next_any S 8 _ (D1.src HS.out)).mono ?_
    rintro e w2 ⟨r2, rfl, p2, q2, b2⟩
    have z2 := b2.size
    try simp only [World.size_alloc, World.size_drew, World.heap_drewN, World.size_setCell] at z2
    try clear c1_0 f1_0 K1_0
    try clear c1_1 f1_1 K1_1
    try clear c1_2 f1_2 K1_2
    try clear c1_3 f1_3 K1_3
    try clear c1_4 f1_4 K1_4
    try clear c1_5 f1_5 K1_5
    have y2 : S < w2.heap.size := by omega
    have D2 := D1.trans b2
    by_cases h0 : r2 = 0
    · subst h0
      go_wp2_with fail
      have oX := own_litS (w := w2) (b := w2.heap.size) (base := w2.heap.size) (n := 5) (T := 9) ([⟨#[110, 111, 98, 111, 100, 121]⟩, ⟨#[]⟩, ⟨#[101, 110, 100]⟩, ⟨#[120]⟩, ⟨#[113]⟩] : List ByteArray) (Nat.le_refl _) rfl rfl (by simp)
      have zw2 := D2.size
      refine (l01Next_any S 5 _ ((D2.alloc _).src HS.out)).mono ?_
      rintro e w5 ⟨r5, rfl, p5, q5, b5⟩
      obtain ⟨n5, rfl⟩ := Int.eq_ofNat_of_zero_le p5; replace q5 : n5 < 5 := (by omega)
      have z5 := b5.size
      try simp only [World.size_alloc, World.size_drew, World.heap_drewN, World.size_setCell] at z5
      try clear c4_0 f4_0 K4_0
      try clear c4_1 f4_1 K4_1
      try clear c4_2 f4_2 K4_2
      try clear c4_3 f4_3 K4_3
      try clear c4_4 f4_4 K4_4
      try clear c4_5 f4_5 K4_5
      try clear c3_0 f3_0 K3_0
      try clear c3_1 f3_1 K3_1
      try clear c3_2 f3_2 K3_2
      try clear c3_3 f3_3 K3_3
      try clear c3_4 f3_4 K3_4
      try clear c3_5 f3_5 K3_5
      try clear c2_0 f2_0 K2_0
      try clear c2_1 f2_1 K2_1
      try clear c2_2 f2_2 K2_2
      try clear c2_3 f2_3 K2_3
      try clear c2_4 f2_4 K2_4
      try clear c2_5 f2_5 K2_5
      have y5 : S < w5.heap.size := by omega
      have D5 := (D2.alloc (.cells (([⟨#[110, 111, 98, 111, 100, 121]⟩, ⟨#[]⟩, ⟨#[101, 110, 100]⟩, ⟨#[120]⟩, ⟨#[113]⟩] : List ByteArray).map Value.string).toArray 9)).trans b5
      obtain ⟨xb, xo, hxe, hxb, hxc⟩ := rd_atS (own_rd (own_dr oX b5 (by omega))) (show n5 < ([⟨#[110, 111, 98, 111, 100, 121]⟩, ⟨#[]⟩, ⟨#[101, 110, 100]⟩, ⟨#[120]⟩, ⟨#[113]⟩] : List ByteArray).length from q5)
      cases hxe
      have hfs : (([⟨#[110, 111, 98, 111, 100, 121]⟩, ⟨#[]⟩, ⟨#[101, 110, 100]⟩, ⟨#[120]⟩, ⟨#[113]⟩] : List ByteArray)[n5]'q5).size ≤ 100 := smN _ (List.getElem_mem q5)
      generalize ([⟨#[110, 111, 98, 111, 100, 121]⟩, ⟨#[]⟩, ⟨#[101, 110, 100]⟩, ⟨#[120]⟩, ⟨#[113]⟩] : List ByteArray)[n5]'q5 = nm at hxc hfs
      rw [Nat.zero_add] at hxc
      clear oX b5
      go_wp2_with fail
      go_ret
      exact ⟨nm, rfl, hfs, D5⟩
    · have e0 : (r2 == 0) = false := by simpa using h0
      go_wp2_with fail
      refine (l01Next_any S A.length _ (D2.src HS.out)).mono ?_
      rintro e w3 ⟨r3, rfl, p3, q3, b3⟩
      obtain ⟨n3, rfl⟩ := Int.eq_ofNat_of_zero_le p3; replace q3 : n3 < A.length := (by omega)
      have z3 := b3.size
      try simp only [World.size_alloc, World.size_drew, World.heap_drewN, World.size_setCell] at z3
      try clear c2_0 f2_0 K2_0
      try clear c2_1 f2_1 K2_1
      try clear c2_2 f2_2 K2_2
      try clear c2_3 f2_3 K2_3
      try clear c2_4 f2_4 K2_4
      try clear c2_5 f2_5 K2_5
      try clear c1_0 f1_0 K1_0
      try clear c1_1 f1_1 K1_1
      try clear c1_2 f1_2 K1_2
      try clear c1_3 f1_3 K1_3
      try clear c1_4 f1_4 K1_4
      try clear c1_5 f1_5 K1_5
      have y3 : S < w3.heap.size := by omega
      have D3 := D2.trans b3
      obtain ⟨xb, xo, rfl, hxb, hxc⟩ := rd_atS (own_rd (own_dr (own_dr o1.out b2 (by omega)) b3 (by omega))) q3
      have hfs := HA.out A[n3] (List.getElem_mem q3)
      generalize A[n3] = nm at hxc hfs
      go_wp2_with fail
      go_ret
      exact ⟨nm, rfl, hfs, D3⟩
theorem rdB_new {w w' : World} {v : Value} {n : Nat} {cs : List Value} (h : Rd w v n cs) (hn : New w w') : RdB w.heap.size w' v n cs := (Rd.toB h).same hn.block
def DrawPN (w : World) (e : Ending) (w' : World) : Prop := ∃ (p : ProgD) (iv vv ov lv : Value), e = .returned (valP p iv vv ov lv) ∧ New w w' ∧ RdP w' p iv vv ov lv ∧ SmP p
theorem ret_pn {fn : Func} {base : Nat} {w0 w : World} {a : Act} {p : ProgD} {iv vv ov lv : Value} (hd : a.defers = []) (hD : New w0 w) (h : OwnPg w base p iv vv ov lv) (hs : SmP p) (hr : (results fn a.tmps).run Tryd.prog w = .ok (valP p iv vv ov lv) w) :
    bodyPost Tryd.prog fn (DrawPN w0) .ret a w := ⟨hd, _, hr, p, iv, vv, ov, lv, rfl, hD, h.rd, hs⟩
theorem New.set6 {a w : World} (h : New a w) {b : Nat} (hb : a.heap.size ≤ b) (u0 u1 u2 u3 u4 u5 : Value) : New a (setC6 w b u0 u1 u2 u3 u4 u5) := (((((h.setCell (p := ⟨b, 0, none⟩) hb u0).setCell (p := ⟨b, 1, none⟩) hb u1).setCell (p := ⟨b, 2, none⟩) hb u2).setCell (p := ⟨b, 3, none⟩) hb u3).setCell (p := ⟨b, 4, none⟩) hb u4).setCell (p := ⟨b, 5, none⟩) hb u5
set_option maxHeartbeats 2000000 in
theorem DrawIsSound_any (v : Value) (bs : List Int) (w : World) (hv : Rd w v bs.length (bs.map (Value.int .u8))) (hl : bs.length ≤ 4096) (hb : ∀ c ∈ bs, 0 ≤ c ∧ c ≤ 255) :
    Calls Tryd.prog 20 #[v] w (DrawPN w) := by
  have HV := Lib.hid hv
  have HB := Lib.hid hb
  clear hv hb
  go_enter Tryd.func20, Tryd.ntmps20
  go_wp2_with fail
  refine (l01From_any w.heap.size v bs _ (rdB_new HV.out (by repeat (first | with_reducible exact New.refl _ | with_reducible assumption | with_reducible refine New.drew ?_ | with_reducible refine New.drewN ?_ _ | with_reducible refine New.alloc ?_ _ | with_reducible refine New.setCell ?_ (by first | (simp; done) | (simp; omega) | omega) _ | with_reducible refine New.trans ?_ (by with_reducible assumption)))) (by first | (simp; done) | (simp; omega)) hl HB.out).mono ?_
  rintro e w1 ⟨S, rfl, hS0, n1, hs⟩
  have b1 := Dr.of_new (S := S) n1; have hS := hs.lt; replace hs := Lib.hid hs; simp only [World.size_alloc] at hS0
  have z1 := b1.size
  try simp only [World.size_alloc, World.size_drew, World.heap_drewN, World.size_setCell] at z1
  have y1 : S < w1.heap.size := by omega
  have N1 : New w w1 := ((New.refl w).alloc _).trans n1
  have KR1 := (Blk.alloc_at (w := w) (cs := #[.string ⟨#[]⟩, .slice none 0 0, .slice none 0 0, .slice none 0 0, .string ⟨#[]⟩, .slice none 0 0]) (T := 27) rfl).new n1
  clear n1 b1
  have hz1 := N1.size
  go_wp2_with fail
  refine (dr14_any S _ hs.out).mono ?_
  rintro e w2 ⟨p, iv, vv, ov, lv, rfl, b2, OP, hsm, _⟩
  have z2 := b2.size
  try simp only [World.size_alloc, World.size_drew, World.heap_drewN, World.size_setCell] at z2
  try clear c1_0 f1_0 K1_0
  try clear c1_1 f1_1 K1_1
  try clear c1_2 f1_2 K1_2
  try clear c1_3 f1_3 K1_3
  try clear c1_4 f1_4 K1_4
  try clear c1_5 f1_5 K1_5
  have y2 : S < w2.heap.size := by omega
  obtain ⟨qa, qc, rfl⟩ := own_slice OP.ins
  obtain ⟨qv, qd, rfl⟩ := own_slice OP.vars
  obtain ⟨qo, qe, rfl⟩ := own_slice OP.outs
  obtain ⟨ps, hps, OL⟩ := id OP.lines
  obtain ⟨ql, qf, rfl⟩ := own_slice OL.row
  have NE : New w w2 := Dr.new (S := S) N1 b2 (by omega)
  have KR2 := KR1.dr b2 (by omega)
  have hR2 := KR2.lt
  obtain ⟨cR, fR⟩ := KR2.rules
  go_wp2_with fail
  have DF := NE.set6 (b := w.heap.size) (Nat.le_refl _) (.string p.name) (.slice qa p.inputs.length qc) (.slice qv p.vars.length qd) (.slice qo p.outputs.length qe) (.string p.guard) (.slice ql ps.length qf)
  have OF := OwnPg.set6 (b := w.heap.size) OP (by omega) (.string p.name) (.slice qa p.inputs.length qc) (.slice qv p.vars.length qd) (.slice qo p.outputs.length qe) (.string p.guard) (.slice ql ps.length qf)
  exact ret_pn rfl DF OF hsm (by simp [results, Tryd.results20, go_sem, cR, fR, hR2])
set_option maxHeartbeats 2000000 in
theorem DrawBlocksIn_any (v : Value) (bs : List Int) (w : World) (hv : Rd w v bs.length (bs.map (Value.int .u8))) (hl : bs.length ≤ 4096) (hb : ∀ c ∈ bs, 0 ≤ c ∧ c ≤ 255) :
    Calls Tryd.prog 14 #[v] w (DrawPN w) := by
  have HV := Lib.hid hv
  have HB := Lib.hid hb
  clear hv hb
  go_enter Tryd.func14, Tryd.ntmps14
  go_wp2_with fail
  refine (l01From_any w.heap.size v bs _ (rdB_new HV.out (by repeat (first | with_reducible exact New.refl _ | with_reducible assumption | with_reducible refine New.drew ?_ | with_reducible refine New.drewN ?_ _ | with_reducible refine New.alloc ?_ _ | with_reducible refine New.setCell ?_ (by first | (simp; done) | (simp; omega) | omega) _ | with_reducible refine New.trans ?_ (by with_reducible assumption)))) (by first | (simp; done) | (simp; omega)) hl HB.out).mono ?_
  rintro e w1 ⟨S, rfl, hS0, n1, hs⟩
  have b1 := Dr.of_new (S := S) n1; have hS := hs.lt; replace hs := Lib.hid hs; simp only [World.size_alloc] at hS0
  have z1 := b1.size
  try simp only [World.size_alloc, World.size_drew, World.heap_drewN, World.size_setCell] at z1
  have y1 : S < w1.heap.size := by omega
  have N1 : New w w1 := ((New.refl w).alloc _).trans n1
  have KR1 := (Blk.alloc_at (w := w) (cs := #[.string ⟨#[]⟩, .slice none 0 0, .slice none 0 0, .slice none 0 0, .string ⟨#[]⟩, .slice none 0 0]) (T := 27) rfl).new n1
  clear n1 b1
  have hz1 := N1.size
  go_wp2_with fail
  refine (dr14_any S _ hs.out).mono ?_
  rintro e w2 ⟨p, iv, vv, ov, lv, rfl, b2, OP, hsm, _⟩
  have z2 := b2.size
  try simp only [World.size_alloc, World.size_drew, World.heap_drewN, World.size_setCell] at z2
  try clear c1_0 f1_0 K1_0
  try clear c1_1 f1_1 K1_1
  try clear c1_2 f1_2 K1_2
  try clear c1_3 f1_3 K1_3
  try clear c1_4 f1_4 K1_4
  try clear c1_5 f1_5 K1_5
  have y2 : S < w2.heap.size := by omega
  obtain ⟨qa, qc, rfl⟩ := own_slice OP.ins
  obtain ⟨qv, qd, rfl⟩ := own_slice OP.vars
  obtain ⟨qo, qe, rfl⟩ := own_slice OP.outs
  obtain ⟨ps, hps, OL⟩ := id OP.lines
  obtain ⟨ql, qf, rfl⟩ := own_slice OL.row
  have NE : New w w2 := Dr.new (S := S) N1 b2 (by omega)
  have KR2 := KR1.dr b2 (by omega)
  have hR2 := KR2.lt
  obtain ⟨cR, fR⟩ := KR2.rules
  go_wp2_with fail
  have DF := NE.set6 (b := w.heap.size) (Nat.le_refl _) (.string p.name) (.slice qa p.inputs.length qc) (.slice qv p.vars.length qd) (.slice qo p.outputs.length qe) (.string p.guard) (.slice ql ps.length qf)
  have OF := OwnPg.set6 (b := w.heap.size) OP (by omega) (.string p.name) (.slice qa p.inputs.length qc) (.slice qv p.vars.length qd) (.slice qo p.outputs.length qe) (.string p.guard) (.slice ql ps.length qf)
  exact ret_pn rfl DF OF hsm (by simp [results, Tryd.results14, go_sem, cR, fR, hR2])
set_option maxHeartbeats 2000000 in
theorem DrawProgramFault_any (v : Value) (bs : List Int) (w : World) (hv : Rd w v bs.length (bs.map (Value.int .u8))) (hl : bs.length ≤ 4096) (hb : ∀ c ∈ bs, 0 ≤ c ∧ c ≤ 255) :
    Calls Tryd.prog 21 #[v] w (DrawPN w) := by
  have HV := Lib.hid hv
  have HB := Lib.hid hb
  clear hv hb
  go_enter Tryd.func21, Tryd.ntmps21
  go_wp2_with fail
  refine (l01From_any w.heap.size v bs _ (rdB_new HV.out (by repeat (first | with_reducible exact New.refl _ | with_reducible assumption | with_reducible refine New.drew ?_ | with_reducible refine New.drewN ?_ _ | with_reducible refine New.alloc ?_ _ | with_reducible refine New.setCell ?_ (by first | (simp; done) | (simp; omega) | omega) _ | with_reducible refine New.trans ?_ (by with_reducible assumption)))) (by first | (simp; done) | (simp; omega)) hl HB.out).mono ?_
  rintro e w1 ⟨S, rfl, hS0, n1, hs⟩
  have b1 := Dr.of_new (S := S) n1; have hS := hs.lt; replace hs := Lib.hid hs; simp only [World.size_alloc] at hS0
  have z1 := b1.size
  try simp only [World.size_alloc, World.size_drew, World.heap_drewN, World.size_setCell] at z1
  have y1 : S < w1.heap.size := by omega
  have N1 : New w w1 := ((New.refl w).alloc _).trans n1
  have KR1 := (Blk.alloc_at (w := w) (cs := #[.string ⟨#[]⟩, .slice none 0 0, .slice none 0 0, .slice none 0 0, .string ⟨#[]⟩, .slice none 0 0]) (T := 27) rfl).new n1
  clear n1 b1
  have hz1 := N1.size
  go_wp2_with fail
  refine (drAny_any S _ hs.out).mono ?_
  rintro e w2 ⟨p, iv, vv, ov, lv, rfl, b2, OP, hsm, _⟩
  have z2 := b2.size
  try simp only [World.size_alloc, World.size_drew, World.heap_drewN, World.size_setCell] at z2
  try clear c1_0 f1_0 K1_0
  try clear c1_1 f1_1 K1_1
  try clear c1_2 f1_2 K1_2
  try clear c1_3 f1_3 K1_3
  try clear c1_4 f1_4 K1_4
  try clear c1_5 f1_5 K1_5
  have y2 : S < w2.heap.size := by omega
  obtain ⟨qa, qc, rfl⟩ := own_slice OP.ins
  obtain ⟨qv, qd, rfl⟩ := own_slice OP.vars
  obtain ⟨qo, qe, rfl⟩ := own_slice OP.outs
  obtain ⟨ps, hps, OL⟩ := id OP.lines
  obtain ⟨ql, qf, rfl⟩ := own_slice OL.row
  have NE : New w w2 := Dr.new (S := S) N1 b2 (by omega)
  have KR2 := KR1.dr b2 (by omega)
  have hR2 := KR2.lt
  obtain ⟨cR, fR⟩ := KR2.rules
  go_wp2_with fail
  have DF := NE.set6 (b := w.heap.size) (Nat.le_refl _) (.string p.name) (.slice qa p.inputs.length qc) (.slice qv p.vars.length qd) (.slice qo p.outputs.length qe) (.string p.guard) (.slice ql ps.length qf)
  have OF := OwnPg.set6 (b := w.heap.size) OP (by omega) (.string p.name) (.slice qa p.inputs.length qc) (.slice qv p.vars.length qd) (.slice qo p.outputs.length qe) (.string p.guard) (.slice ql ps.length qf)
  exact ret_pn rfl DF OF hsm (by simp [results, Tryd.results21, go_sem, cR, fR, hR2])
def DrawLN (w : World) (e : Ending) (w' : World) : Prop := ∃ (p : ProgD) (iv vv ov lv : Value) (s : ByteArray), e = .returned (.tuple #[valP p iv vv ov lv, .string s]) ∧ New w w' ∧ OwnPg w' w.heap.size p iv vv ov lv ∧ SmP p ∧ s.size ≤ 100
theorem ret_ln {fn : Func} {base : Nat} {w0 w : World} {a : Act} {p : ProgD} {iv vv ov lv : Value} {s : ByteArray} (hd : a.defers = []) (hD : New w0 w) (h : OwnPg w base p iv vv ov lv) (hb : w0.heap.size ≤ base) (hs : SmP p) (hn : s.size ≤ 100) (hr : (results fn a.tmps).run Tryd.prog w = .ok (.tuple #[valP p iv vv ov lv, .string s]) w) :
    bodyPost Tryd.prog fn (DrawLN w0) .ret a w := ⟨hd, _, hr, p, iv, vv, ov, lv, s, rfl, hD, h.base hb, hs, hn⟩
set_option maxHeartbeats 4000000 in
theorem drawLineOf_any (v : Value) (bs : List Int) (w : World) (hv : Rd w v bs.length (bs.map (Value.int .u8))) (hl : bs.length ≤ 4096) (hb : ∀ c ∈ bs, 0 ≤ c ∧ c ≤ 255) :
    Calls Tryd.prog 8 #[v] w (DrawLN w) := by
  have HV := Lib.hid hv
  have HB := Lib.hid hb
  clear hv hb
  go_enter Tryd.func8, Tryd.ntmps8
  go_wp2_with fail
  refine (l01From_any w.heap.size v bs _ (rdB_new HV.out (by repeat (first | with_reducible exact New.refl _ | with_reducible assumption | with_reducible refine New.drew ?_ | with_reducible refine New.drewN ?_ _ | with_reducible refine New.alloc ?_ _ | with_reducible refine New.setCell ?_ (by first | (simp; done) | (simp; omega) | omega) _ | with_reducible refine New.trans ?_ (by with_reducible assumption)))) (by first | (simp; done) | (simp; omega)) hl HB.out).mono ?_
  rintro e w1 ⟨S, rfl, hS0, n1, hs⟩
  have b1 := Dr.of_new (S := S) n1; have hS := hs.lt; replace hs := Lib.hid hs; simp only [World.size_alloc] at hS0
  have z1 := b1.size
  try simp only [World.size_alloc, World.size_drew, World.heap_drewN, World.size_setCell] at z1
  have y1 : S < w1.heap.size := by omega
  have N1 : New w w1 := ((New.refl w).alloc _).trans n1
  have KR1 := (Blk.alloc_at (w := w) (cs := #[.string ⟨#[]⟩, .slice none 0 0, .slice none 0 0, .slice none 0 0, .string ⟨#[]⟩, .slice none 0 0]) (T := 27) rfl).new n1
  clear n1 b1
  have hz1 := N1.size
  go_wp2_with fail
  refine (dr14_any S _ hs.out).mono ?_
  rintro e w2 ⟨p, iv, vv, ov, lv, rfl, b2, OP, hsm, _⟩
  have z2 := b2.size
  try simp only [World.size_alloc, World.size_drew, World.heap_drewN, World.size_setCell] at z2
  try clear c1_0 f1_0 K1_0
  try clear c1_1 f1_1 K1_1
  try clear c1_2 f1_2 K1_2
  try clear c1_3 f1_3 K1_3
  try clear c1_4 f1_4 K1_4
  try clear c1_5 f1_5 K1_5
  have y2 : S < w2.heap.size := by omega
  obtain ⟨qa, qc, rfl⟩ := own_slice OP.ins
  obtain ⟨qv, qd, rfl⟩ := own_slice OP.vars
  obtain ⟨qo, qe, rfl⟩ := own_slice OP.outs
  obtain ⟨ps, hps, OL⟩ := id OP.lines
  obtain ⟨ql, qf, rfl⟩ := own_slice OL.row
  have hz2 := b2.size
  have hR2 := KR1.lt
  go_wp2_with fail
  have DS0 := b2.alloc (.cells #[.string p.name, .slice qa p.inputs.length qc, .slice qv p.vars.length qd, .slice qo p.outputs.length qe, .string p.guard, .slice ql ps.length qf] 27)
  have OPs := OP.new ((New.refl w2).alloc (.cells #[.string p.name, .slice qa p.inputs.length qc, .slice qv p.vars.length qd, .slice qo p.outputs.length qe, .string p.guard, .slice ql ps.length qf] 27))
  have KPs := Blk.alloc_at (w := w2) (cs := #[.string p.name, .slice qa p.inputs.length qc, .slice qv p.vars.length qd, .slice qo p.outputs.length qe, .string p.guard, .slice ql ps.length qf]) (T := 27) rfl
  have KRs := (KR1.dr b2 (by omega)).alloc (.cells #[.string p.name, .slice qa p.inputs.length qc, .slice qv p.vars.length qd, .slice qo p.outputs.length qe, .string p.guard, .slice ql ps.length qf] 27)
  generalize w2.alloc (.cells #[.string p.name, .slice qa p.inputs.length qc, .slice qv p.vars.length qd, .slice qo p.outputs.length qe, .string p.guard, .slice ql ps.length qf] 27) = wS at *
  have HSR := Lib.hid (DS0.src hs.out)
  have hPl := KPs.lt
  have hSz : S < wS.heap.size := by omega
  have hS2 : S < w2.heap.size := by omega
  obtain ⟨cP, fP⟩ := KPs.rules
  replace OPs := Lib.hid OPs
  clear OL OP
  refine RD.wp_facts (S := S) [fun X _ => X = .agg #[.string p.name, .slice qa p.inputs.length qc, .slice qv p.vars.length qd, .slice qo p.outputs.length qe, .string p.guard, .slice ql ps.length qf], fun X _ => X = .pointer (some ⟨S, 0, none⟩), fun X _ => X = .agg #[.string p.name, .slice qa p.inputs.length qc, .slice qv p.vars.length qd, .slice qo p.outputs.length qe, .string p.guard, .slice ql ps.length qf], fun X W' => ∃ s : ByteArray, X = .string s ∧ s.size ≤ 100] (by kernel_rfl) (by kernel_rfl) ⟨RD.stable_eq _, RD.stable_eq _, RD.stable_eq _, fun X w0 w1 hn ⟨s13, t13, p13⟩ => ⟨s13, t13, p13⟩, trivial⟩ ?_ ?_
  · refine ⟨?_, ?_, ?_, ?_, trivial⟩
    · intro a w9 hw ho hk
      refine .inl ⟨by rfl, ?_⟩
      have t2 := ho 5 rfl
      dsimp at t2
      try with_reducible replace hw := Dr.undrawN hw
      try with_reducible replace hw := Dr.undraw hw
      obtain ⟨c, d, f', g'⟩ := hw.rules
      go_simp
      exact Dr.refl _ _
    · intro a w9 hw ho hk
      refine .inl ⟨by rfl, ?_⟩
      have t2 := ho 4 rfl
      dsimp at t2
      try with_reducible replace hw := Dr.undrawN hw
      try with_reducible replace hw := Dr.undraw hw
      obtain ⟨c, d, f', g'⟩ := hw.rules
      go_simp
      exact Dr.refl _ _
    · intro a w9 hw ho hk
      refine .inl ⟨by rfl, ?_⟩
      have t2 := ho 5 rfl
      dsimp at t2
      try with_reducible replace hw := Dr.undrawN hw
      try with_reducible replace hw := Dr.undraw hw
      obtain ⟨c, d, f', g'⟩ := hw.rules
      go_simp
      exact Dr.refl _ _
    · intro a w9 hw ho hk
      refine .inl ⟨by rfl, ?_⟩
      have t11 : a.tmps[11]?.getD undef = .pointer (some ⟨S, 0, none⟩) := hk 1 11 (by kernel_rfl) rfl
      have t12 : a.tmps[12]?.getD undef = .agg #[.string p.name, .slice qa p.inputs.length qc, .slice qv p.vars.length qd, .slice qo p.outputs.length qe, .string p.guard, .slice ql ps.length qf] := hk 2 12 (by kernel_rfl) rfl
      go_simp
      refine (drName_any S p _ _ _ _ _ _ (hw.src HSR.out) (OPs.out.dr hw (by omega)) (by omega) hsm).mono ?_; rintro e w2 ⟨s, rfl, hz, hb⟩
      first | exact ⟨hb, _, rfl, s, rfl, hz⟩ | exact ⟨hb, s, by simp, hz⟩
  intro w3 b3
  rintro _ rfl
  rintro _ rfl
  rintro _ rfl
  rintro _ ⟨s13, rfl, p13⟩
  have z3 := b3.size
  try simp only [World.size_alloc, World.size_drew, World.heap_drewN, World.size_setCell] at z3
  try clear c2_0 f2_0 K2_0
  try clear c2_1 f2_1 K2_1
  try clear c2_2 f2_2 K2_2
  try clear c2_3 f2_3 K2_3
  try clear c2_4 f2_4 K2_4
  try clear c2_5 f2_5 K2_5
  try clear c1_0 f1_0 K1_0
  try clear c1_1 f1_1 K1_1
  try clear c1_2 f1_2 K1_2
  try clear c1_3 f1_3 K1_3
  try clear c1_4 f1_4 K1_4
  try clear c1_5 f1_5 K1_5
  have y3 : S < w3.heap.size := by omega
  simp only [RD.EndAll, List.nil_append, List.cons_append, List.length_cons, List.length_nil, Nat.zero_add, Nat.reduceAdd, List.take_succ_cons, List.take_zero, List.drop_succ_cons, List.drop_zero, RD.putAll, Act.put, List.setIfInBounds_toArray, List.set_cons_succ, List.set_cons_zero]
  have NE : New w w3 := Dr.new (S := S) N1 (DS0.trans b3) (by omega)
  have KR3 := KRs.dr b3 (by omega)
  have hR3 := KR3.lt
  have OP3 := OPs.out.dr b3 (by omega)
  clear cP fP
  obtain ⟨cR, fR⟩ := KR3.rules
  go_wp2_with fail
  have DF := NE.set6 (b := w.heap.size) (Nat.le_refl _) (.string p.name) (.slice qa p.inputs.length qc) (.slice qv p.vars.length qd) (.slice qo p.outputs.length qe) (.string p.guard) (.slice ql ps.length qf)
  have OF := OwnPg.set6 (b := w.heap.size) OP3 (by omega) (.string p.name) (.slice qa p.inputs.length qc) (.slice qv p.vars.length qd) (.slice qo p.outputs.length qe) (.string p.guard) (.slice ql ps.length qf)
  exact ret_ln rfl DF OF (by omega) hsm p13 (by simp [results, Tryd.results8, go_sem, cR, fR, hR3])
set_option maxHeartbeats 1000000 in
theorem drawUsesOf_any (v : Value) (bs : List Int) (w : World) (hv : Rd w v bs.length (bs.map (Value.int .u8))) (hl : bs.length ≤ 4096) (hb : ∀ c ∈ bs, 0 ≤ c ∧ c ≤ 255) :
    Calls Tryd.prog 11 #[v] w (DrawLN w) := by
  have HV := Lib.hid hv
  have HB := Lib.hid hb
  clear hv hb
  go_enter Tryd.func11, Tryd.ntmps11
  go_wp2_with fail
  refine (drawLineOf_any v bs _ (HV.out.new (by repeat (first | with_reducible exact New.refl _ | with_reducible assumption | with_reducible refine New.drew ?_ | with_reducible refine New.drewN ?_ _ | with_reducible refine New.alloc ?_ _ | with_reducible refine New.setCell ?_ (by first | (simp; done) | (simp; omega) | omega) _ | with_reducible refine New.trans ?_ (by with_reducible assumption)))) hl HB.out).mono ?_
  rintro e w1 ⟨p, iv, vv, ov, lv, s, rfl, n1, OP, hsm, hs⟩
  have KR1 := (Blk.alloc_at (w := w) (cs := #[.string ⟨#[]⟩, .slice none 0 0, .slice none 0 0, .slice none 0 0, .string ⟨#[]⟩, .slice none 0 0]) (T := 27) rfl).new n1
  simp only [World.size_alloc] at OP
  obtain ⟨qa, qc, rfl⟩ := own_slice OP.ins
  obtain ⟨qv, qd, rfl⟩ := own_slice OP.vars
  obtain ⟨qo, qe, rfl⟩ := own_slice OP.outs
  obtain ⟨ps, hps, OL⟩ := id OP.lines
  obtain ⟨ql, qf, rfl⟩ := own_slice OL.row
  have NE : New w w1 := (by repeat (first | with_reducible exact New.refl _ | with_reducible assumption | with_reducible refine New.drew ?_ | with_reducible refine New.drewN ?_ _ | with_reducible refine New.alloc ?_ _ | with_reducible refine New.setCell ?_ (by first | (simp; done) | (simp; omega) | omega) _ | with_reducible refine New.trans ?_ (by with_reducible assumption)))
  have hR1 := KR1.lt
  obtain ⟨cR, fR⟩ := KR1.rules
  go_wp2_with fail
  have DF := NE.set6 (b := w.heap.size) (Nat.le_refl _) (.string p.name) (.slice qa p.inputs.length qc) (.slice qv p.vars.length qd) (.slice qo p.outputs.length qe) (.string p.guard) (.slice ql ps.length qf)
  have OF := OwnPg.set6 (b := w.heap.size) OP (by omega) (.string p.name) (.slice qa p.inputs.length qc) (.slice qv p.vars.length qd) (.slice qo p.outputs.length qe) (.string p.guard) (.slice ql ps.length qf)
  exact ret_ln rfl DF OF (by omega) hsm hs (by simp [results, Tryd.results11, go_sem, cR, fR, hR1])
end Go.Proofs.YteielmihlfakgaaDoor
