/- Improving a code again changes nothing, and stacks get no higher, for every code. No condition but the row's own: the table of keywords holds what the program's text lays. -/
import Derived.Test.YteielmihlfakgaaDoorRows
import Derived.Test.YteielmihlfakgaaDoorCards
import Derived.Test.YteielmihlfakgaaDoorTie
import Derived.Test.YteielmihlfakgaaDoorShape
import Derived.Test.YteielmihlfakgaaDoorUA
import Derived.Test.YteielmihlfakgaaDoorKeys
import Derived.Test.YteielmihlfakgaaDoorDrImp
import Derived.Test.YteielmihlfakgaaDoorImpC
import Derived.Test.YteielmihlfakgaaDoorUD
import Derived.Test.YteielmihlfakgaaDoorLikeC
namespace Go.Proofs.YteielmihlfakgaaDoor
open Go Go.Proofs Go.RowKit Go.ChangeShapes Go.WideShapes Go.ChangeAt
set_option linter.unusedVariables false
set_option linter.unusedSimpArgs false
set_option maxRecDepth 100000
theorem imp_facts {c : CodeD} (h : isCodeB c = true) : ∃ (X : CodeD) (H K : List Int), impR c = (X, 0) ∧ heightsC c = (H, 0) ∧ impR X = (X, 0) ∧ heightsC X = (K, 0) ∧ (∀ u ∈ K, u ∈ H) ∧ X.blocks = c.blocks ∧ X.steps.length ≤ c.steps.length := by
  obtain ⟨h1, h2⟩ := imp_code h
  refine ⟨impC c, stackOf c, stackOf (impC c), impR_1 h, by rw [heightsC, if_pos h], ?_, by rw [heightsC, if_pos h1], h2, rfl, impI_len _⟩
  rw [impR_1 h1]
  congr 1
  show ({ impC c with steps := impI (impC c).steps } : CodeD) = impC c
  have : impI (impC c).steps = (impC c).steps := impI_again c.steps
  rw [this]
set_option maxHeartbeats 4000000 in
theorem fnImproved_any (v : Value) (bs : List Int) (w : World) (hv : Rd w v bs.length (bs.map (Value.int .u8))) (hb : ∀ c ∈ bs, 0 ≤ c ∧ c ≤ 255) (hk : KW w) :
    Calls Tryd.prog 6 #[v] w fun e w' => e = .returned (.bool true) ∧ New w w' := by
  have HV := Lib.hid hv
  have HB := Lib.hid hb
  have HK := Lib.hid hk
  clear hv hb hk
  by_cases hl : (4096 : Int) < (bs.length : Int)
  · go_enter Tryd.func6, Tryd.ntmps6
    go_wp2_with fail
    refine (big_any v bs.length _ _ HV.out).mono ?_; rintro e w1 ⟨rfl, rfl⟩
    go_wp2_with fail
    go_ret
    exact ⟨rfl, New.refl _⟩
  · have hl' : bs.length ≤ 4096 := by omega
    have HL := Lib.hid hl'; clear hl'
    go_enter Tryd.func6, Tryd.ntmps6
    go_wp2_with fail
    refine (big_any v bs.length _ _ HV.out).mono ?_; rintro e w1 ⟨rfl, rfl⟩
    go_wp2_with fail
    refine (drawImproveCode_any v bs _ HV.out HL.out HB.out).mono ?_; rintro e w1 ⟨c, bv, sv, rfl, b1, RB, RS, hsm⟩
    obtain ⟨ba, bc, rfl, _⟩ := id RB; obtain ⟨sa, sc, rfl, _⟩ := id RS; replace RB := Lib.hid RB; replace RS := Lib.hid RS
    obtain ⟨c1, f1⟩ := b1.rules
    have z1 := b1.size
    try simp only [World.size_alloc, World.size_drew, World.heap_drewN, World.size_setCell] at z1
    go_wp2_with fail
    have hbl : c.blocks.length ≤ 1048576 := by have := hsm.blocksl; omega
    have HT := Lib.hid hsm.terms
    clear hsm
    have HI := Lib.hid (fun (p q : Value) (w0 : World) (h1 : RdT w0 p c.blocks) (h2 : RdN w0 q c.steps) (h3 : KW w0) => iImproveCode_any c p q w0 h1 h2 HT.out hbl h3)
    have HSI := Lib.hid (fun (p q : Value) (w0 : World) (h1 : RdT w0 p c.blocks) (h2 : RdN w0 q c.steps) => sImproveCode_any c p q w0 h1 h2 HT.out hbl)
    have HH := Lib.hid (fun (p q : Value) (w0 : World) (h1 : RdT w0 p c.blocks) (h2 : RdN w0 q c.steps) (h3 : KW w0) => iStackHeights_any c p q w0 h1 h2 HT.out h3)
    have HSH := Lib.hid (fun (p q : Value) (w0 : World) (h1 : RdT w0 p c.blocks) (h2 : RdN w0 q c.steps) => sStackHeights_any c p q w0 h1 h2 HT.out)
    rcases Bool.eq_false_or_eq_true (isCodeB c) with hc | hc
    · obtain ⟨X, H, K, e1, e2, e3, e4, hKH, hXB, hXS⟩ := imp_facts hc
      have HIX := Lib.hid (fun (p q : Value) (w0 : World) (h1 : RdT w0 p X.blocks) (h2 : RdN w0 q X.steps) (h3 : KW w0) => iImproveCode_any X p q w0 h1 h2 (by rw [hXB]; exact HT.out) (by rw [hXB]; exact hbl) h3)
      have HHX := Lib.hid (fun (p q : Value) (w0 : World) (h1 : RdT w0 p X.blocks) (h2 : RdN w0 q X.steps) (h3 : KW w0) => iStackHeights_any X p q w0 h1 h2 (by rw [hXB]; exact HT.out) h3)
      rw [e1] at HI HSI
      rw [e2] at HH HSH
      rw [e3] at HIX
      rw [e4] at HHX
      replace hKH := Lib.hid hKH
      clear e1 e2 e3 e4 hXB hXS
      refine (HI.out _ _ _ (Rd.new RB.out (by repeat (first | with_reducible exact New.refl _ | with_reducible assumption | with_reducible refine New.drew ?_ | with_reducible refine New.drewN ?_ _ | with_reducible refine New.alloc ?_ _ | with_reducible refine New.setCell ?_ (by first | (simp; done) | (simp; omega) | omega) _ | with_reducible refine New.trans ?_ (by with_reducible assumption)))) (Rd.new RS.out (by repeat (first | with_reducible exact New.refl _ | with_reducible assumption | with_reducible refine New.drew ?_ | with_reducible refine New.drewN ?_ _ | with_reducible refine New.alloc ?_ _ | with_reducible refine New.setCell ?_ (by first | (simp; done) | (simp; omega) | omega) _ | with_reducible refine New.trans ?_ (by with_reducible assumption)))) (HK.out.new (by repeat (first | with_reducible exact New.refl _ | with_reducible assumption | with_reducible refine New.drew ?_ | with_reducible refine New.drewN ?_ _ | with_reducible refine New.alloc ?_ _ | with_reducible refine New.setCell ?_ (by first | (simp; done) | (simp; omega) | omega) _ | with_reducible refine New.trans ?_ (by with_reducible assumption))))).mono ?_; rintro e w2 ⟨bx, sx, rfl, b2, ox⟩
      obtain ⟨bxa, bxc, rfl⟩ := own_slice ox.blocks; obtain ⟨sxa, sxc, rfl⟩ := own_slice ox.steps; have RBX := Lib.hid (own_rd ox.blocks); have RSX := Lib.hid (own_rd ox.steps); clear ox
      obtain ⟨c2, f2⟩ := b2.rules
      have z2 := b2.size
      try simp only [World.size_alloc, World.size_drew, World.heap_drewN, World.size_setCell] at z2
      have z2_0 : w1.heap.size < w2.heap.size := by omega
      go_wp2_with fail
      refine (HSI.out _ _ _ (Rd.new RB.out (by repeat (first | with_reducible exact New.refl _ | with_reducible assumption | with_reducible refine New.drew ?_ | with_reducible refine New.drewN ?_ _ | with_reducible refine New.alloc ?_ _ | with_reducible refine New.setCell ?_ (by first | (simp; done) | (simp; omega) | omega) _ | with_reducible refine New.trans ?_ (by with_reducible assumption)))) (Rd.new RS.out (by repeat (first | with_reducible exact New.refl _ | with_reducible assumption | with_reducible refine New.drew ?_ | with_reducible refine New.drewN ?_ _ | with_reducible refine New.alloc ?_ _ | with_reducible refine New.setCell ?_ (by first | (simp; done) | (simp; omega) | omega) _ | with_reducible refine New.trans ?_ (by with_reducible assumption))))).mono ?_; rintro e w3 ⟨by', sy, rfl, b3, RBY, RSY⟩
      obtain ⟨bya, byc, rfl, _⟩ := id RBY; obtain ⟨sya, syc, rfl, _⟩ := id RSY; replace RBY := Lib.hid RBY; replace RSY := Lib.hid RSY
      obtain ⟨c3, f3⟩ := b3.rules
      have z3 := b3.size
      try simp only [World.size_alloc, World.size_drew, World.heap_drewN, World.size_setCell] at z3
      have z3_0 : w1.heap.size < w3.heap.size := by omega
      have z3_1 : w2.heap.size < w3.heap.size := by omega
      go_wp2_with fail
      refine (HH.out _ _ _ (Rd.new RB.out (by repeat (first | with_reducible exact New.refl _ | with_reducible assumption | with_reducible refine New.drew ?_ | with_reducible refine New.drewN ?_ _ | with_reducible refine New.alloc ?_ _ | with_reducible refine New.setCell ?_ (by first | (simp; done) | (simp; omega) | omega) _ | with_reducible refine New.trans ?_ (by with_reducible assumption)))) (Rd.new RS.out (by repeat (first | with_reducible exact New.refl _ | with_reducible assumption | with_reducible refine New.drew ?_ | with_reducible refine New.drewN ?_ _ | with_reducible refine New.alloc ?_ _ | with_reducible refine New.setCell ?_ (by first | (simp; done) | (simp; omega) | omega) _ | with_reducible refine New.trans ?_ (by with_reducible assumption)))) (HK.out.new (by repeat (first | with_reducible exact New.refl _ | with_reducible assumption | with_reducible refine New.drew ?_ | with_reducible refine New.drewN ?_ _ | with_reducible refine New.alloc ?_ _ | with_reducible refine New.setCell ?_ (by first | (simp; done) | (simp; omega) | omega) _ | with_reducible refine New.trans ?_ (by with_reducible assumption))))).mono ?_; rintro e w4 ⟨v4, rfl, b4, o4⟩
      obtain ⟨a4, k4, rfl⟩ := own_slice o4; replace o4 := Lib.hid o4
      obtain ⟨c4, f4⟩ := b4.rules
      have z4 := b4.size
      try simp only [World.size_alloc, World.size_drew, World.heap_drewN, World.size_setCell] at z4
      have z4_0 : w1.heap.size < w4.heap.size := by omega
      have z4_1 : w2.heap.size < w4.heap.size := by omega
      have z4_2 : w3.heap.size < w4.heap.size := by omega
      go_wp2_with fail
      refine (HSH.out _ _ _ (Rd.new RB.out (by repeat (first | with_reducible exact New.refl _ | with_reducible assumption | with_reducible refine New.drew ?_ | with_reducible refine New.drewN ?_ _ | with_reducible refine New.alloc ?_ _ | with_reducible refine New.setCell ?_ (by first | (simp; done) | (simp; omega) | omega) _ | with_reducible refine New.trans ?_ (by with_reducible assumption)))) (Rd.new RS.out (by repeat (first | with_reducible exact New.refl _ | with_reducible assumption | with_reducible refine New.drew ?_ | with_reducible refine New.drewN ?_ _ | with_reducible refine New.alloc ?_ _ | with_reducible refine New.setCell ?_ (by first | (simp; done) | (simp; omega) | omega) _ | with_reducible refine New.trans ?_ (by with_reducible assumption))))).mono ?_; rintro e w5 ⟨v5, rfl, b5, o5⟩
      obtain ⟨a5, k5, rfl⟩ := own_slice o5; replace o5 := Lib.hid o5
      obtain ⟨c5, f5⟩ := b5.rules
      have z5 := b5.size
      try simp only [World.size_alloc, World.size_drew, World.heap_drewN, World.size_setCell] at z5
      have z5_0 : w1.heap.size < w5.heap.size := by omega
      have z5_1 : w2.heap.size < w5.heap.size := by omega
      have z5_2 : w3.heap.size < w5.heap.size := by omega
      go_wp2_with fail
      refine (likeCodes_same X _ _ _ _ _ (Rd.new RBX.out (by repeat (first | with_reducible exact New.refl _ | with_reducible assumption | with_reducible refine New.drew ?_ | with_reducible refine New.drewN ?_ _ | with_reducible refine New.alloc ?_ _ | with_reducible refine New.setCell ?_ (by first | (simp; done) | (simp; omega) | omega) _ | with_reducible refine New.trans ?_ (by with_reducible assumption)))) (Rd.new RSX.out (by repeat (first | with_reducible exact New.refl _ | with_reducible assumption | with_reducible refine New.drew ?_ | with_reducible refine New.drewN ?_ _ | with_reducible refine New.alloc ?_ _ | with_reducible refine New.setCell ?_ (by first | (simp; done) | (simp; omega) | omega) _ | with_reducible refine New.trans ?_ (by with_reducible assumption)))) (Rd.new RBY.out (by repeat (first | with_reducible exact New.refl _ | with_reducible assumption | with_reducible refine New.drew ?_ | with_reducible refine New.drewN ?_ _ | with_reducible refine New.alloc ?_ _ | with_reducible refine New.setCell ?_ (by first | (simp; done) | (simp; omega) | omega) _ | with_reducible refine New.trans ?_ (by with_reducible assumption)))) (Rd.new RSY.out (by repeat (first | with_reducible exact New.refl _ | with_reducible assumption | with_reducible refine New.drew ?_ | with_reducible refine New.drewN ?_ _ | with_reducible refine New.alloc ?_ _ | with_reducible refine New.setCell ?_ (by first | (simp; done) | (simp; omega) | omega) _ | with_reducible refine New.trans ?_ (by with_reducible assumption))))).mono ?_; rintro e w6 ⟨rfl, b6⟩
      try with_reducible replace b6 := New.undrawN b6
      try with_reducible replace b6 := New.undraw b6
      obtain ⟨c6, f6⟩ := b6.rules
      have z6 := b6.size
      try simp only [World.size_alloc, World.size_drew, World.heap_drewN, World.size_setCell] at z6
      have z6_0 : w1.heap.size < w6.heap.size := by omega
      have z6_1 : w2.heap.size < w6.heap.size := by omega
      have z6_2 : w3.heap.size < w6.heap.size := by omega
      go_wp2_with fail
      refine (likeInts_same _ _ H _ (RdI.new (own_rd o4.out) (by repeat (first | with_reducible exact New.refl _ | with_reducible assumption | with_reducible refine New.drew ?_ | with_reducible refine New.drewN ?_ _ | with_reducible refine New.alloc ?_ _ | with_reducible refine New.setCell ?_ (by first | (simp; done) | (simp; omega) | omega) _ | with_reducible refine New.trans ?_ (by with_reducible assumption)))) (RdI.new (own_rd o5.out) (by repeat (first | with_reducible exact New.refl _ | with_reducible assumption | with_reducible refine New.drew ?_ | with_reducible refine New.drewN ?_ _ | with_reducible refine New.alloc ?_ _ | with_reducible refine New.setCell ?_ (by first | (simp; done) | (simp; omega) | omega) _ | with_reducible refine New.trans ?_ (by with_reducible assumption))))).mono ?_; rintro e w7 ⟨rfl, b7⟩
      try with_reducible replace b7 := New.undrawN b7
      try with_reducible replace b7 := New.undraw b7
      obtain ⟨c7, f7⟩ := b7.rules
      have z7 := b7.size
      try simp only [World.size_alloc, World.size_drew, World.heap_drewN, World.size_setCell] at z7
      have z7_0 : w1.heap.size < w7.heap.size := by omega
      have z7_1 : w2.heap.size < w7.heap.size := by omega
      have z7_2 : w3.heap.size < w7.heap.size := by omega
      go_wp2_with fail
      refine (HIX.out _ _ _ (Rd.new RBX.out (by repeat (first | with_reducible exact New.refl _ | with_reducible assumption | with_reducible refine New.drew ?_ | with_reducible refine New.drewN ?_ _ | with_reducible refine New.alloc ?_ _ | with_reducible refine New.setCell ?_ (by first | (simp; done) | (simp; omega) | omega) _ | with_reducible refine New.trans ?_ (by with_reducible assumption)))) (Rd.new RSX.out (by repeat (first | with_reducible exact New.refl _ | with_reducible assumption | with_reducible refine New.drew ?_ | with_reducible refine New.drewN ?_ _ | with_reducible refine New.alloc ?_ _ | with_reducible refine New.setCell ?_ (by first | (simp; done) | (simp; omega) | omega) _ | with_reducible refine New.trans ?_ (by with_reducible assumption)))) (HK.out.new (by repeat (first | with_reducible exact New.refl _ | with_reducible assumption | with_reducible refine New.drew ?_ | with_reducible refine New.drewN ?_ _ | with_reducible refine New.alloc ?_ _ | with_reducible refine New.setCell ?_ (by first | (simp; done) | (simp; omega) | omega) _ | with_reducible refine New.trans ?_ (by with_reducible assumption))))).mono ?_; rintro e w8 ⟨bz, sz, rfl, b8, oz⟩
      obtain ⟨bza, bzc, rfl⟩ := own_slice oz.blocks; obtain ⟨sza, szc, rfl⟩ := own_slice oz.steps; have RBZ := Lib.hid (own_rd oz.blocks); have RSZ := Lib.hid (own_rd oz.steps); clear oz
      obtain ⟨c8, f8⟩ := b8.rules
      have z8 := b8.size
      try simp only [World.size_alloc, World.size_drew, World.heap_drewN, World.size_setCell] at z8
      have z8_0 : w1.heap.size < w8.heap.size := by omega
      have z8_1 : w2.heap.size < w8.heap.size := by omega
      have z8_2 : w3.heap.size < w8.heap.size := by omega
      go_wp2_with fail
      refine (HHX.out _ _ _ (Rd.new RBX.out (by repeat (first | with_reducible exact New.refl _ | with_reducible assumption | with_reducible refine New.drew ?_ | with_reducible refine New.drewN ?_ _ | with_reducible refine New.alloc ?_ _ | with_reducible refine New.setCell ?_ (by first | (simp; done) | (simp; omega) | omega) _ | with_reducible refine New.trans ?_ (by with_reducible assumption)))) (Rd.new RSX.out (by repeat (first | with_reducible exact New.refl _ | with_reducible assumption | with_reducible refine New.drew ?_ | with_reducible refine New.drewN ?_ _ | with_reducible refine New.alloc ?_ _ | with_reducible refine New.setCell ?_ (by first | (simp; done) | (simp; omega) | omega) _ | with_reducible refine New.trans ?_ (by with_reducible assumption)))) (HK.out.new (by repeat (first | with_reducible exact New.refl _ | with_reducible assumption | with_reducible refine New.drew ?_ | with_reducible refine New.drewN ?_ _ | with_reducible refine New.alloc ?_ _ | with_reducible refine New.setCell ?_ (by first | (simp; done) | (simp; omega) | omega) _ | with_reducible refine New.trans ?_ (by with_reducible assumption))))).mono ?_; rintro e w9 ⟨v9, rfl, b9, o9⟩
      obtain ⟨a9, k9, rfl⟩ := own_slice o9; replace o9 := Lib.hid o9
      obtain ⟨c9, f9⟩ := b9.rules
      have z9 := b9.size
      try simp only [World.size_alloc, World.size_drew, World.heap_drewN, World.size_setCell] at z9
      have z9_0 : w1.heap.size < w9.heap.size := by omega
      have z9_1 : w2.heap.size < w9.heap.size := by omega
      have z9_2 : w3.heap.size < w9.heap.size := by omega
      have z9_3 : w8.heap.size < w9.heap.size := by omega
      go_wp2_with fail
      have KX9 := (((((((Blk.alloc_at (w := w2) (cs := #[.int .i64 X.ins, .int .i64 X.vars, .int .i64 X.outs, .slice bxa X.blocks.length bxc, .slice sxa X.steps.length sxc]) (T := 59) rfl).new b3).alloc (.cells #[.int .i64 X.ins, .int .i64 X.vars, .int .i64 X.outs, .slice bya X.blocks.length byc, .slice sya X.steps.length syc] 59)).new b4).new b5).new b6).new b7).new b8
      have KX := (KX9.alloc (.cells #[.int .i64 X.ins, .int .i64 X.vars, .int .i64 X.outs, .slice bza X.blocks.length bzc, .slice sza X.steps.length szc] 59)).new b9
      have KZ := (Blk.alloc_at (w := w8) (cs := #[.int .i64 X.ins, .int .i64 X.vars, .int .i64 X.outs, .slice bza X.blocks.length bzc, .slice sza X.steps.length szc]) (T := 59) rfl).new b9
      have RH := Lib.hid (show RdI w9 (.slice a4 H.length k4) H from RdI.new (own_rd o4.out) (by repeat (first | with_reducible exact New.refl _ | with_reducible assumption | with_reducible refine New.drew ?_ | with_reducible refine New.drewN ?_ _ | with_reducible refine New.alloc ?_ _ | with_reducible refine New.setCell ?_ (by first | (simp; done) | (simp; omega) | omega) _ | with_reducible refine New.trans ?_ (by with_reducible assumption))))
      have RK : RdI w9 (.slice a9 K.length k9) K := own_rd o9.out
      have SBX := Lib.hid (show RdT w9 (.slice bxa X.blocks.length bxc) X.blocks from Rd.new RBX.out (by repeat (first | with_reducible exact New.refl _ | with_reducible assumption | with_reducible refine New.drew ?_ | with_reducible refine New.drewN ?_ _ | with_reducible refine New.alloc ?_ _ | with_reducible refine New.setCell ?_ (by first | (simp; done) | (simp; omega) | omega) _ | with_reducible refine New.trans ?_ (by with_reducible assumption))))
      have SSX := Lib.hid (show RdN w9 (.slice sxa X.steps.length sxc) X.steps from Rd.new RSX.out (by repeat (first | with_reducible exact New.refl _ | with_reducible assumption | with_reducible refine New.drew ?_ | with_reducible refine New.drewN ?_ _ | with_reducible refine New.alloc ?_ _ | with_reducible refine New.setCell ?_ (by first | (simp; done) | (simp; omega) | omega) _ | with_reducible refine New.trans ?_ (by with_reducible assumption))))
      have SBZ := Lib.hid (show RdT w9 (.slice bza X.blocks.length bzc) X.blocks from Rd.new RBZ.out (by repeat (first | with_reducible exact New.refl _ | with_reducible assumption | with_reducible refine New.drew ?_ | with_reducible refine New.drewN ?_ _ | with_reducible refine New.alloc ?_ _ | with_reducible refine New.setCell ?_ (by first | (simp; done) | (simp; omega) | omega) _ | with_reducible refine New.trans ?_ (by with_reducible assumption))))
      have SSZ := Lib.hid (show RdN w9 (.slice sza X.steps.length szc) X.steps from Rd.new RSZ.out (by repeat (first | with_reducible exact New.refl _ | with_reducible assumption | with_reducible refine New.drew ?_ | with_reducible refine New.drewN ?_ _ | with_reducible refine New.alloc ?_ _ | with_reducible refine New.setCell ?_ (by first | (simp; done) | (simp; omega) | omega) _ | with_reducible refine New.trans ?_ (by with_reducible assumption))))
      have N9 : New w w9 := (by repeat (first | with_reducible exact New.refl _ | with_reducible assumption | with_reducible refine New.drew ?_ | with_reducible refine New.drewN ?_ _ | with_reducible refine New.alloc ?_ _ | with_reducible refine New.setCell ?_ (by first | (simp; done) | (simp; omega) | omega) _ | with_reducible refine New.trans ?_ (by with_reducible assumption)))
      clear b1 b2 b3 b4 b5 b6 b7 b8 b9 c1 c2 c3 c4 c5 c6 c7 c8 c9 f1 f2 f3 f4 f5 f6 f7 f8 f9 KX9
      obtain ⟨_, _, ⟨⟩, hmH, HCH⟩ := RdI.open RH.out
      obtain ⟨_, _, ⟨⟩, hmK, HCK⟩ := RdI.open RK
      clear RK
      go_loopw [16, 18] (fun m i wr => ∃ (k : Nat) (q : Int), k ≤ H.length ∧ i = .int .i64 k ∧ m = .int .i64 q ∧ 0 ≤ q ∧ Hid (∀ x ∈ H.take k, x ≤ q) ∧ New w9 wr) (fun _ i _ => H.length - (intOf i).toNat)
      case atStart => exact ⟨0, 0, Nat.zero_le _, rfl, rfl, by omega, Lib.hid (fun x hx => by simp at hx), New.refl _⟩
      case round =>
        obtain ⟨k, q, hk, rfl, rfl, hq, hqm, hN⟩ := hrel
        by_cases hlt : k < H.length
        · obtain ⟨b, o, rfl, hbl, hx⟩ := HCH.out wr hN k hlt
          have hqn := Lib.hid (fun (m : Int) (h1 : q ≤ m) (h2 : H[k] ≤ m) (x : Int) (hx : x ∈ H.take (k + 1)) => show x ≤ m by
            rw [List.take_succ_eq_append_getElem hlt] at hx
            rcases List.mem_append.1 hx with h | h
            · have := hqm.out x h; omega
            · obtain rfl := List.mem_singleton.1 h; exact h2)
          generalize H[k] = x at hx hqn
          go_wp2_with fail
          go_roundw
          case rel => exact ⟨k + 1, max q x, by omega, by go_num, by go_num, by omega, Lib.hid (hqn.out _ (by omega) (by omega)), hN⟩
          case measure => simp [intOf]; omega
        · obtain rfl : k = H.length := by omega
          have hall : Hid (∀ u ∈ K, u ≤ q) := Lib.hid (fun u hu => hqm.out u (by rw [List.take_length]; exact hKH.out u hu))
          clear hqm
          go_wp2_with fail
          obtain ⟨wo, hwo⟩ : ∃ wo : World, wo = wr := ⟨_, rfl⟩
          go_loopw [17, 19] (fun m i ws => ∃ (k : Nat) (p : Int), k ≤ K.length ∧ i = .int .i64 k ∧ m = .int .i64 p ∧ p ≤ q ∧ New w9 ws) (fun _ i _ => K.length - (intOf i).toNat)
          case atStart => exact ⟨0, 0, Nat.zero_le _, rfl, rfl, hq, hN⟩
          case round =>
            rename World => ws
            obtain ⟨k, p, hk2, rfl, rfl, hp, hM⟩ := hrel
            by_cases hlt2 : k < K.length
            · obtain ⟨b, o, rfl, hbl, hx⟩ := HCK.out ws hM k hlt2
              have hxq := hall.out K[k] (List.getElem_mem hlt2)
              generalize K[k] = x at hx hxq
              go_wp2_with fail
              go_roundw
              case rel => exact ⟨k + 1, max p x, by omega, by go_num, by go_num, by omega, hM⟩
              case measure => simp [intOf]; omega
            · obtain rfl : k = K.length := by omega
              have KX2 := KX.new hM
              have KZ2 := KZ.new hM
              have hX2 := KX2.lt
              have hZ2 := KZ2.lt
              obtain ⟨cX, fX⟩ := KX2.rules
              obtain ⟨cZ, fZ⟩ := KZ2.rules
              have hle : decide (p ≤ q) = true := by simpa using hp
              go_wp2_with fail
              refine (likeCodes_same X _ _ _ _ _ (Rd.new SBZ.out hM) (Rd.new SSZ.out hM) (Rd.new SBX.out hM) (Rd.new SSX.out hM)).mono ?_
              rintro e wf ⟨rfl, bf⟩
              go_wp2_with fail
              go_ret
              exact ⟨rfl, (by repeat (first | with_reducible exact New.refl _ | with_reducible assumption | with_reducible refine New.drew ?_ | with_reducible refine New.drewN ?_ _ | with_reducible refine New.alloc ?_ _ | with_reducible refine New.setCell ?_ (by first | (simp; done) | (simp; omega) | omega) _ | with_reducible refine New.trans ?_ (by with_reducible assumption)))⟩
    · rw [impR_0 hc] at HI HSI
      have e2 : heightsC c = ([], 1) := by rw [heightsC, if_neg (by rw [hc]; simp)]
      rw [e2] at HH HSH
      refine (HI.out _ _ _ (Rd.new RB.out (by repeat (first | with_reducible exact New.refl _ | with_reducible assumption | with_reducible refine New.drew ?_ | with_reducible refine New.drewN ?_ _ | with_reducible refine New.alloc ?_ _ | with_reducible refine New.setCell ?_ (by first | (simp; done) | (simp; omega) | omega) _ | with_reducible refine New.trans ?_ (by with_reducible assumption)))) (Rd.new RS.out (by repeat (first | with_reducible exact New.refl _ | with_reducible assumption | with_reducible refine New.drew ?_ | with_reducible refine New.drewN ?_ _ | with_reducible refine New.alloc ?_ _ | with_reducible refine New.setCell ?_ (by first | (simp; done) | (simp; omega) | omega) _ | with_reducible refine New.trans ?_ (by with_reducible assumption)))) (HK.out.new (by repeat (first | with_reducible exact New.refl _ | with_reducible assumption | with_reducible refine New.drew ?_ | with_reducible refine New.drewN ?_ _ | with_reducible refine New.alloc ?_ _ | with_reducible refine New.setCell ?_ (by first | (simp; done) | (simp; omega) | omega) _ | with_reducible refine New.trans ?_ (by with_reducible assumption))))).mono ?_; rintro e w2 ⟨bx, sx, rfl, b2, ox⟩
      obtain ⟨bxa, bxc, rfl⟩ := own_slice ox.blocks; obtain ⟨sxa, sxc, rfl⟩ := own_slice ox.steps; have RBX := Lib.hid (own_rd ox.blocks); have RSX := Lib.hid (own_rd ox.steps); clear ox
      obtain ⟨c2, f2⟩ := b2.rules
      have z2 := b2.size
      try simp only [World.size_alloc, World.size_drew, World.heap_drewN, World.size_setCell] at z2
      have z2_0 : w1.heap.size < w2.heap.size := by omega
      go_wp2_with fail
      refine (HSI.out _ _ _ (Rd.new RB.out (by repeat (first | with_reducible exact New.refl _ | with_reducible assumption | with_reducible refine New.drew ?_ | with_reducible refine New.drewN ?_ _ | with_reducible refine New.alloc ?_ _ | with_reducible refine New.setCell ?_ (by first | (simp; done) | (simp; omega) | omega) _ | with_reducible refine New.trans ?_ (by with_reducible assumption)))) (Rd.new RS.out (by repeat (first | with_reducible exact New.refl _ | with_reducible assumption | with_reducible refine New.drew ?_ | with_reducible refine New.drewN ?_ _ | with_reducible refine New.alloc ?_ _ | with_reducible refine New.setCell ?_ (by first | (simp; done) | (simp; omega) | omega) _ | with_reducible refine New.trans ?_ (by with_reducible assumption))))).mono ?_; rintro e w3 ⟨by', sy, rfl, b3, RBY, RSY⟩
      obtain ⟨bya, byc, rfl, _⟩ := id RBY; obtain ⟨sya, syc, rfl, _⟩ := id RSY; replace RBY := Lib.hid RBY; replace RSY := Lib.hid RSY
      obtain ⟨c3, f3⟩ := b3.rules
      have z3 := b3.size
      try simp only [World.size_alloc, World.size_drew, World.heap_drewN, World.size_setCell] at z3
      have z3_0 : w1.heap.size < w3.heap.size := by omega
      have z3_1 : w2.heap.size < w3.heap.size := by omega
      go_wp2_with fail
      refine (HH.out _ _ _ (Rd.new RB.out (by repeat (first | with_reducible exact New.refl _ | with_reducible assumption | with_reducible refine New.drew ?_ | with_reducible refine New.drewN ?_ _ | with_reducible refine New.alloc ?_ _ | with_reducible refine New.setCell ?_ (by first | (simp; done) | (simp; omega) | omega) _ | with_reducible refine New.trans ?_ (by with_reducible assumption)))) (Rd.new RS.out (by repeat (first | with_reducible exact New.refl _ | with_reducible assumption | with_reducible refine New.drew ?_ | with_reducible refine New.drewN ?_ _ | with_reducible refine New.alloc ?_ _ | with_reducible refine New.setCell ?_ (by first | (simp; done) | (simp; omega) | omega) _ | with_reducible refine New.trans ?_ (by with_reducible assumption)))) (HK.out.new (by repeat (first | with_reducible exact New.refl _ | with_reducible assumption | with_reducible refine New.drew ?_ | with_reducible refine New.drewN ?_ _ | with_reducible refine New.alloc ?_ _ | with_reducible refine New.setCell ?_ (by first | (simp; done) | (simp; omega) | omega) _ | with_reducible refine New.trans ?_ (by with_reducible assumption))))).mono ?_; rintro e w4 ⟨v4, rfl, b4, o4⟩
      obtain ⟨a4, k4, rfl⟩ := own_slice o4; replace o4 := Lib.hid o4
      obtain ⟨c4, f4⟩ := b4.rules
      have z4 := b4.size
      try simp only [World.size_alloc, World.size_drew, World.heap_drewN, World.size_setCell] at z4
      have z4_0 : w1.heap.size < w4.heap.size := by omega
      have z4_1 : w2.heap.size < w4.heap.size := by omega
      have z4_2 : w3.heap.size < w4.heap.size := by omega
      go_wp2_with fail
      refine (HSH.out _ _ _ (Rd.new RB.out (by repeat (first | with_reducible exact New.refl _ | with_reducible assumption | with_reducible refine New.drew ?_ | with_reducible refine New.drewN ?_ _ | with_reducible refine New.alloc ?_ _ | with_reducible refine New.setCell ?_ (by first | (simp; done) | (simp; omega) | omega) _ | with_reducible refine New.trans ?_ (by with_reducible assumption)))) (Rd.new RS.out (by repeat (first | with_reducible exact New.refl _ | with_reducible assumption | with_reducible refine New.drew ?_ | with_reducible refine New.drewN ?_ _ | with_reducible refine New.alloc ?_ _ | with_reducible refine New.setCell ?_ (by first | (simp; done) | (simp; omega) | omega) _ | with_reducible refine New.trans ?_ (by with_reducible assumption))))).mono ?_; rintro e w5 ⟨v5, rfl, b5, o5⟩
      obtain ⟨a5, k5, rfl⟩ := own_slice o5; replace o5 := Lib.hid o5
      obtain ⟨c5, f5⟩ := b5.rules
      have z5 := b5.size
      try simp only [World.size_alloc, World.size_drew, World.heap_drewN, World.size_setCell] at z5
      have z5_0 : w1.heap.size < w5.heap.size := by omega
      have z5_1 : w2.heap.size < w5.heap.size := by omega
      have z5_2 : w3.heap.size < w5.heap.size := by omega
      go_wp2_with fail
      refine (likeCodes_same noC _ _ _ _ _ (Rd.new RBX.out (by repeat (first | with_reducible exact New.refl _ | with_reducible assumption | with_reducible refine New.drew ?_ | with_reducible refine New.drewN ?_ _ | with_reducible refine New.alloc ?_ _ | with_reducible refine New.setCell ?_ (by first | (simp; done) | (simp; omega) | omega) _ | with_reducible refine New.trans ?_ (by with_reducible assumption)))) (Rd.new RSX.out (by repeat (first | with_reducible exact New.refl _ | with_reducible assumption | with_reducible refine New.drew ?_ | with_reducible refine New.drewN ?_ _ | with_reducible refine New.alloc ?_ _ | with_reducible refine New.setCell ?_ (by first | (simp; done) | (simp; omega) | omega) _ | with_reducible refine New.trans ?_ (by with_reducible assumption)))) (Rd.new RBY.out (by repeat (first | with_reducible exact New.refl _ | with_reducible assumption | with_reducible refine New.drew ?_ | with_reducible refine New.drewN ?_ _ | with_reducible refine New.alloc ?_ _ | with_reducible refine New.setCell ?_ (by first | (simp; done) | (simp; omega) | omega) _ | with_reducible refine New.trans ?_ (by with_reducible assumption)))) (Rd.new RSY.out (by repeat (first | with_reducible exact New.refl _ | with_reducible assumption | with_reducible refine New.drew ?_ | with_reducible refine New.drewN ?_ _ | with_reducible refine New.alloc ?_ _ | with_reducible refine New.setCell ?_ (by first | (simp; done) | (simp; omega) | omega) _ | with_reducible refine New.trans ?_ (by with_reducible assumption))))).mono ?_; rintro e w6 ⟨rfl, b6⟩
      try with_reducible replace b6 := New.undrawN b6
      try with_reducible replace b6 := New.undraw b6
      obtain ⟨c6, f6⟩ := b6.rules
      have z6 := b6.size
      try simp only [World.size_alloc, World.size_drew, World.heap_drewN, World.size_setCell] at z6
      have z6_0 : w1.heap.size < w6.heap.size := by omega
      have z6_1 : w2.heap.size < w6.heap.size := by omega
      have z6_2 : w3.heap.size < w6.heap.size := by omega
      go_wp2_with fail
      refine (likeInts_same _ _ [] _ (RdI.new (own_rd o4.out) (by repeat (first | with_reducible exact New.refl _ | with_reducible assumption | with_reducible refine New.drew ?_ | with_reducible refine New.drewN ?_ _ | with_reducible refine New.alloc ?_ _ | with_reducible refine New.setCell ?_ (by first | (simp; done) | (simp; omega) | omega) _ | with_reducible refine New.trans ?_ (by with_reducible assumption)))) (RdI.new (own_rd o5.out) (by repeat (first | with_reducible exact New.refl _ | with_reducible assumption | with_reducible refine New.drew ?_ | with_reducible refine New.drewN ?_ _ | with_reducible refine New.alloc ?_ _ | with_reducible refine New.setCell ?_ (by first | (simp; done) | (simp; omega) | omega) _ | with_reducible refine New.trans ?_ (by with_reducible assumption))))).mono ?_; rintro e w7 ⟨rfl, b7⟩
      try with_reducible replace b7 := New.undrawN b7
      try with_reducible replace b7 := New.undraw b7
      obtain ⟨c7, f7⟩ := b7.rules
      have z7 := b7.size
      try simp only [World.size_alloc, World.size_drew, World.heap_drewN, World.size_setCell] at z7
      have z7_0 : w1.heap.size < w7.heap.size := by omega
      have z7_1 : w2.heap.size < w7.heap.size := by omega
      have z7_2 : w3.heap.size < w7.heap.size := by omega
      go_wp2_with fail
      go_ret
      exact ⟨rfl, (by repeat (first | with_reducible exact New.refl _ | with_reducible assumption | with_reducible refine New.drew ?_ | with_reducible refine New.drewN ?_ _ | with_reducible refine New.alloc ?_ _ | with_reducible refine New.setCell ?_ (by first | (simp; done) | (simp; omega) | omega) _ | with_reducible refine New.trans ?_ (by with_reducible assumption)))⟩
namespace fnImproved
theorem own : ownKnob Tryd.prog.godebug = none := by kernel_rfl
theorem reads : (Tryd.f6.params.toList.all fun t => Tryd.prog.readableRec t && decide (t < Tryd.prog.types.size)) = true := by kernel_rfl
set_option maxRecDepth 100000 in
noncomputable def laidWorld (os : Os) : World :=
  { World.holding Tryd.prog os ⟨#[], #[], []⟩ with heap := (World.holding Tryd.prog os ⟨#[], #[], []⟩).heap.modify 0 fun
      | .cells _ t frozen => .cells (keyData.map fun z => Value.string (kw z)).toArray t frozen
      | o => o }
theorem laid_met (os : Os) : laidMet Tryd.prog Rows.fnImprovedRow.laid ((laidWorld os).forCall (fun _ _ => 0) ⟨#[], #[.slice none 0 0], []⟩).memory :=
  laidMet_of_run' 8 (by kernel_rfl) (by kernel_rfl)
theorem reading (os : Os) {H : Type} (enc : TypeId × Value → H) : ∃ x, DataW.whole enc Tryd.prog ((laidWorld os).forCall (fun _ _ => 0) ⟨#[], #[.slice none 0 0], []⟩).memory Tryd.f6.params.toList Rows.fnImprovedSpec.vars false (#[.slice none 0 0] : Array Value).toList 8 = some x :=
  Option.isSome_iff_exists.1 (by kernel_rfl)
theorem lifted (os : Os) (started : os.Started) (H : Type) (enc : TypeId × Value → H) (F : Stop.Interp) :
    ReturnsInHanded {} Tryd.checked os 6 .any ((OpenSpec.ofChange Rows.fnImprovedSpec).preRow enc Tryd.prog Tryd.f6 Rows.fnImprovedRow.domain false Rows.fnImprovedRow.laid) (((OpenSpec.ofChange Rows.fnImprovedSpec).at F).post enc Tryd.prog Tryd.f6 false true false false) := by
  obtain ⟨x, hx⟩ := reading os enc
  refine returnsInHanded_of_row (C := Tryd.checked) (s := OpenSpec.ofChange Rows.fnImprovedSpec) own started (by kernel_rfl) Tryd.func6
    (witness_row_at (enc := enc) (C := Tryd.checked) false (laidWorld os) #[.slice none 0 0] rfl (by kernel_rfl) (by kernel_rfl) (by kernel_rfl)
      (OpenSpec.preRow_of_cond 8 hx (by first | rfl | kernel_rfl) (fun k hk => by cases hk) (by kernel_rfl) (laid_met os))) ?_
  intro W base args ds gs before hval0 hW _ _ _ hL _ _
  have hkw : KW W := keys_of_laid hL
  have hval : ∀ (j : Nat) t v, Tryd.f6.params[j]? = some t → args[j]? = some v → Value.okWide Tryd.prog W .any base t v := hval0
  have hW' := hW
  obtain ⟨p, q, hA0, hV, rfl, hfz, hnd⟩ := hW
  have hA : DataW.TrodAll enc Tryd.prog W 0 (fun _ => true) true Tryd.f6.params.toList args.toList ds p := hA0
  rw [Tryd.params6] at hA hval
  obtain ⟨v0, vs0, d0, ds0, p0, q0, hargs, rfl, rfl, h0, r0⟩ := trodAll_cons hA
  obtain ⟨rfl, rfl, rfl⟩ := trodAll_nil r0
  obtain rfl : args = #[v0] := by cases args; simp_all
  have o0 := hval 0 22 v0 rfl rfl
  clear hA0 hval hval0
  obtain ⟨_, _, _, _, gd, _, rfl, _, _, _, _, rfl⟩ := trodVars_one hV
  have walk : Calls Tryd.prog 6 #[v0] W fun e w' => e = .returned (.bool true) ∧ New W w' := by
    obtain ⟨bs, hbs, hbb⟩ := openCode h0 o0
    exact fnImproved_any _ bs W hbs hbb hkw
  refine walk.mono fun e W' ⟨he, hg⟩ => ?_
  subst he
  exact ⟨_, rfl, law_post laidOut (fun t ht => reads_of reads t ht) (fun n hn g t hg ht => by
    obtain rfl : n = "loop.example/g00916/impl.keywords" := List.mem_singleton.1 hn
    obtain rfl : 0 = g := Option.some.inj ((show Tryd.prog.globalNamed "loop.example/g00916/impl.keywords" = some 0 by kernel_rfl).symm.trans hg)
    obtain rfl : 164 = t := Option.some.inj ((show (Tryd.prog.globals[0]?).map (·.type) = some 164 by kernel_rfl).symm.trans ht)
    exact ⟨by kernel_rfl, of_decide_eq_true (by kernel_rfl)⟩) rfl Tryd.underlying4 hW' rfl hg⟩
theorem said : Rows.FnImprovedSaid :=
  OpenClaim.holds_of_cond 6 Tryd.f6 rfl rfl rfl rfl rfl rfl rfl ⟨rfl, rfl, rfl, rfl, rfl⟩ rfl rfl rfl rfl rfl (by kernel_rfl) Tryd.func6 (by kernel_rfl)
    (of_decide_eq_true (by kernel_rfl)) (by unfold Func.isWrapper; first | (rw [if_pos (by decide +kernel)]; kernel_rfl) | (rw [if_neg (by decide +kernel)]; exact ⟨rfl, rfl⟩))
    (fun os started H enc _ F => by rw [OpenClaim.pre_eq_preRow]; exact lifted os started H enc F)
theorem plain (f : FuncId) (fn : Func) (hf : Tryd.pinned.checked.prog.funcNamed "loop.example/g00916/laws.FnImproved" = some f) (hfn : Tryd.pinned.checked.prog.funcs[f]? = some fn) :
    false = Tryd.pinned.checked.prog.looks [] ∧ ∀ (j : Nat) t, fn.params[j]? = some t → Tryd.pinned.checked.prog.wantsStandIn t = false := by
  obtain rfl : f = 6 := Option.some.inj ((show Tryd.prog.funcNamed "loop.example/g00916/laws.FnImproved" = some 6 by kernel_rfl).symm.trans hf) |>.symm
  obtain rfl : fn = Tryd.f6 := (Option.some.inj (Tryd.func6.symm.trans hfn)).symm
  refine ⟨by kernel_rfl, fun j t ht => ?_⟩
  rw [Tryd.params6] at ht
  have hm : t ∈ ([22] : List TypeId) := by simpa using Array.mem_of_getElem? ht
  have all : (([22] : List TypeId).all fun t => !Tryd.prog.wantsStandIn t) = true := by kernel_rfl
  have := List.all_eq_true.1 all t hm
  show Tryd.prog.wantsStandIn t = false
  exact (Bool.not_eq_true _).mp (fun h => by rw [h] at this; cases this)
theorem card : Rows.FnImprovedCardSaid :=
  Claim7.holds_tied_plain_at .later [] _ _ _ _ said (fun _ h => by cases h) (by kernel_rfl) (fun _ h => by cases h) fnImproved_row_tie rfl ⟨rfl, rfl⟩ (by kernel_rfl) rfl plain (by kernel_rfl)
#print axioms card
end fnImproved
end Go.Proofs.YteielmihlfakgaaDoor
