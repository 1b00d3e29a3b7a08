/- Contracts: the program's RenameIn. -/
import Derived.Test.YtadoocadohdfcaaDoorProg
import Derived.Test.YtadoocadohdfcaaDoorRenI
import Derived.Test.YtadoocadohdfcaaDoorSound3
namespace Go.Proofs.YtadoocadohdfcaaDoor
open Go Go.Proofs Go.RowKit
set_option linter.unusedVariables false
set_option linter.unusedSimpArgs false
set_option maxRecDepth 100000
def RetRQ (w : World) (R : ProgD × Int) (e : Ending) (w' : World) : Prop := ∃ i v o l, e = .returned (.tuple #[valP R.1 i v o l, .int .i64 R.2]) ∧ New w w' ∧ ParP w' w.heap.size R.1 i v o l
theorem parP_nil {w : World} {B : Nat} : ParP w B noP (.slice none 0 0) (.slice none 0 0) (.slice none 0 0) (.slice none 0 0) :=
  ⟨⟨⟨rfl, .inl ⟨rfl, rfl⟩⟩, ⟨rfl, .inl ⟨rfl, rfl⟩⟩, ⟨rfl, .inl ⟨rfl, rfl⟩⟩⟩, [], rfl, ⟨rfl, .inl ⟨rfl, rfl⟩⟩, (fun i h => by simp at h), (fun i j h => by simp at h)⟩
theorem retRQ_no {fn : Func} {w0 w : World} {a : Act} {c : Int} (hd : a.defers = []) (hn : New w0 w) (hr : (results fn a.tmps).run Tryd.prog w = .ok (.tuple #[.agg #[.string ⟨#[]⟩, .slice none 0 0, .slice none 0 0, .slice none 0 0, .string ⟨#[]⟩, .slice none 0 0], .int .i64 c]) w) : bodyPost Tryd.prog fn (RetRQ w0 (noP, c)) .ret a w :=
  ⟨hd, _, hr, _, _, _, _, rfl, hn, parP_nil⟩
theorem retRQ_yes {fn : Func} {w0 w : World} {a : Act} {p : ProgD} {i v o l : Value} (hd : a.defers = []) (hn : New w0 w) (h : ParP w w0.heap.size p i v o l) (hr : (results fn a.tmps).run Tryd.prog w = .ok (.tuple #[valP p i v o l, .int .i64 0]) w) : bodyPost Tryd.prog fn (RetRQ w0 (p, 0)) .ret a w :=
  ⟨hd, _, hr, i, v, o, l, rfl, hn, h⟩
theorem ParP.set6 {w : World} {B b : Nat} {p : ProgD} {iv vv ov lv : Value} (h : ParP w B p iv vv ov lv) (hb : b < B) (u0 u1 u2 u3 u4 u5 : Value) : ParP (setC6 w b u0 u1 u2 u3 u4 u5) B p iv vv ov lv := by
  obtain ⟨⟨h1, h2, h3⟩, qs, hq, h4, h5, h6⟩ := h
  exact ⟨⟨own_set6 h1 hb _ _ _ _ _ _, own_set6 h2 hb _ _ _ _ _ _, own_set6 h3 hb _ _ _ _ _ _⟩, qs, hq, own_set6 h4 hb _ _ _ _ _ _, fun i hi => own_set6 (h5 i hi) hb _ _ _ _ _ _, h6⟩
theorem ParP.base {w : World} {B B' : Nat} {p : ProgD} {iv vv ov lv : Value} (h : ParP w B p iv vv ov lv) (hb : B' ≤ B) : ParP w B' p iv vv ov lv := by
  obtain ⟨⟨h1, h2, h3⟩, qs, hq, h4, h5, h6⟩ := h
  exact ⟨⟨own_base h1 hb, own_base h2 hb, own_base h3 hb⟩, qs, hq, own_base h4 hb, fun i hi => own_base (h5 i hi) hb, h6⟩
set_option maxHeartbeats 4000000 in
theorem iRen_any (p : ProgD) (iv vv ov lv : Value) (f t : ByteArray) (w : World) (hp : RdP w p iv vv ov lv) (hf : FitP p) (ht : t.size ≤ 1048576) (hk : KW w) :
    Calls Tryd.prog 9 #[valP p iv vv ov lv, .string f, .string t] w (RetRQ w (renR p f t)) := by
  have HP := Lib.hid hp
  have HK := Lib.hid hk; clear hk
  obtain ⟨ia, ic, rfl, _⟩ := id hp.ins
  obtain ⟨va, vc, rfl, _⟩ := id hp.vars
  obtain ⟨oa, oc, rfl, _⟩ := id hp.outs
  obtain ⟨la, cap, rfl⟩ := hp.lines.slice
  clear hp
  have HCODE := Lib.hid (fun (w0 : World) (n : New w w0) => iSoundCode_any p _ _ _ _ w0 (HP.out.new n) hf (HK.out.new n))
  have HALL := Lib.hid (fun (w0 : World) (n : New w w0) => iNamesAll_any p _ _ _ _ w0 (HP.out.new n) hf)
  have HIX := fun (x : ByteArray) (v : Value) (w0 : World) (h : RdS w0 v (allP p)) => show Calls Tryd.prog 45 #[v, .string x] w0 fun e w' => e = .returned (.bool (memS (allP p) x)) ∧ w0 = w' from containsS_any x v (allP p) w0 h
  have HNM := fun (w0 : World) (n : New w w0) => iIsName_any t w0 ht (HK.out.new n)
  have HF := Lib.hid hf
  by_cases hc : codeR p = 0
  · have hw : wB p = true := by
      rcases Bool.eq_false_or_eq_true (wB p) with h | h
      · exact h
      · rw [codeR_0 h] at hc; exact absurd hc (by decide)
    have HREN := Lib.hid (fun (w0 : World) (n : New w w0) => iRen0_any p _ _ _ _ f t w0 (HP.out.new n) HF.out (wB_terms hw))
    rw [hc] at HCODE
    clear hw hf
    rcases Bool.eq_false_or_eq_true (memS (allP p) f) with hmf | hmf
    · have HIXF := Lib.hid (fun (v : Value) (w0 : World) (h : RdS w0 v (allP p)) => (by have h1 := HIX f v w0 h; rw [hmf] at h1; exact h1 : Calls Tryd.prog 45 #[v, .string f] w0 fun e w' => e = .returned (.bool true) ∧ w0 = w'))
      by_cases hgood : isNameB t = true ∧ ((t.toList == f.toList) = true ∨ memS (allP p) t = false)
      · rw [renCode_0 hc hmf hgood]
        obtain ⟨hnt, hgd⟩ := hgood
        rw [hnt] at HNM
        replace HNM := Lib.hid HNM
        rcases Bool.eq_false_or_eq_true (t.toList == f.toList) with hq | hq
        · have hq' : (t.toList != f.toList) = false := by simp [bne, hq]
          clear HIX hgd hmf hc hnt
          go_enter Tryd.func9, Tryd.ntmps9
          go_wp2_with fail
          refine (HCODE.out _ (by repeat (first | with_reducible exact New.refl _ | with_reducible assumption | with_reducible refine New.drew ?_ | with_reducible refine New.drewN ?_ _ | with_reducible refine New.alloc ?_ _ | with_reducible refine New.setCell ?_ (by first | (simp; done) | (simp; omega) | omega) _ | with_reducible refine New.trans ?_ (by with_reducible assumption)))).mono ?_; rintro e w1 ⟨rfl, b1⟩
          try with_reducible replace b1 := New.undrawN b1
          try with_reducible replace b1 := New.undraw b1
          obtain ⟨c1, f1⟩ := b1.rules
          have z1 := b1.size
          try simp only [World.size_alloc, World.size_drew, World.heap_drewN, World.size_setCell] at z1
          have z1_0 : w.heap.size < w1.heap.size := by omega
          have z1_1 : w.heap.size + 1 < w1.heap.size := by omega
          go_wp2_with fail
          refine (HALL.out _ (by repeat (first | with_reducible exact New.refl _ | with_reducible assumption | with_reducible refine New.drew ?_ | with_reducible refine New.drewN ?_ _ | with_reducible refine New.alloc ?_ _ | with_reducible refine New.setCell ?_ (by first | (simp; done) | (simp; omega) | omega) _ | with_reducible refine New.trans ?_ (by with_reducible assumption)))).mono ?_; rintro e w2 ⟨r2, rfl, b2, o2⟩
          obtain ⟨c2, f2⟩ := b2.rules
          have z2 := b2.size
          try simp only [World.size_alloc, World.size_drew, World.heap_drewN, World.size_setCell] at z2
          have z2_0 : w.heap.size < w2.heap.size := by omega
          have z2_1 : w.heap.size + 1 < w2.heap.size := by omega
          go_wp2_with fail
          refine (HIXF.out _ _ (own_rd1 o2)).mono ?_; rintro e _ ⟨rfl, rfl⟩
          go_wp2_with fail
          refine (HNM.out _ (by repeat (first | with_reducible exact New.refl _ | with_reducible assumption | with_reducible refine New.drew ?_ | with_reducible refine New.drewN ?_ _ | with_reducible refine New.alloc ?_ _ | with_reducible refine New.setCell ?_ (by first | (simp; done) | (simp; omega) | omega) _ | with_reducible refine New.trans ?_ (by with_reducible assumption)))).mono ?_; rintro e _ ⟨rfl, rfl⟩
          rename World => w9
          have N9 : New w w9 := by exact (by repeat (first | with_reducible exact New.refl _ | with_reducible assumption | with_reducible refine New.drew ?_ | with_reducible refine New.drewN ?_ _ | with_reducible refine New.alloc ?_ _ | with_reducible refine New.setCell ?_ (by first | (simp; done) | (simp; omega) | omega) _ | with_reducible refine New.trans ?_ (by with_reducible assumption)))
          have KP9 : Blk w9 w.heap.size #[.string p.name, .slice ia p.inputs.length ic, .slice va p.vars.length vc, .slice oa p.outputs.length oc, .string p.guard, .slice la p.lines.length cap] 29 := (((Blk.alloc_at rfl).alloc _).new b1).new b2
          have KR9 : Blk w9 (w.heap.size + 1) #[.string ⟨#[]⟩, .slice none 0 0, .slice none 0 0, .slice none 0 0, .string ⟨#[]⟩, .slice none 0 0] 29 := ((Blk.alloc_at (World.size_alloc _ _).symm).new b1).new b2
          obtain ⟨cP, fP⟩ := KP9.rules
          have hP9 := KP9.lt
          clear c1 f1 c2 f2 o2 b1 b2
          go_wp2_with fail
          refine (HREN.out _ N9).mono ?_
          rintro e w8 ⟨i8, v8, o8, l8, rfl, b8, P8⟩
          obtain ⟨x1, y1, hi8⟩ := own_slice P8.1.1
          obtain ⟨x2, y2, hv8⟩ := own_slice P8.1.2.1
          obtain ⟨x3, y3, ho8⟩ := own_slice P8.1.2.2
          obtain ⟨x4, y4, hl8⟩ : ∃ a c, l8 = .slice a (renP f t p).lines.length c := by
            obtain ⟨_, qs, hq, h4, _⟩ := P8
            obtain ⟨a, c, h⟩ := own_slice h4
            exact ⟨a, c, by rw [h, ← hq, List.length_map]⟩
          subst hi8 hv8 ho8 hl8
          have KR8 := KR9.new b8
          obtain ⟨cR, fR⟩ := KR8.rules
          have hR8 := KR8.lt
          have hR9 := KR9.lt
          have N8 := N9.trans b8
          have P8' := Lib.hid P8
          clear P8 cP fP
          go_wp2_with fail
          exact retRQ_yes (p := renP f t p) rfl (New.set6 N8 (b := w.heap.size + 1) (by omega) (.string p.name) (.slice x1 (renP f t p).inputs.length y1) (.slice x2 (renP f t p).vars.length y2) (.slice x3 (renP f t p).outputs.length y3) (.string (renP f t p).guard) (.slice x4 (renP f t p).lines.length y4)) ((P8'.out.set6 (b := w.heap.size + 1) (by omega) _ _ _ _ _ _).base (by omega)) (by simp [results, Tryd.results9, go_sem, cR, fR, hR8])
        · have hq' : (t.toList != f.toList) = true := by simp [bne, hq]
          have hmt : memS (allP p) t = false := by rcases hgd with h | h; rw [hq] at h; cases h; exact h
          have HIXT := Lib.hid (fun (v : Value) (w0 : World) (h : RdS w0 v (allP p)) => (by have h1 := HIX t v w0 h; rw [hmt] at h1; exact h1 : Calls Tryd.prog 45 #[v, .string t] w0 fun e w' => e = .returned (.bool false) ∧ w0 = w'))
          clear HIX hgd hmf hc hnt hmt
          go_enter Tryd.func9, Tryd.ntmps9
          go_wp2_with fail
          refine (HCODE.out _ (by repeat (first | with_reducible exact New.refl _ | with_reducible assumption | with_reducible refine New.drew ?_ | with_reducible refine New.drewN ?_ _ | with_reducible refine New.alloc ?_ _ | with_reducible refine New.setCell ?_ (by first | (simp; done) | (simp; omega) | omega) _ | with_reducible refine New.trans ?_ (by with_reducible assumption)))).mono ?_; rintro e w1 ⟨rfl, b1⟩
          try with_reducible replace b1 := New.undrawN b1
          try with_reducible replace b1 := New.undraw b1
          obtain ⟨c1, f1⟩ := b1.rules
          have z1 := b1.size
          try simp only [World.size_alloc, World.size_drew, World.heap_drewN, World.size_setCell] at z1
          have z1_0 : w.heap.size < w1.heap.size := by omega
          have z1_1 : w.heap.size + 1 < w1.heap.size := by omega
          go_wp2_with fail
          refine (HALL.out _ (by repeat (first | with_reducible exact New.refl _ | with_reducible assumption | with_reducible refine New.drew ?_ | with_reducible refine New.drewN ?_ _ | with_reducible refine New.alloc ?_ _ | with_reducible refine New.setCell ?_ (by first | (simp; done) | (simp; omega) | omega) _ | with_reducible refine New.trans ?_ (by with_reducible assumption)))).mono ?_; rintro e w2 ⟨r2, rfl, b2, o2⟩
          obtain ⟨c2, f2⟩ := b2.rules
          have z2 := b2.size
          try simp only [World.size_alloc, World.size_drew, World.heap_drewN, World.size_setCell] at z2
          have z2_0 : w.heap.size < w2.heap.size := by omega
          have z2_1 : w.heap.size + 1 < w2.heap.size := by omega
          go_wp2_with fail
          refine (HIXF.out _ _ (own_rd1 o2)).mono ?_; rintro e _ ⟨rfl, rfl⟩
          go_wp2_with fail
          refine (HNM.out _ (by repeat (first | with_reducible exact New.refl _ | with_reducible assumption | with_reducible refine New.drew ?_ | with_reducible refine New.drewN ?_ _ | with_reducible refine New.alloc ?_ _ | with_reducible refine New.setCell ?_ (by first | (simp; done) | (simp; omega) | omega) _ | with_reducible refine New.trans ?_ (by with_reducible assumption)))).mono ?_; rintro e _ ⟨rfl, rfl⟩
          go_wp2_with fail
          refine (HALL.out _ (by repeat (first | with_reducible exact New.refl _ | with_reducible assumption | with_reducible refine New.drew ?_ | with_reducible refine New.drewN ?_ _ | with_reducible refine New.alloc ?_ _ | with_reducible refine New.setCell ?_ (by first | (simp; done) | (simp; omega) | omega) _ | with_reducible refine New.trans ?_ (by with_reducible assumption)))).mono ?_; rintro e w9 ⟨r4, rfl, b4, o4⟩
          have N9 : New w w9 := by exact (by repeat (first | with_reducible exact New.refl _ | with_reducible assumption | with_reducible refine New.drew ?_ | with_reducible refine New.drewN ?_ _ | with_reducible refine New.alloc ?_ _ | with_reducible refine New.setCell ?_ (by first | (simp; done) | (simp; omega) | omega) _ | with_reducible refine New.trans ?_ (by with_reducible assumption)))
          have KP9 : Blk w9 w.heap.size #[.string p.name, .slice ia p.inputs.length ic, .slice va p.vars.length vc, .slice oa p.outputs.length oc, .string p.guard, .slice la p.lines.length cap] 29 := ((((Blk.alloc_at rfl).alloc _).new b1).new b2).new b4
          have KR9 : Blk w9 (w.heap.size + 1) #[.string ⟨#[]⟩, .slice none 0 0, .slice none 0 0, .slice none 0 0, .string ⟨#[]⟩, .slice none 0 0] 29 := (((Blk.alloc_at (World.size_alloc _ _).symm).new b1).new b2).new b4
          obtain ⟨cP, fP⟩ := KP9.rules
          have hP9 := KP9.lt
          have RD4 := Lib.hid (own_rd1 o4)
          clear c1 f1 c2 f2 o2 o4 b1 b2 b4
          go_wp2_with fail
          refine (HIXT.out _ _ RD4.out).mono ?_; rintro e _ ⟨rfl, rfl⟩
          go_wp2_with fail
          refine (HREN.out _ N9).mono ?_
          rintro e w8 ⟨i8, v8, o8, l8, rfl, b8, P8⟩
          obtain ⟨x1, y1, hi8⟩ := own_slice P8.1.1
          obtain ⟨x2, y2, hv8⟩ := own_slice P8.1.2.1
          obtain ⟨x3, y3, ho8⟩ := own_slice P8.1.2.2
          obtain ⟨x4, y4, hl8⟩ : ∃ a c, l8 = .slice a (renP f t p).lines.length c := by
            obtain ⟨_, qs, hq, h4, _⟩ := P8
            obtain ⟨a, c, h⟩ := own_slice h4
            exact ⟨a, c, by rw [h, ← hq, List.length_map]⟩
          subst hi8 hv8 ho8 hl8
          have KR8 := KR9.new b8
          obtain ⟨cR, fR⟩ := KR8.rules
          have hR8 := KR8.lt
          have hR9 := KR9.lt
          have N8 := N9.trans b8
          have P8' := Lib.hid P8
          clear P8 cP fP
          go_wp2_with fail
          exact retRQ_yes (p := renP f t p) rfl (New.set6 N8 (b := w.heap.size + 1) (by omega) (.string p.name) (.slice x1 (renP f t p).inputs.length y1) (.slice x2 (renP f t p).vars.length y2) (.slice x3 (renP f t p).outputs.length y3) (.string (renP f t p).guard) (.slice x4 (renP f t p).lines.length y4)) ((P8'.out.set6 (b := w.heap.size + 1) (by omega) _ _ _ _ _ _).base (by omega)) (by simp [results, Tryd.results9, go_sem, cR, fR, hR8])
      · rw [renCode_2 hc hmf hgood]
        have hcases : isNameB t = false ∨ (isNameB t = true ∧ (t.toList == f.toList) = false ∧ memS (allP p) t = true) := by
          rcases Bool.eq_false_or_eq_true (isNameB t) with h | h
          · right
            refine ⟨h, ?_, ?_⟩
            · rcases Bool.eq_false_or_eq_true (t.toList == f.toList) with h' | h'
              · exact absurd ⟨h, .inl h'⟩ hgood
              · exact h'
            · rcases Bool.eq_false_or_eq_true (memS (allP p) t) with h' | h'
              · exact h'
              · exact absurd ⟨h, .inr h'⟩ hgood
          · exact .inl h
        clear hgood
        rcases hcases with hnt | ⟨hnt, hq, hmt⟩
        · rw [hnt] at HNM
          replace HNM := Lib.hid HNM
          clear HIX hmf hc hnt
          go_enter Tryd.func9, Tryd.ntmps9
          go_wp2_with fail
          refine (HCODE.out _ (by repeat (first | with_reducible exact New.refl _ | with_reducible assumption | with_reducible refine New.drew ?_ | with_reducible refine New.drewN ?_ _ | with_reducible refine New.alloc ?_ _ | with_reducible refine New.setCell ?_ (by first | (simp; done) | (simp; omega) | omega) _ | with_reducible refine New.trans ?_ (by with_reducible assumption)))).mono ?_; rintro e w1 ⟨rfl, b1⟩
          try with_reducible replace b1 := New.undrawN b1
          try with_reducible replace b1 := New.undraw b1
          obtain ⟨c1, f1⟩ := b1.rules
          have z1 := b1.size
          try simp only [World.size_alloc, World.size_drew, World.heap_drewN, World.size_setCell] at z1
          have z1_0 : w.heap.size < w1.heap.size := by omega
          have z1_1 : w.heap.size + 1 < w1.heap.size := by omega
          go_wp2_with fail
          refine (HALL.out _ (by repeat (first | with_reducible exact New.refl _ | with_reducible assumption | with_reducible refine New.drew ?_ | with_reducible refine New.drewN ?_ _ | with_reducible refine New.alloc ?_ _ | with_reducible refine New.setCell ?_ (by first | (simp; done) | (simp; omega) | omega) _ | with_reducible refine New.trans ?_ (by with_reducible assumption)))).mono ?_; rintro e w2 ⟨r2, rfl, b2, o2⟩
          obtain ⟨c2, f2⟩ := b2.rules
          have z2 := b2.size
          try simp only [World.size_alloc, World.size_drew, World.heap_drewN, World.size_setCell] at z2
          have z2_0 : w.heap.size < w2.heap.size := by omega
          have z2_1 : w.heap.size + 1 < w2.heap.size := by omega
          go_wp2_with fail
          refine (HIXF.out _ _ (own_rd1 o2)).mono ?_; rintro e _ ⟨rfl, rfl⟩
          go_wp2_with fail
          refine (HNM.out _ (by repeat (first | with_reducible exact New.refl _ | with_reducible assumption | with_reducible refine New.drew ?_ | with_reducible refine New.drewN ?_ _ | with_reducible refine New.alloc ?_ _ | with_reducible refine New.setCell ?_ (by first | (simp; done) | (simp; omega) | omega) _ | with_reducible refine New.trans ?_ (by with_reducible assumption)))).mono ?_; rintro e _ ⟨rfl, rfl⟩
          go_wp2_with fail
          exact retRQ_no rfl (by repeat (first | with_reducible exact New.refl _ | with_reducible assumption | with_reducible refine New.drew ?_ | with_reducible refine New.drewN ?_ _ | with_reducible refine New.alloc ?_ _ | with_reducible refine New.setCell ?_ (by first | (simp; done) | (simp; omega) | omega) _ | with_reducible refine New.trans ?_ (by with_reducible assumption))) (by simp [results, Tryd.results9, go_sem, c2, f2, c1, f1, z1_0, z1_1, z2_0, z2_1])
        · rw [hnt] at HNM
          replace HNM := Lib.hid HNM
          have hq' : (t.toList != f.toList) = true := by simp [bne, hq]
          have HIXT := Lib.hid (fun (v : Value) (w0 : World) (h : RdS w0 v (allP p)) => (by have h1 := HIX t v w0 h; rw [hmt] at h1; exact h1 : Calls Tryd.prog 45 #[v, .string t] w0 fun e w' => e = .returned (.bool true) ∧ w0 = w'))
          clear HIX hmf hc hnt hmt
          go_enter Tryd.func9, Tryd.ntmps9
          go_wp2_with fail
          refine (HCODE.out _ (by repeat (first | with_reducible exact New.refl _ | with_reducible assumption | with_reducible refine New.drew ?_ | with_reducible refine New.drewN ?_ _ | with_reducible refine New.alloc ?_ _ | with_reducible refine New.setCell ?_ (by first | (simp; done) | (simp; omega) | omega) _ | with_reducible refine New.trans ?_ (by with_reducible assumption)))).mono ?_; rintro e w1 ⟨rfl, b1⟩
          try with_reducible replace b1 := New.undrawN b1
          try with_reducible replace b1 := New.undraw b1
          obtain ⟨c1, f1⟩ := b1.rules
          have z1 := b1.size
          try simp only [World.size_alloc, World.size_drew, World.heap_drewN, World.size_setCell] at z1
          have z1_0 : w.heap.size < w1.heap.size := by omega
          have z1_1 : w.heap.size + 1 < w1.heap.size := by omega
          go_wp2_with fail
          refine (HALL.out _ (by repeat (first | with_reducible exact New.refl _ | with_reducible assumption | with_reducible refine New.drew ?_ | with_reducible refine New.drewN ?_ _ | with_reducible refine New.alloc ?_ _ | with_reducible refine New.setCell ?_ (by first | (simp; done) | (simp; omega) | omega) _ | with_reducible refine New.trans ?_ (by with_reducible assumption)))).mono ?_; rintro e w2 ⟨r2, rfl, b2, o2⟩
          obtain ⟨c2, f2⟩ := b2.rules
          have z2 := b2.size
          try simp only [World.size_alloc, World.size_drew, World.heap_drewN, World.size_setCell] at z2
          have z2_0 : w.heap.size < w2.heap.size := by omega
          have z2_1 : w.heap.size + 1 < w2.heap.size := by omega
          go_wp2_with fail
          refine (HIXF.out _ _ (own_rd1 o2)).mono ?_; rintro e _ ⟨rfl, rfl⟩
          go_wp2_with fail
          refine (HNM.out _ (by repeat (first | with_reducible exact New.refl _ | with_reducible assumption | with_reducible refine New.drew ?_ | with_reducible refine New.drewN ?_ _ | with_reducible refine New.alloc ?_ _ | with_reducible refine New.setCell ?_ (by first | (simp; done) | (simp; omega) | omega) _ | with_reducible refine New.trans ?_ (by with_reducible assumption)))).mono ?_; rintro e _ ⟨rfl, rfl⟩
          go_wp2_with fail
          refine (HALL.out _ (by repeat (first | with_reducible exact New.refl _ | with_reducible assumption | with_reducible refine New.drew ?_ | with_reducible refine New.drewN ?_ _ | with_reducible refine New.alloc ?_ _ | with_reducible refine New.setCell ?_ (by first | (simp; done) | (simp; omega) | omega) _ | with_reducible refine New.trans ?_ (by with_reducible assumption)))).mono ?_; rintro e w4 ⟨r4, rfl, b4, o4⟩
          obtain ⟨c4, f4⟩ := b4.rules
          have z4 := b4.size
          try simp only [World.size_alloc, World.size_drew, World.heap_drewN, World.size_setCell] at z4
          have z4_0 : w.heap.size < w4.heap.size := by omega
          have z4_1 : w.heap.size + 1 < w4.heap.size := by omega
          go_wp2_with fail
          refine (HIXT.out _ _ (own_rd1 o4)).mono ?_; rintro e _ ⟨rfl, rfl⟩
          go_wp2_with fail
          exact retRQ_no rfl (by repeat (first | with_reducible exact New.refl _ | with_reducible assumption | with_reducible refine New.drew ?_ | with_reducible refine New.drewN ?_ _ | with_reducible refine New.alloc ?_ _ | with_reducible refine New.setCell ?_ (by first | (simp; done) | (simp; omega) | omega) _ | with_reducible refine New.trans ?_ (by with_reducible assumption))) (by simp [results, Tryd.results9, go_sem, c4, f4, c2, f2, c1, f1, z1_0, z1_1, z2_0, z2_1, z4_0, z4_1])
    · rw [renCode_4 hc hmf]
      have HIXF := Lib.hid (fun (v : Value) (w0 : World) (h : RdS w0 v (allP p)) => (by have h1 := HIX f v w0 h; rw [hmf] at h1; exact h1 : Calls Tryd.prog 45 #[v, .string f] w0 fun e w' => e = .returned (.bool false) ∧ w0 = w'))
      clear HIX HNM hmf hc
      go_enter Tryd.func9, Tryd.ntmps9
      go_wp2_with fail
      refine (HCODE.out _ (by repeat (first | with_reducible exact New.refl _ | with_reducible assumption | with_reducible refine New.drew ?_ | with_reducible refine New.drewN ?_ _ | with_reducible refine New.alloc ?_ _ | with_reducible refine New.setCell ?_ (by first | (simp; done) | (simp; omega) | omega) _ | with_reducible refine New.trans ?_ (by with_reducible assumption)))).mono ?_; rintro e w1 ⟨rfl, b1⟩
      try with_reducible replace b1 := New.undrawN b1
      try with_reducible replace b1 := New.undraw b1
      obtain ⟨c1, f1⟩ := b1.rules
      have z1 := b1.size
      try simp only [World.size_alloc, World.size_drew, World.heap_drewN, World.size_setCell] at z1
      have z1_0 : w.heap.size < w1.heap.size := by omega
      have z1_1 : w.heap.size + 1 < w1.heap.size := by omega
      go_wp2_with fail
      refine (HALL.out _ (by repeat (first | with_reducible exact New.refl _ | with_reducible assumption | with_reducible refine New.drew ?_ | with_reducible refine New.drewN ?_ _ | with_reducible refine New.alloc ?_ _ | with_reducible refine New.setCell ?_ (by first | (simp; done) | (simp; omega) | omega) _ | with_reducible refine New.trans ?_ (by with_reducible assumption)))).mono ?_; rintro e w2 ⟨r2, rfl, b2, o2⟩
      obtain ⟨c2, f2⟩ := b2.rules
      have z2 := b2.size
      try simp only [World.size_alloc, World.size_drew, World.heap_drewN, World.size_setCell] at z2
      have z2_0 : w.heap.size < w2.heap.size := by omega
      have z2_1 : w.heap.size + 1 < w2.heap.size := by omega
      go_wp2_with fail
      refine (HIXF.out _ _ (own_rd1 o2)).mono ?_; rintro e _ ⟨rfl, rfl⟩
      go_wp2_with fail
      exact retRQ_no rfl (by repeat (first | with_reducible exact New.refl _ | with_reducible assumption | with_reducible refine New.drew ?_ | with_reducible refine New.drewN ?_ _ | with_reducible refine New.alloc ?_ _ | with_reducible refine New.setCell ?_ (by first | (simp; done) | (simp; omega) | omega) _ | with_reducible refine New.trans ?_ (by with_reducible assumption))) (by simp [results, Tryd.results9, go_sem, c2, f2, c1, f1, z1_0, z1_1, z2_0, z2_1])
  · rw [renCode_1 hc]
    have hcc : (codeR p != 0) = true := by simpa using hc
    clear HIX HNM HALL
    go_enter Tryd.func9, Tryd.ntmps9
    go_wp2_with fail
    refine (HCODE.out _ (by repeat (first | with_reducible exact New.refl _ | with_reducible assumption | with_reducible refine New.drew ?_ | with_reducible refine New.drewN ?_ _ | with_reducible refine New.alloc ?_ _ | with_reducible refine New.setCell ?_ (by first | (simp; done) | (simp; omega) | omega) _ | with_reducible refine New.trans ?_ (by with_reducible assumption)))).mono ?_; rintro e w1 ⟨rfl, b1⟩
    try with_reducible replace b1 := New.undrawN b1
    try with_reducible replace b1 := New.undraw b1
    obtain ⟨c1, f1⟩ := b1.rules
    have z1 := b1.size
    try simp only [World.size_alloc, World.size_drew, World.heap_drewN, World.size_setCell] at z1
    have z1_0 : w.heap.size < w1.heap.size := by omega
    have z1_1 : w.heap.size + 1 < w1.heap.size := by omega
    go_wp2_with fail
    exact retRQ_no rfl (by repeat (first | with_reducible exact New.refl _ | with_reducible assumption | with_reducible refine New.drew ?_ | with_reducible refine New.drewN ?_ _ | with_reducible refine New.alloc ?_ _ | with_reducible refine New.setCell ?_ (by first | (simp; done) | (simp; omega) | omega) _ | with_reducible refine New.trans ?_ (by with_reducible assumption))) (by simp [results, Tryd.results9, go_sem, c1, f1, z1_0, z1_1])
end Go.Proofs.YtadoocadohdfcaaDoor
