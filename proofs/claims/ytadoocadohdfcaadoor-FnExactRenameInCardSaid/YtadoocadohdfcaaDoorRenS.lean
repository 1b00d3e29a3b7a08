/- Contracts: the reference's replacing of a name. -/
import Derived.Deep.Upon
import Derived.Test.YtadoocadohdfcaaDoorProg
import Derived.Test.YtadoocadohdfcaaDoorRenQ
import Derived.Test.YtadoocadohdfcaaDoorRegionG
import Derived.Test.YtadoocadohdfcaaDoorSound2
import Derived.Test.YtadoocadohdfcaaDoorMrgD
namespace Go.Proofs.YtadoocadohdfcaaDoor
open Go Go.Proofs Go.RowKit
set_option linter.unusedVariables false
set_option linter.unusedSimpArgs false
set_option maxRecDepth 100000
/-- Texts in memory of the call's own. -/
def OwnSt (w : World) (base : Nat) (v : Value) (n : Nat) (xs : List ByteArray) : Prop := w.ownsRow base 9 1 v n (xs.map Value.string)
theorem OwnSt.new {w w' : World} {base : Nat} {v : Value} {n : Nat} {xs : List ByteArray} (h : OwnSt w base v n xs) (hn : New w w') : OwnSt w' base v n xs := own_new h hn
theorem OwnSt.of {w : World} {base b : Nat} {v : Value} {n : Nat} {xs : List ByteArray} (h : w.ownsRow base 9 1 v n (xs.map Value.string)) (hb : b ≤ base) : OwnSt w b v n xs := own_base h hb
theorem OwnSt.row {w : World} {base : Nat} {v : Value} {n : Nat} {xs : List ByteArray} (h : OwnSt w base v n xs) : w.ownsRow base 9 1 v n (xs.map Value.string) := h
theorem rdLn_of {w : World} {v : Value} {qs : List LV} {ls : List LineD} {k : Nat} (h : qs.map Prod.fst = ls) (hk : qs.length = k) (h1 : Rd w v k (qs.flatMap encLV)) (h2 : ∀ q ∈ qs, Rd w q.2 q.1.terms.length (q.1.terms.flatMap encTerm)) : RdLn w v ls := by
  subst hk; exact ⟨qs, h, h1, h2⟩
theorem retRP_yes {fn : Func} {w0 w : World} {a : Act} {p : ProgD} {f t : ByteArray} {i v o l : Value} (hd : a.defers = []) (hn : New w0 w) (h : RdP w (renP f t p) i v o l) (hr : (results fn a.tmps).run Tryd.prog w = .ok (.tuple #[.agg #[.string p.name, i, v, o, .string (swp f t p.guard), l], .int .i64 0]) w) : bodyPost Tryd.prog fn (RetRP w0 (renP f t p, 0)) .ret a w :=
  ⟨hd, _, hr, i, v, o, l, rfl, hn, h⟩
abbrev setC6 (w : World) (b : Nat) (u0 u1 u2 u3 u4 u5 : Value) : World := (((((w.setCell ⟨b, 0, none⟩ u0).setCell ⟨b, 1, none⟩ u1).setCell ⟨b, 2, none⟩ u2).setCell ⟨b, 3, none⟩ u3).setCell ⟨b, 4, none⟩ u4).setCell ⟨b, 5, none⟩ u5
theorem New.set6 {a w : World} (h : New a w) {b : Nat} (hb : a.heap.size ≤ b) (u0 u1 u2 u3 u4 u5 : Value) : New a (setC6 w b u0 u1 u2 u3 u4 u5) := (((((h.setCell (p := ⟨b, 0, none⟩) hb u0).setCell (p := ⟨b, 1, none⟩) hb u1).setCell (p := ⟨b, 2, none⟩) hb u2).setCell (p := ⟨b, 3, none⟩) hb u3).setCell (p := ⟨b, 4, none⟩) hb u4).setCell (p := ⟨b, 5, none⟩) hb u5
theorem own_set6 {w : World} {b base : Nat} {e : TypeId} {sz : Nat} {v : Value} {n : Nat} {ds : List Value} (h : w.ownsRow base e sz v n ds) (hb : b < base) (u0 u1 u2 u3 u4 u5 : Value) : (setC6 w b u0 u1 u2 u3 u4 u5).ownsRow base e sz v n ds :=
  ownsRow_setCell_below (ownsRow_setCell_below (ownsRow_setCell_below (ownsRow_setCell_below (ownsRow_setCell_below (ownsRow_setCell_below h (a := ⟨b, 0, none⟩) hb u0) (a := ⟨b, 1, none⟩) hb u1) (a := ⟨b, 2, none⟩) hb u2) (a := ⟨b, 3, none⟩) hb u3) (a := ⟨b, 4, none⟩) hb u4) (a := ⟨b, 5, none⟩) hb u5
theorem rd_map9 {w : World} {base : Nat} {r : Value} {xs : List ByteArray} {g : ByteArray → ByteArray} (h : w.ownsRow base 9 1 r xs.length ((xs.map g).map Value.string)) : RdS w r (xs.map g) := by
  have := own_rd h
  rw [RdS, List.length_map]; exact this
set_option maxHeartbeats 20000000 in
theorem sRen_any (p : ProgD) (iv vv ov lv : Value) (f t : ByteArray) (w : World) (hp : RdP w p iv vv ov lv) (hf : FitP p) (ht : t.size ≤ 1048576) :
    Calls Tryd.prog 7 #[valP p iv vv ov lv, .string f, .string t] w (RetRP w (renR p f t)) := by
  have HP := Lib.hid hp
  obtain ⟨ia, ic, rfl, _⟩ := id hp.ins
  obtain ⟨va, vc, rfl, _⟩ := id hp.vars
  obtain ⟨oa, oc, rfl, _⟩ := id hp.outs
  obtain ⟨_, _, _, ps, hps, hl1, hl2⟩ := hp
  obtain ⟨la, cap, rfl, hm, HC⟩ := Rd.flat encLV_len (by omega) hl1
  have HCODE := Lib.hid (fun (w0 : World) (n : New w w0) => sSoundCode_any p _ _ _ _ w0 (HP.out.new n) hf)
  have HALL := Lib.hid (fun (w0 : World) (n : New w w0) => sAll_any p _ _ _ _ w0 (HP.out.new n) hf)
  have HIX := fun (x : ByteArray) (v : Value) (w0 : World) (h : RdS w0 v (allP p)) => sIndex14_any x v (allP p) w0 h
  have HNM := fun (w0 : World) => sName_any t w0 ht
  by_cases hc : codeR p = 0
  · have hw : wB p = true := by
      rcases Bool.eq_false_or_eq_true (wB p) with h | h
      · exact h
      · rw [codeR_0 h] at hc; exact absurd hc (by decide)
    rw [hc] at HCODE
    obtain ⟨h40, ht40⟩ := wB_terms hw
    have hpm : ps.length ≤ 40 := by rw [← hps, List.length_map] at h40; exact h40
    have HLG := Lib.hid (fun k (h : k < ps.length) => linesB_get hps k h)
    have HPL := Lib.hid (show p.lines.length = ps.length by rw [← hps, List.length_map])
    have H40 := Lib.hid ht40
    have HT := Lib.hid hl2
    clear hl1 hl2 hps hw h40 ht40
    rcases Bool.eq_false_or_eq_true (memS (allP p) f) with hmf | hmf
    · have hif := idx_memN f (allP p)
      rw [hmf] at hif
      have HIXF := Lib.hid (fun (v : Value) (w0 : World) (h : RdS w0 v (allP p)) => HIX f v w0 h)
      generalize idx (fun y => f.toList == y.toList) (allP p) = IF at hif HIXF
      by_cases hgood : isNameB t = true ∧ ((t.toList == f.toList) = true ∨ memS (allP p) t = false)
      · rw [renCode_0 hc hmf hgood]
        obtain ⟨hnt, hgd⟩ := hgood
        rw [hnt] at HNM
        replace HNM := Lib.hid HNM
        rcases Bool.eq_false_or_eq_true (t.toList == f.toList) with hq | hq
        · have hq' : (t.toList != f.toList) = false := by simp [bne, hq]
          clear HIX hgd hmf hc hnt
          go_enter Tryd.func7, Tryd.ntmps7
          go_wp2_with fail
          refine (HCODE.out _ (by repeat (first | with_reducible exact New.refl _ | with_reducible assumption | with_reducible refine New.drew ?_ | with_reducible refine New.drewN ?_ _ | with_reducible refine New.alloc ?_ _ | with_reducible refine New.setCell ?_ (by first | (simp; done) | (simp; omega) | omega) _ | with_reducible refine New.trans ?_ (by with_reducible assumption)))).mono ?_; rintro e w1 ⟨rfl, b1⟩
          try with_reducible replace b1 := New.undrawN b1
          try with_reducible replace b1 := New.undraw b1
          obtain ⟨c1, f1⟩ := b1.rules
          have z1 := b1.size
          try simp only [World.size_alloc, World.size_drew, World.heap_drewN, World.size_setCell] at z1
          have z1_0 : w.heap.size < w1.heap.size := by omega
          have z1_1 : w.heap.size + 1 < w1.heap.size := by omega
          go_wp2_with fail
          refine (HALL.out _ (by repeat (first | with_reducible exact New.refl _ | with_reducible assumption | with_reducible refine New.drew ?_ | with_reducible refine New.drewN ?_ _ | with_reducible refine New.alloc ?_ _ | with_reducible refine New.setCell ?_ (by first | (simp; done) | (simp; omega) | omega) _ | with_reducible refine New.trans ?_ (by with_reducible assumption)))).mono ?_; rintro e w2 ⟨r2, rfl, b2, o2⟩
          obtain ⟨c2, f2⟩ := b2.rules
          have z2 := b2.size
          try simp only [World.size_alloc, World.size_drew, World.heap_drewN, World.size_setCell] at z2
          have z2_0 : w.heap.size < w2.heap.size := by omega
          have z2_1 : w.heap.size + 1 < w2.heap.size := by omega
          go_wp2_with fail
          refine (HIXF.out _ _ (own_rd1 o2)).mono ?_; rintro e _ ⟨rfl, rfl⟩
          go_wp2_with fail
          refine (HNM.out _).mono ?_; rintro e w9 ⟨rfl, b9⟩
          have N9 : New w w9 := by exact (by repeat (first | with_reducible exact New.refl _ | with_reducible assumption | with_reducible refine New.drew ?_ | with_reducible refine New.drewN ?_ _ | with_reducible refine New.alloc ?_ _ | with_reducible refine New.setCell ?_ (by first | (simp; done) | (simp; omega) | omega) _ | with_reducible refine New.trans ?_ (by with_reducible assumption)))
          have KP9 : Blk w9 w.heap.size #[.string p.name, .slice ia p.inputs.length ic, .slice va p.vars.length vc, .slice oa p.outputs.length oc, .string p.guard, .slice la ps.length cap] 29 := ((((Blk.alloc_at rfl).alloc _).new b1).new b2).new b9
          have KR9 : Blk w9 (w.heap.size + 1) #[.string ⟨#[]⟩, .slice none 0 0, .slice none 0 0, .slice none 0 0, .string ⟨#[]⟩, .slice none 0 0] 29 := (((Blk.alloc_at (World.size_alloc _ _).symm).new b1).new b2).new b9
          obtain ⟨cP, fP⟩ := KP9.rules
          have hP9 := KP9.lt
          clear c1 f1 c2 f2 o2 b1 b2 b9
          go_wp2_with fail
          go_loopw [9, 10] (fun o i wr => ∃ (k : Nat) (qs : List LV), k ≤ ps.length ∧ i = .int .i64 k ∧ Hid (qs.map Prod.fst = (p.lines.take k).map (renL f t)) ∧ Hid (qs.length = k) ∧ New w9 wr ∧ wr.ownsRow w9.heap.size 55 2 o k (qs.flatMap encLV) ∧ Hid (∀ q ∈ qs, wr.ownsRow w9.heap.size 53 3 q.2 q.1.terms.length (q.1.terms.flatMap encTerm))) (fun _ i _ => ps.length - (intOf i).toNat)
          case atStart => exact ⟨0, [], Nat.zero_le _, rfl, Lib.hid rfl, Lib.hid rfl, (by repeat (first | with_reducible exact New.refl _ | with_reducible assumption | with_reducible refine New.drew ?_ | with_reducible refine New.drewN ?_ _ | with_reducible refine New.alloc ?_ _ | with_reducible refine New.setCell ?_ (by first | (simp; done) | (simp; omega) | omega) _ | with_reducible refine New.trans ?_ (by with_reducible assumption))), own_empty (Nat.le_refl _), Lib.hid (fun q hq => by cases hq)⟩
          case round =>
            obtain ⟨k, qs, hk, rfl, hqs, hql, hb, hown, hqr⟩ := hrel
            have hbz := hb.size
            have N0r := N9.trans hb
            have KPr := KP9.new hb
            have KRr := KR9.new hb
            obtain ⟨cP, fP⟩ := KPr.rules
            have hPr := KPr.lt
            have hRr := KRr.lt
            by_cases hlt : k < ps.length
            · obtain ⟨b, off, rfl, hbl, hx⟩ := HC.out k hlt
              obtain ⟨ea, ec, hev, hem, _⟩ := id (HT.out ps[k] (List.getElem_mem hlt))
              have HTK := Lib.hid (HT.out ps[k] (List.getElem_mem hlt))
              obtain ⟨hlp, hle⟩ := HLG.out k hlt
              have HRN := ren_next (f := f) (t := t) hlp
              rw [hle] at HRN
              have hx40 : ps[k].1.terms.length ≤ 40 := by have := H40.out _ (List.getElem_mem hlp); rwa [hle] at this
              clear hle
              rw [show encLV ps[k] = [.string ps[k].1.target, ps[k].2] from rfl, hev] at hx
              rw [hev] at HTK
              have x0 := (N0r.cell hbl).trans (hx 0 _ (by omega) rfl)
              have x1 := (N0r.cell hbl).trans (hx 1 _ (by omega) rfl)
              rw [Nat.add_zero] at x0
              clear hev hx
              have hbr : b < wr.heap.size := by omega
              generalize ps[k].1 = X at *
              replace HRN := Lib.hid HRN
              replace hown := Lib.hid hown
              have own0 : (wr.alloc (.cells #[] 53)).ownsRow wr.heap.size 53 3 (.slice (some ⟨wr.heap.size, 0, none⟩) 0 0) 0 [] := own_empty (Nat.le_refl _)
              obtain ⟨i0, hi, hz0, hz1, hz2⟩ := info_parts infoTerm
              go_wp2_with (first | (at_builtin; refine wpList_append_rd rfl _ _ 46 rfl (wr.heap.size) 53 i0 (Value.agg #[.int .i64 0, .string ⟨#[]⟩, .int .i64 0]) 3 32 Tryd.underlying46 hi hz0 hz1 hz2 rfl (by decide) _ _ _ rfl (own0) _ _ ((X.terms).flatMap encTerm) rfl (Rd.new HTK.out (N0r.alloc _)) (flat_length encTerm 3 encTerm_len _) (encT_one _) (by unfold maxLen; omega) (by omega) (by first | (simp; done) | (simp; omega) | omega) ?_; intro va wa howna hgra))
              have ba := New.grown (show New wr _ by exact (by repeat (first | with_reducible exact New.refl _ | with_reducible assumption | with_reducible refine New.drew ?_ | with_reducible refine New.drewN ?_ _ | with_reducible refine New.alloc ?_ _ | with_reducible refine New.setCell ?_ (by first | (simp; done) | (simp; omega) | omega) _ | with_reducible refine New.trans ?_ (by with_reducible assumption)))) hgra (fun q hq => by have := (own_block_lt own0 q hq).1; simpa using this)
              simp only [Nat.zero_add, List.nil_append] at howna
              obtain ⟨ta, tc, rfl⟩ := own_slice howna
              have own1 := Lib.hid howna
              clear own0 hgra howna cP fP hi hz0 hz1 hz2
              go_wp2_with fail
              go_loopw [12] (fun i w2 => ∃ j : Nat, j ≤ X.terms.length ∧ i = .int .i64 j ∧ New wr w2 ∧ w2.ownsRow wr.heap.size 53 3 (.slice ta X.terms.length tc) X.terms.length ((mixR f t X.terms j).flatMap encTerm)) (fun i _ => X.terms.length - (intOf i).toNat)
              case atStart => exact ⟨0, Nat.zero_le _, rfl, ba, by rw [mixR_zero]; exact own1.out⟩
              case round =>
                obtain ⟨j, hj, rfl, hb2, hown2⟩ := hrel
                clear own1 ba
                rename World => w2
                have hbz2 := hb2.size
                by_cases hlj : j < X.terms.length
                · obtain ⟨g, rfl, hgw, hg2⟩ := one_form hown2 (by omega)
                  have d1 : w2.cell? ⟨g, j * 3 + 1, none⟩ = some (.string X.terms[j].name) := by rw [hown2.cellAt _ (by omega)]; exact mixR_cell hlj
                  have HN := Lib.hid (mixR_name (f := f) (t := t) hlj)
                  generalize X.terms[j].name = nm at *
                  go_wp2_with fail
                  refine (sSwap1_any _ nm f t _ (by simp) (by rw [cell_alloc_new _ _ _ _ _ rfl]; rfl)).mono ?_
                  rintro e w3 ⟨g3, c3, rfl, b3, h3a, h3b, k3⟩
                  have own3 := own_new (hown2.alloc _) b3
                  have f3 := own3.frozenAt (j * 3 + 1)
                  have d3 := (b3.cell (o := j * 3 + 1) (by simp; omega)).trans ((((New.refl w2).alloc (.cells #[.string nm] 9)).cell (o := j * 3 + 1) hg2).trans d1)
                  have hg3 : g < w3.heap.size := by have := b3.size; simp at this; omega
                  go_wp2_with fail
                  go_roundw
                  case rel =>
                    have h1 := (own3.stored (j * 3 + 1) (.string (swp f t nm))).1
                    rw [HN.out] at h1
                    exact ⟨j + 1, by omega, by go_num, ((hb2.alloc _).trans b3).setCell (p := ⟨g, j * 3 + 1, none⟩) hgw _, h1⟩
                  case measure => simp [intOf]; omega
                · obtain rfl : j = X.terms.length := by omega
                  rw [mixR_all] at hown2
                  have N02 := N0r.trans hb2
                  have KP2 := KPr.new hb2
                  obtain ⟨cP2, fP2⟩ := KP2.rules
                  have hP2 := KP2.lt
                  have hb2' : b < w2.heap.size := by omega
                  have y0 := (hb2.cell hbr).trans x0
                  have OT := Lib.hid hown2
                  have OL := Lib.hid (own_new hown.out hb2)
                  have QR := Lib.hid (fun q hq => own_new (hqr.out q hq) hb2)
                  obtain ⟨TG, hTG⟩ : ∃ TG, X.target = TG := ⟨_, rfl⟩
                  rw [hTG] at y0 x0
                  have hXT := Lib.hid (show renL f t X = ⟨swp f t TG, X.terms.map (renT f t)⟩ by rw [renL, hTG])
                  clear hown2 hTG
                  go_wp2_with fail
                  refine (sSwap1_any _ TG f t _ (by simp) (by rw [cell_alloc_new _ _ _ _ _ rfl]; rfl)).mono ?_
                  rintro e w3 ⟨g3, c3, rfl, b3, h3a, h3b, k3⟩
                  have n23 : New w2 w3 := ((New.refl w2).alloc _).trans b3
                  have own3 := own_new OL.out n23
                  have ownT3 := own_new OT.out n23
                  have z3 := (hb.trans (hb2.trans n23)).size
                  clear cP2 fP2 y0
                  obtain ⟨i0, hi, hz0, hz1, hz2⟩ := info_parts infoLineQ
                  go_wp2_with (first | (at_builtin; refine wpList_append_own _ rfl _ _ 27 rfl (w9.heap.size) 55 i0 (Value.agg #[.string ⟨#[]⟩, .slice none 0 0]) 2 40 Tryd.underlying27 hi hz0 hz1 hz2 rfl (by decide) _ _ _ rfl (own3.alloc _) ⟨w3.heap.size, 0, none⟩ 1 1 [.string (swp f t TG), .slice ta X.terms.length tc] rfl rfl (fun j u hj => alloc_row (by first | rfl | simp) j u hj) (by intro u hu; simp at hu; rcases hu with rfl | rfl <;> rfl) (by unfold maxLen; omega) (by omega) (by first | (simp; done) | (simp; omega) | omega) ?_; intro va wa howna hgra _))
                  have N93 := (hb.trans (hb2.trans n23)).alloc (.cells #[.string (swp f t TG), .slice ta X.terms.length tc] 55)
                  have bw := New.grown N93 hgra (fun q hq => (own_block_lt own3 q hq).1)
                  have ownTa := own_grK (ownT3.alloc (.cells #[.string (swp f t TG), .slice ta X.terms.length tc] 55)) hgra (fun i j hi hj => own_ne_ownK own3 ownT3 (by decide) i j hi hj)
                  have QA := Lib.hid (fun (q : LV) (hq : q ∈ qs) => (by
                    have h1 := (own_new (QR.out q hq) n23).alloc (.cells #[.string (swp f t TG), .slice ta X.terms.length tc] 55)
                    exact own_grK h1 hgra (fun i j hi hj => own_ne_ownK (own3.alloc (.cells #[.string (swp f t TG), .slice ta X.terms.length tc] 55)) h1 (by decide) i j hi hj)))
                  go_roundw
                  case rel =>
                    refine ⟨k + 1, qs ++ [(⟨swp f t TG, X.terms.map (renT f t)⟩, .slice ta X.terms.length tc)], by omega, by go_num, Lib.hid (by rw [HRN.out, List.map_append, hqs.out, hXT.out]; rfl), Lib.hid (by rw [List.length_append, hql.out]; rfl), bw, by rw [flatL_app]; exact howna, Lib.hid (fun q hq => ?_)⟩
                    rcases List.mem_append.1 hq with hq | hq
                    · exact QA.out q hq
                    · obtain rfl := List.mem_singleton.1 hq
                      dsimp only
                      rw [List.length_map]; exact own_base ownTa (by omega)
                  case measure => simp [intOf]; omega
            · obtain rfl : k = ps.length := by omega
              have HQ : Hid (qs.map Prod.fst = p.lines.map (renL f t)) := Lib.hid (by rw [hqs.out, ← HPL.out, List.take_length])
              obtain ⟨qa, qc, rfl⟩ := own_slice hown
              have OL := Lib.hid hown
              clear hown hqs
              go_wp2_with fail
              refine (sSwap1_any _ p.guard f t _ (by simp) (by rw [cell_alloc_new _ _ _ _ _ rfl]; rfl)).mono ?_
              rintro e w3 ⟨g3, c3, rfl, b3, h3a, h3b, k3⟩
              have nr3 : New wr w3 := ((New.refl wr).alloc _).trans b3
              have KP3 := KPr.new nr3
              have KR3 := KRr.new nr3
              have N3 := N0r.trans nr3
              have hP3 := KP3.lt
              have hR3 := KR3.lt
              clear cP fP KPr KRr hPr hRr
              obtain ⟨cP, fP⟩ := KP3.rules
              go_wp2_with fail
              refine RG.wp_facts [fun X _ => X = .pointer (some ⟨w.heap.size, 0, none⟩), fun X _ => X = .string p.name, fun X _ => X = .pointer (some ⟨w.heap.size, 1, none⟩), fun X _ => X = .slice ia p.inputs.length ic, fun X _ => X = .string f, fun X _ => X = .string t, fun X W' => ∃ q k, X = .slice q p.inputs.length k ∧ OwnSt W' w3.heap.size (.slice q p.inputs.length k) p.inputs.length (p.inputs.map (swp f t)), fun X _ => X = .pointer (some ⟨w.heap.size, 2, none⟩), fun X _ => X = .slice va p.vars.length vc, fun X _ => X = .string f, fun X _ => X = .string t, fun X W' => ∃ q k, X = .slice q p.vars.length k ∧ OwnSt W' w3.heap.size (.slice q p.vars.length k) p.vars.length (p.vars.map (swp f t)), fun X _ => X = .pointer (some ⟨w.heap.size, 3, none⟩), fun X _ => X = .slice oa p.outputs.length oc, fun X _ => X = .string f, fun X _ => X = .string t, fun X W' => ∃ q k, X = .slice q p.outputs.length k ∧ OwnSt W' w3.heap.size (.slice q p.outputs.length k) p.outputs.length (p.outputs.map (swp f t)), fun X _ => X = .string (swp f t p.guard), fun X _ => X = .slice qa ps.length qc, fun X W' => ∃ a1 k1 a2 k2 a3 k3, X = .agg #[.string p.name, .slice a1 p.inputs.length k1, .slice a2 p.vars.length k2, .slice a3 p.outputs.length k3, .string (swp f t p.guard), .slice qa ps.length qc] ∧ OwnSt W' w3.heap.size (.slice a1 p.inputs.length k1) p.inputs.length (p.inputs.map (swp f t)) ∧ OwnSt W' w3.heap.size (.slice a2 p.vars.length k2) p.vars.length (p.vars.map (swp f t)) ∧ OwnSt W' w3.heap.size (.slice a3 p.outputs.length k3) p.outputs.length (p.outputs.map (swp f t))] (by kernel_rfl) (by kernel_rfl) ⟨RG.stable_eq _, RG.stable_eq _, RG.stable_eq _, RG.stable_eq _, RG.stable_eq _, RG.stable_eq _, fun X w0 w1 hn ⟨a113, k113, t113, r113⟩ => ⟨a113, k113, t113, OwnSt.new r113 hn⟩, RG.stable_eq _, RG.stable_eq _, RG.stable_eq _, RG.stable_eq _, fun X w0 w1 hn ⟨a118, k118, t118, r118⟩ => ⟨a118, k118, t118, OwnSt.new r118 hn⟩, RG.stable_eq _, RG.stable_eq _, RG.stable_eq _, RG.stable_eq _, fun X w0 w1 hn ⟨a123, k123, t123, r123⟩ => ⟨a123, k123, t123, OwnSt.new r123 hn⟩, RG.stable_eq _, RG.stable_eq _, fun X w0 w1 hn ⟨a1, k1, a2, k2, a3, k3', t126, q1, q2, q3⟩ => ⟨a1, k1, a2, k2, a3, k3', t126, OwnSt.new q1 hn, OwnSt.new q2 hn, OwnSt.new q3 hn⟩, trivial⟩ ?_ ?_
              · refine ⟨?_, ?_, ?_, ?_, ?_, ?_, ?_, ?_, ?_, ?_, ?_, ?_, ?_, ?_, ?_, ?_, ?_, ?_, ?_, ?_, trivial⟩
                · intro a w9 hw ho hk
                  refine .inl ⟨by rfl, ?_⟩
                  have t2 := ho 3 rfl
                  dsimp at t2
                  try with_reducible replace hw := New.undrawN hw
                  try with_reducible replace hw := New.undraw hw
                  obtain ⟨c, f'⟩ := hw.rules
                  go_simp
                  exact New.refl _
                · intro a w9 hw ho hk
                  refine .inl ⟨by rfl, ?_⟩
                  have t107 : a.tmps[107]?.getD undef = .pointer (some ⟨w.heap.size, 0, none⟩) := hk 0 107 (by kernel_rfl) rfl
                  try with_reducible replace hw := New.undrawN hw
                  try with_reducible replace hw := New.undraw hw
                  obtain ⟨c, f'⟩ := hw.rules
                  go_simp
                  exact New.refl _
                · intro a w9 hw ho hk
                  refine .inl ⟨by rfl, ?_⟩
                  have t2 := ho 3 rfl
                  dsimp at t2
                  try with_reducible replace hw := New.undrawN hw
                  try with_reducible replace hw := New.undraw hw
                  obtain ⟨c, f'⟩ := hw.rules
                  go_simp
                  exact New.refl _
                · intro a w9 hw ho hk
                  refine .inl ⟨by rfl, ?_⟩
                  have t109 : a.tmps[109]?.getD undef = .pointer (some ⟨w.heap.size, 1, none⟩) := hk 2 109 (by kernel_rfl) rfl
                  try with_reducible replace hw := New.undrawN hw
                  try with_reducible replace hw := New.undraw hw
                  obtain ⟨c, f'⟩ := hw.rules
                  go_simp
                  exact New.refl _
                · intro a w9 hw ho hk
                  refine .inl ⟨by rfl, ?_⟩
                  have t2 := ho 1 rfl
                  dsimp at t2
                  try with_reducible replace hw := New.undrawN hw
                  try with_reducible replace hw := New.undraw hw
                  obtain ⟨c, f'⟩ := hw.rules
                  go_simp
                  exact New.refl _
                · intro a w9 hw ho hk
                  refine .inl ⟨by rfl, ?_⟩
                  have t2 := ho 2 rfl
                  dsimp at t2
                  try with_reducible replace hw := New.undrawN hw
                  try with_reducible replace hw := New.undraw hw
                  obtain ⟨c, f'⟩ := hw.rules
                  go_simp
                  exact New.refl _
                · intro a w9 hw ho hk
                  refine .inl ⟨by rfl, ?_⟩
                  have t110 : a.tmps[110]?.getD undef = .slice ia p.inputs.length ic := hk 3 110 (by kernel_rfl) rfl
                  have t111 : a.tmps[111]?.getD undef = .string f := hk 4 111 (by kernel_rfl) rfl
                  have t112 : a.tmps[112]?.getD undef = .string t := hk 5 112 (by kernel_rfl) rfl
                  go_simp
                  refine (sSwap_any _ p.inputs f t _ (Rd.new HP.out.ins (N3.trans hw)) hf.insl).mono ?_; rintro e w2 ⟨r, rfl, hb, o⟩
                  have hws := hw.size; obtain ⟨a9, k9, rfl⟩ := own_slice o; exact ⟨hb, _, rfl, _, _, rfl, OwnSt.of o hws⟩
                · intro a w9 hw ho hk
                  refine .inl ⟨by rfl, ?_⟩
                  have t2 := ho 3 rfl
                  dsimp at t2
                  try with_reducible replace hw := New.undrawN hw
                  try with_reducible replace hw := New.undraw hw
                  obtain ⟨c, f'⟩ := hw.rules
                  go_simp
                  exact New.refl _
                · intro a w9 hw ho hk
                  refine .inl ⟨by rfl, ?_⟩
                  have t114 : a.tmps[114]?.getD undef = .pointer (some ⟨w.heap.size, 2, none⟩) := hk 7 114 (by kernel_rfl) rfl
                  try with_reducible replace hw := New.undrawN hw
                  try with_reducible replace hw := New.undraw hw
                  obtain ⟨c, f'⟩ := hw.rules
                  go_simp
                  exact New.refl _
                · intro a w9 hw ho hk
                  refine .inl ⟨by rfl, ?_⟩
                  have t2 := ho 1 rfl
                  dsimp at t2
                  try with_reducible replace hw := New.undrawN hw
                  try with_reducible replace hw := New.undraw hw
                  obtain ⟨c, f'⟩ := hw.rules
                  go_simp
                  exact New.refl _
                · intro a w9 hw ho hk
                  refine .inl ⟨by rfl, ?_⟩
                  have t2 := ho 2 rfl
                  dsimp at t2
                  try with_reducible replace hw := New.undrawN hw
                  try with_reducible replace hw := New.undraw hw
                  obtain ⟨c, f'⟩ := hw.rules
                  go_simp
                  exact New.refl _
                · intro a w9 hw ho hk
                  refine .inl ⟨by rfl, ?_⟩
                  have t115 : a.tmps[115]?.getD undef = .slice va p.vars.length vc := hk 8 115 (by kernel_rfl) rfl
                  have t116 : a.tmps[116]?.getD undef = .string f := hk 9 116 (by kernel_rfl) rfl
                  have t117 : a.tmps[117]?.getD undef = .string t := hk 10 117 (by kernel_rfl) rfl
                  go_simp
                  refine (sSwap_any _ p.vars f t _ (Rd.new HP.out.vars (N3.trans hw)) hf.varsl).mono ?_; rintro e w2 ⟨r, rfl, hb, o⟩
                  have hws := hw.size; obtain ⟨a9, k9, rfl⟩ := own_slice o; exact ⟨hb, _, rfl, _, _, rfl, OwnSt.of o hws⟩
                · intro a w9 hw ho hk
                  refine .inl ⟨by rfl, ?_⟩
                  have t2 := ho 3 rfl
                  dsimp at t2
                  try with_reducible replace hw := New.undrawN hw
                  try with_reducible replace hw := New.undraw hw
                  obtain ⟨c, f'⟩ := hw.rules
                  go_simp
                  exact New.refl _
                · intro a w9 hw ho hk
                  refine .inl ⟨by rfl, ?_⟩
                  have t119 : a.tmps[119]?.getD undef = .pointer (some ⟨w.heap.size, 3, none⟩) := hk 12 119 (by kernel_rfl) rfl
                  try with_reducible replace hw := New.undrawN hw
                  try with_reducible replace hw := New.undraw hw
                  obtain ⟨c, f'⟩ := hw.rules
                  go_simp
                  exact New.refl _
                · intro a w9 hw ho hk
                  refine .inl ⟨by rfl, ?_⟩
                  have t2 := ho 1 rfl
                  dsimp at t2
                  try with_reducible replace hw := New.undrawN hw
                  try with_reducible replace hw := New.undraw hw
                  obtain ⟨c, f'⟩ := hw.rules
                  go_simp
                  exact New.refl _
                · intro a w9 hw ho hk
                  refine .inl ⟨by rfl, ?_⟩
                  have t2 := ho 2 rfl
                  dsimp at t2
                  try with_reducible replace hw := New.undrawN hw
                  try with_reducible replace hw := New.undraw hw
                  obtain ⟨c, f'⟩ := hw.rules
                  go_simp
                  exact New.refl _
                · intro a w9 hw ho hk
                  refine .inl ⟨by rfl, ?_⟩
                  have t120 : a.tmps[120]?.getD undef = .slice oa p.outputs.length oc := hk 13 120 (by kernel_rfl) rfl
                  have t121 : a.tmps[121]?.getD undef = .string f := hk 14 121 (by kernel_rfl) rfl
                  have t122 : a.tmps[122]?.getD undef = .string t := hk 15 122 (by kernel_rfl) rfl
                  go_simp
                  refine (sSwap_any _ p.outputs f t _ (Rd.new HP.out.outs (N3.trans hw)) hf.outsl).mono ?_; rintro e w2 ⟨r, rfl, hb, o⟩
                  have hws := hw.size; obtain ⟨a9, k9, rfl⟩ := own_slice o; exact ⟨hb, _, rfl, _, _, rfl, OwnSt.of o hws⟩
                · intro a w9 hw ho hk
                  refine .inl ⟨by rfl, ?_⟩
                  have t2 := ho 13 rfl
                  dsimp at t2
                  try with_reducible replace hw := New.undrawN hw
                  try with_reducible replace hw := New.undraw hw
                  obtain ⟨c, f'⟩ := hw.rules
                  go_simp
                  exact New.refl _
                · intro a w9 hw ho hk
                  refine .inl ⟨by rfl, ?_⟩
                  have t2 := ho 9 rfl
                  dsimp at t2
                  try with_reducible replace hw := New.undrawN hw
                  try with_reducible replace hw := New.undraw hw
                  obtain ⟨c, f'⟩ := hw.rules
                  go_simp
                  exact New.refl _
                · intro a w9 hw ho hk
                  refine .inl ⟨by rfl, ?_⟩
                  have t108 : a.tmps[108]?.getD undef = .string p.name := hk 1 108 (by kernel_rfl) rfl
                  obtain ⟨a113, k113, t113, r113⟩ : ∃ q k, (a.tmps[113]?.getD undef) = .slice q p.inputs.length k ∧ OwnSt w9 w3.heap.size (.slice q p.inputs.length k) p.inputs.length (p.inputs.map (swp f t)) := hk 6 113 (by kernel_rfl) rfl
                  obtain ⟨a118, k118, t118, r118⟩ : ∃ q k, (a.tmps[118]?.getD undef) = .slice q p.vars.length k ∧ OwnSt w9 w3.heap.size (.slice q p.vars.length k) p.vars.length (p.vars.map (swp f t)) := hk 11 118 (by kernel_rfl) rfl
                  obtain ⟨a123, k123, t123, r123⟩ : ∃ q k, (a.tmps[123]?.getD undef) = .slice q p.outputs.length k ∧ OwnSt w9 w3.heap.size (.slice q p.outputs.length k) p.outputs.length (p.outputs.map (swp f t)) := hk 16 123 (by kernel_rfl) rfl
                  have t124 : a.tmps[124]?.getD undef = .string (swp f t p.guard) := hk 17 124 (by kernel_rfl) rfl
                  have t125 : a.tmps[125]?.getD undef = .slice qa ps.length qc := hk 18 125 (by kernel_rfl) rfl
                  go_simp
                  first | exact ⟨New.refl _, _, rfl, _, _, _, _, _, _, rfl, r113, r118, r123⟩ | exact ⟨New.refl _, a113, k113, a118, k118, a123, k123, by simp, r113, r118, r123⟩
              intro w6 b6
              rintro _ rfl _ rfl _ rfl _ rfl _ rfl _ rfl _ ⟨a113, k113, rfl, r113⟩ _ rfl _ rfl _ rfl _ rfl _ ⟨a118, k118, rfl, r118⟩ _ rfl _ rfl _ rfl _ rfl _ ⟨a123, k123, rfl, r123⟩ _ rfl _ rfl _ ⟨a1, k1, a2, k2, a3, k3', rfl, q1, q2, q3⟩
              have KR6 := KR3.new b6
              obtain ⟨cR, fR⟩ := KR6.rules
              have hR6 := KR6.lt
              have N6 := N3.trans b6
              have QL := Lib.hid (fun q hq => own_new (hqr.out q hq) (nr3.trans b6))
              have OL6 := Lib.hid (own_new OL.out (nr3.trans b6))
              have Q1 := Lib.hid q1
              have Q2 := Lib.hid q2
              have Q3 := Lib.hid q3
              clear q1 q2 q3 r113 r118 r123
              simp only [RG.EndAll, List.nil_append, List.cons_append, List.length_cons, List.length_nil, Nat.zero_add, Nat.reduceAdd, List.take_succ_cons, List.take_zero, List.drop_succ_cons, List.drop_zero, RG.putAll, Act.put, List.setIfInBounds_toArray, List.set_cons_succ, List.set_cons_zero]
              go_wp2_with fail
              have hz3 := N3.size
              have hz9 := N9.size
              have hR9 := KR9.lt
              have A0 := New.set6 N6 (b := w.heap.size + 1) (by omega) (.string p.name) (.slice a1 p.inputs.length k1) (.slice a2 p.vars.length k2) (.slice a3 p.outputs.length k3') (.string (swp f t p.guard)) (.slice qa ps.length qc)
              have A1 := rd_map9 (g := swp f t) (xs := p.inputs) (own_set6 (b := w.heap.size + 1) (OwnSt.row Q1.out) (by omega) (.string p.name) (.slice a1 p.inputs.length k1) (.slice a2 p.vars.length k2) (.slice a3 p.outputs.length k3') (.string (swp f t p.guard)) (.slice qa ps.length qc))
              have A2 := rd_map9 (g := swp f t) (xs := p.vars) (own_set6 (b := w.heap.size + 1) (OwnSt.row Q2.out) (by omega) (.string p.name) (.slice a1 p.inputs.length k1) (.slice a2 p.vars.length k2) (.slice a3 p.outputs.length k3') (.string (swp f t p.guard)) (.slice qa ps.length qc))
              have A3 := rd_map9 (g := swp f t) (xs := p.outputs) (own_set6 (b := w.heap.size + 1) (OwnSt.row Q3.out) (by omega) (.string p.name) (.slice a1 p.inputs.length k1) (.slice a2 p.vars.length k2) (.slice a3 p.outputs.length k3') (.string (swp f t p.guard)) (.slice qa ps.length qc))
              have A4 := own_rd (own_set6 (b := w.heap.size + 1) OL6.out (by omega) (.string p.name) (.slice a1 p.inputs.length k1) (.slice a2 p.vars.length k2) (.slice a3 p.outputs.length k3') (.string (swp f t p.guard)) (.slice qa ps.length qc))
              have A5 := fun q hq => own_rd (own_set6 (b := w.heap.size + 1) (QL.out q hq) (by omega) (.string p.name) (.slice a1 p.inputs.length k1) (.slice a2 p.vars.length k2) (.slice a3 p.outputs.length k3') (.string (swp f t p.guard)) (.slice qa ps.length qc))
              have A6 := rdLn_of HQ.out hql.out A4 A5
              exact retRP_yes rfl A0 ⟨A1, A2, A3, A6⟩ (by simp [results, Tryd.results7, go_sem, cR, fR, hR6])
        · have hq' : (t.toList != f.toList) = true := by simp [bne, hq]
          have hmt : memS (allP p) t = false := by rcases hgd with h | h; rw [hq] at h; cases h; exact h
          have hit := idx_memN t (allP p)
          rw [hmt] at hit
          have HIXT := Lib.hid (fun (v : Value) (w0 : World) (h : RdS w0 v (allP p)) => HIX t v w0 h)
          generalize idx (fun y => t.toList == y.toList) (allP p) = IT at hit HIXT
          have hit2 : decide (0 ≤ IT) = false := by simpa using hit
          clear HIX hgd hmf hc hnt hmt
          go_enter Tryd.func7, Tryd.ntmps7
          go_wp2_with fail
          refine (HCODE.out _ (by repeat (first | with_reducible exact New.refl _ | with_reducible assumption | with_reducible refine New.drew ?_ | with_reducible refine New.drewN ?_ _ | with_reducible refine New.alloc ?_ _ | with_reducible refine New.setCell ?_ (by first | (simp; done) | (simp; omega) | omega) _ | with_reducible refine New.trans ?_ (by with_reducible assumption)))).mono ?_; rintro e w1 ⟨rfl, b1⟩
          try with_reducible replace b1 := New.undrawN b1
          try with_reducible replace b1 := New.undraw b1
          obtain ⟨c1, f1⟩ := b1.rules
          have z1 := b1.size
          try simp only [World.size_alloc, World.size_drew, World.heap_drewN, World.size_setCell] at z1
          have z1_0 : w.heap.size < w1.heap.size := by omega
          have z1_1 : w.heap.size + 1 < w1.heap.size := by omega
          go_wp2_with fail
          refine (HALL.out _ (by repeat (first | with_reducible exact New.refl _ | with_reducible assumption | with_reducible refine New.drew ?_ | with_reducible refine New.drewN ?_ _ | with_reducible refine New.alloc ?_ _ | with_reducible refine New.setCell ?_ (by first | (simp; done) | (simp; omega) | omega) _ | with_reducible refine New.trans ?_ (by with_reducible assumption)))).mono ?_; rintro e w2 ⟨r2, rfl, b2, o2⟩
          obtain ⟨c2, f2⟩ := b2.rules
          have z2 := b2.size
          try simp only [World.size_alloc, World.size_drew, World.heap_drewN, World.size_setCell] at z2
          have z2_0 : w.heap.size < w2.heap.size := by omega
          have z2_1 : w.heap.size + 1 < w2.heap.size := by omega
          go_wp2_with fail
          refine (HIXF.out _ _ (own_rd1 o2)).mono ?_; rintro e _ ⟨rfl, rfl⟩
          go_wp2_with fail
          refine (HNM.out _).mono ?_; rintro e w3 ⟨rfl, b3⟩
          try with_reducible replace b3 := New.undrawN b3
          try with_reducible replace b3 := New.undraw b3
          obtain ⟨c3, f3⟩ := b3.rules
          have z3 := b3.size
          try simp only [World.size_alloc, World.size_drew, World.heap_drewN, World.size_setCell] at z3
          have z3_0 : w.heap.size < w3.heap.size := by omega
          have z3_1 : w.heap.size + 1 < w3.heap.size := by omega
          go_wp2_with fail
          refine (HALL.out _ (by repeat (first | with_reducible exact New.refl _ | with_reducible assumption | with_reducible refine New.drew ?_ | with_reducible refine New.drewN ?_ _ | with_reducible refine New.alloc ?_ _ | with_reducible refine New.setCell ?_ (by first | (simp; done) | (simp; omega) | omega) _ | with_reducible refine New.trans ?_ (by with_reducible assumption)))).mono ?_; rintro e w9 ⟨r4, rfl, b4, o4⟩
          have N9 : New w w9 := by exact (by repeat (first | with_reducible exact New.refl _ | with_reducible assumption | with_reducible refine New.drew ?_ | with_reducible refine New.drewN ?_ _ | with_reducible refine New.alloc ?_ _ | with_reducible refine New.setCell ?_ (by first | (simp; done) | (simp; omega) | omega) _ | with_reducible refine New.trans ?_ (by with_reducible assumption)))
          have KP9 : Blk w9 w.heap.size #[.string p.name, .slice ia p.inputs.length ic, .slice va p.vars.length vc, .slice oa p.outputs.length oc, .string p.guard, .slice la ps.length cap] 29 := (((((Blk.alloc_at rfl).alloc _).new b1).new b2).new b3).new b4
          have KR9 : Blk w9 (w.heap.size + 1) #[.string ⟨#[]⟩, .slice none 0 0, .slice none 0 0, .slice none 0 0, .string ⟨#[]⟩, .slice none 0 0] 29 := ((((Blk.alloc_at (World.size_alloc _ _).symm).new b1).new b2).new b3).new b4
          obtain ⟨cP, fP⟩ := KP9.rules
          have hP9 := KP9.lt
          have RD4 := Lib.hid (own_rd1 o4)
          clear c1 f1 c2 f2 o2 c3 f3 o4 b1 b2 b3 b4
          go_wp2_with fail
          refine (HIXT.out _ _ RD4.out).mono ?_; rintro e _ ⟨rfl, rfl⟩
          go_wp2_with fail
          go_loopw [9, 10] (fun o i wr => ∃ (k : Nat) (qs : List LV), k ≤ ps.length ∧ i = .int .i64 k ∧ Hid (qs.map Prod.fst = (p.lines.take k).map (renL f t)) ∧ Hid (qs.length = k) ∧ New w9 wr ∧ wr.ownsRow w9.heap.size 55 2 o k (qs.flatMap encLV) ∧ Hid (∀ q ∈ qs, wr.ownsRow w9.heap.size 53 3 q.2 q.1.terms.length (q.1.terms.flatMap encTerm))) (fun _ i _ => ps.length - (intOf i).toNat)
          case atStart => exact ⟨0, [], Nat.zero_le _, rfl, Lib.hid rfl, Lib.hid rfl, (by repeat (first | with_reducible exact New.refl _ | with_reducible assumption | with_reducible refine New.drew ?_ | with_reducible refine New.drewN ?_ _ | with_reducible refine New.alloc ?_ _ | with_reducible refine New.setCell ?_ (by first | (simp; done) | (simp; omega) | omega) _ | with_reducible refine New.trans ?_ (by with_reducible assumption))), own_empty (Nat.le_refl _), Lib.hid (fun q hq => by cases hq)⟩
          case round =>
            obtain ⟨k, qs, hk, rfl, hqs, hql, hb, hown, hqr⟩ := hrel
            have hbz := hb.size
            have N0r := N9.trans hb
            have KPr := KP9.new hb
            have KRr := KR9.new hb
            obtain ⟨cP, fP⟩ := KPr.rules
            have hPr := KPr.lt
            have hRr := KRr.lt
            by_cases hlt : k < ps.length
            · obtain ⟨b, off, rfl, hbl, hx⟩ := HC.out k hlt
              obtain ⟨ea, ec, hev, hem, _⟩ := id (HT.out ps[k] (List.getElem_mem hlt))
              have HTK := Lib.hid (HT.out ps[k] (List.getElem_mem hlt))
              obtain ⟨hlp, hle⟩ := HLG.out k hlt
              have HRN := ren_next (f := f) (t := t) hlp
              rw [hle] at HRN
              have hx40 : ps[k].1.terms.length ≤ 40 := by have := H40.out _ (List.getElem_mem hlp); rwa [hle] at this
              clear hle
              rw [show encLV ps[k] = [.string ps[k].1.target, ps[k].2] from rfl, hev] at hx
              rw [hev] at HTK
              have x0 := (N0r.cell hbl).trans (hx 0 _ (by omega) rfl)
              have x1 := (N0r.cell hbl).trans (hx 1 _ (by omega) rfl)
              rw [Nat.add_zero] at x0
              clear hev hx
              have hbr : b < wr.heap.size := by omega
              generalize ps[k].1 = X at *
              replace HRN := Lib.hid HRN
              replace hown := Lib.hid hown
              have own0 : (wr.alloc (.cells #[] 53)).ownsRow wr.heap.size 53 3 (.slice (some ⟨wr.heap.size, 0, none⟩) 0 0) 0 [] := own_empty (Nat.le_refl _)
              obtain ⟨i0, hi, hz0, hz1, hz2⟩ := info_parts infoTerm
              go_wp2_with (first | (at_builtin; refine wpList_append_rd rfl _ _ 46 rfl (wr.heap.size) 53 i0 (Value.agg #[.int .i64 0, .string ⟨#[]⟩, .int .i64 0]) 3 32 Tryd.underlying46 hi hz0 hz1 hz2 rfl (by decide) _ _ _ rfl (own0) _ _ ((X.terms).flatMap encTerm) rfl (Rd.new HTK.out (N0r.alloc _)) (flat_length encTerm 3 encTerm_len _) (encT_one _) (by unfold maxLen; omega) (by omega) (by first | (simp; done) | (simp; omega) | omega) ?_; intro va wa howna hgra))
              have ba := New.grown (show New wr _ by exact (by repeat (first | with_reducible exact New.refl _ | with_reducible assumption | with_reducible refine New.drew ?_ | with_reducible refine New.drewN ?_ _ | with_reducible refine New.alloc ?_ _ | with_reducible refine New.setCell ?_ (by first | (simp; done) | (simp; omega) | omega) _ | with_reducible refine New.trans ?_ (by with_reducible assumption)))) hgra (fun q hq => by have := (own_block_lt own0 q hq).1; simpa using this)
              simp only [Nat.zero_add, List.nil_append] at howna
              obtain ⟨ta, tc, rfl⟩ := own_slice howna
              have own1 := Lib.hid howna
              clear own0 hgra howna cP fP hi hz0 hz1 hz2
              go_wp2_with fail
              go_loopw [12] (fun i w2 => ∃ j : Nat, j ≤ X.terms.length ∧ i = .int .i64 j ∧ New wr w2 ∧ w2.ownsRow wr.heap.size 53 3 (.slice ta X.terms.length tc) X.terms.length ((mixR f t X.terms j).flatMap encTerm)) (fun i _ => X.terms.length - (intOf i).toNat)
              case atStart => exact ⟨0, Nat.zero_le _, rfl, ba, by rw [mixR_zero]; exact own1.out⟩
              case round =>
                obtain ⟨j, hj, rfl, hb2, hown2⟩ := hrel
                clear own1 ba
                rename World => w2
                have hbz2 := hb2.size
                by_cases hlj : j < X.terms.length
                · obtain ⟨g, rfl, hgw, hg2⟩ := one_form hown2 (by omega)
                  have d1 : w2.cell? ⟨g, j * 3 + 1, none⟩ = some (.string X.terms[j].name) := by rw [hown2.cellAt _ (by omega)]; exact mixR_cell hlj
                  have HN := Lib.hid (mixR_name (f := f) (t := t) hlj)
                  generalize X.terms[j].name = nm at *
                  go_wp2_with fail
                  refine (sSwap1_any _ nm f t _ (by simp) (by rw [cell_alloc_new _ _ _ _ _ rfl]; rfl)).mono ?_
                  rintro e w3 ⟨g3, c3, rfl, b3, h3a, h3b, k3⟩
                  have own3 := own_new (hown2.alloc _) b3
                  have f3 := own3.frozenAt (j * 3 + 1)
                  have d3 := (b3.cell (o := j * 3 + 1) (by simp; omega)).trans ((((New.refl w2).alloc (.cells #[.string nm] 9)).cell (o := j * 3 + 1) hg2).trans d1)
                  have hg3 : g < w3.heap.size := by have := b3.size; simp at this; omega
                  go_wp2_with fail
                  go_roundw
                  case rel =>
                    have h1 := (own3.stored (j * 3 + 1) (.string (swp f t nm))).1
                    rw [HN.out] at h1
                    exact ⟨j + 1, by omega, by go_num, ((hb2.alloc _).trans b3).setCell (p := ⟨g, j * 3 + 1, none⟩) hgw _, h1⟩
                  case measure => simp [intOf]; omega
                · obtain rfl : j = X.terms.length := by omega
                  rw [mixR_all] at hown2
                  have N02 := N0r.trans hb2
                  have KP2 := KPr.new hb2
                  obtain ⟨cP2, fP2⟩ := KP2.rules
                  have hP2 := KP2.lt
                  have hb2' : b < w2.heap.size := by omega
                  have y0 := (hb2.cell hbr).trans x0
                  have OT := Lib.hid hown2
                  have OL := Lib.hid (own_new hown.out hb2)
                  have QR := Lib.hid (fun q hq => own_new (hqr.out q hq) hb2)
                  obtain ⟨TG, hTG⟩ : ∃ TG, X.target = TG := ⟨_, rfl⟩
                  rw [hTG] at y0 x0
                  have hXT := Lib.hid (show renL f t X = ⟨swp f t TG, X.terms.map (renT f t)⟩ by rw [renL, hTG])
                  clear hown2 hTG
                  go_wp2_with fail
                  refine (sSwap1_any _ TG f t _ (by simp) (by rw [cell_alloc_new _ _ _ _ _ rfl]; rfl)).mono ?_
                  rintro e w3 ⟨g3, c3, rfl, b3, h3a, h3b, k3⟩
                  have n23 : New w2 w3 := ((New.refl w2).alloc _).trans b3
                  have own3 := own_new OL.out n23
                  have ownT3 := own_new OT.out n23
                  have z3 := (hb.trans (hb2.trans n23)).size
                  clear cP2 fP2 y0
                  obtain ⟨i0, hi, hz0, hz1, hz2⟩ := info_parts infoLineQ
                  go_wp2_with (first | (at_builtin; refine wpList_append_own _ rfl _ _ 27 rfl (w9.heap.size) 55 i0 (Value.agg #[.string ⟨#[]⟩, .slice none 0 0]) 2 40 Tryd.underlying27 hi hz0 hz1 hz2 rfl (by decide) _ _ _ rfl (own3.alloc _) ⟨w3.heap.size, 0, none⟩ 1 1 [.string (swp f t TG), .slice ta X.terms.length tc] rfl rfl (fun j u hj => alloc_row (by first | rfl | simp) j u hj) (by intro u hu; simp at hu; rcases hu with rfl | rfl <;> rfl) (by unfold maxLen; omega) (by omega) (by first | (simp; done) | (simp; omega) | omega) ?_; intro va wa howna hgra _))
                  have N93 := (hb.trans (hb2.trans n23)).alloc (.cells #[.string (swp f t TG), .slice ta X.terms.length tc] 55)
                  have bw := New.grown N93 hgra (fun q hq => (own_block_lt own3 q hq).1)
                  have ownTa := own_grK (ownT3.alloc (.cells #[.string (swp f t TG), .slice ta X.terms.length tc] 55)) hgra (fun i j hi hj => own_ne_ownK own3 ownT3 (by decide) i j hi hj)
                  have QA := Lib.hid (fun (q : LV) (hq : q ∈ qs) => (by
                    have h1 := (own_new (QR.out q hq) n23).alloc (.cells #[.string (swp f t TG), .slice ta X.terms.length tc] 55)
                    exact own_grK h1 hgra (fun i j hi hj => own_ne_ownK (own3.alloc (.cells #[.string (swp f t TG), .slice ta X.terms.length tc] 55)) h1 (by decide) i j hi hj)))
                  go_roundw
                  case rel =>
                    refine ⟨k + 1, qs ++ [(⟨swp f t TG, X.terms.map (renT f t)⟩, .slice ta X.terms.length tc)], by omega, by go_num, Lib.hid (by rw [HRN.out, List.map_append, hqs.out, hXT.out]; rfl), Lib.hid (by rw [List.length_append, hql.out]; rfl), bw, by rw [flatL_app]; exact howna, Lib.hid (fun q hq => ?_)⟩
                    rcases List.mem_append.1 hq with hq | hq
                    · exact QA.out q hq
                    · obtain rfl := List.mem_singleton.1 hq
                      dsimp only
                      rw [List.length_map]; exact own_base ownTa (by omega)
                  case measure => simp [intOf]; omega
            · obtain rfl : k = ps.length := by omega
              have HQ : Hid (qs.map Prod.fst = p.lines.map (renL f t)) := Lib.hid (by rw [hqs.out, ← HPL.out, List.take_length])
              obtain ⟨qa, qc, rfl⟩ := own_slice hown
              have OL := Lib.hid hown
              clear hown hqs
              go_wp2_with fail
              refine (sSwap1_any _ p.guard f t _ (by simp) (by rw [cell_alloc_new _ _ _ _ _ rfl]; rfl)).mono ?_
              rintro e w3 ⟨g3, c3, rfl, b3, h3a, h3b, k3⟩
              have nr3 : New wr w3 := ((New.refl wr).alloc _).trans b3
              have KP3 := KPr.new nr3
              have KR3 := KRr.new nr3
              have N3 := N0r.trans nr3
              have hP3 := KP3.lt
              have hR3 := KR3.lt
              clear cP fP KPr KRr hPr hRr
              obtain ⟨cP, fP⟩ := KP3.rules
              go_wp2_with fail
              refine RG.wp_facts [fun X _ => X = .pointer (some ⟨w.heap.size, 0, none⟩), fun X _ => X = .string p.name, fun X _ => X = .pointer (some ⟨w.heap.size, 1, none⟩), fun X _ => X = .slice ia p.inputs.length ic, fun X _ => X = .string f, fun X _ => X = .string t, fun X W' => ∃ q k, X = .slice q p.inputs.length k ∧ OwnSt W' w3.heap.size (.slice q p.inputs.length k) p.inputs.length (p.inputs.map (swp f t)), fun X _ => X = .pointer (some ⟨w.heap.size, 2, none⟩), fun X _ => X = .slice va p.vars.length vc, fun X _ => X = .string f, fun X _ => X = .string t, fun X W' => ∃ q k, X = .slice q p.vars.length k ∧ OwnSt W' w3.heap.size (.slice q p.vars.length k) p.vars.length (p.vars.map (swp f t)), fun X _ => X = .pointer (some ⟨w.heap.size, 3, none⟩), fun X _ => X = .slice oa p.outputs.length oc, fun X _ => X = .string f, fun X _ => X = .string t, fun X W' => ∃ q k, X = .slice q p.outputs.length k ∧ OwnSt W' w3.heap.size (.slice q p.outputs.length k) p.outputs.length (p.outputs.map (swp f t)), fun X _ => X = .string (swp f t p.guard), fun X _ => X = .slice qa ps.length qc, fun X W' => ∃ a1 k1 a2 k2 a3 k3, X = .agg #[.string p.name, .slice a1 p.inputs.length k1, .slice a2 p.vars.length k2, .slice a3 p.outputs.length k3, .string (swp f t p.guard), .slice qa ps.length qc] ∧ OwnSt W' w3.heap.size (.slice a1 p.inputs.length k1) p.inputs.length (p.inputs.map (swp f t)) ∧ OwnSt W' w3.heap.size (.slice a2 p.vars.length k2) p.vars.length (p.vars.map (swp f t)) ∧ OwnSt W' w3.heap.size (.slice a3 p.outputs.length k3) p.outputs.length (p.outputs.map (swp f t))] (by kernel_rfl) (by kernel_rfl) ⟨RG.stable_eq _, RG.stable_eq _, RG.stable_eq _, RG.stable_eq _, RG.stable_eq _, RG.stable_eq _, fun X w0 w1 hn ⟨a113, k113, t113, r113⟩ => ⟨a113, k113, t113, OwnSt.new r113 hn⟩, RG.stable_eq _, RG.stable_eq _, RG.stable_eq _, RG.stable_eq _, fun X w0 w1 hn ⟨a118, k118, t118, r118⟩ => ⟨a118, k118, t118, OwnSt.new r118 hn⟩, RG.stable_eq _, RG.stable_eq _, RG.stable_eq _, RG.stable_eq _, fun X w0 w1 hn ⟨a123, k123, t123, r123⟩ => ⟨a123, k123, t123, OwnSt.new r123 hn⟩, RG.stable_eq _, RG.stable_eq _, fun X w0 w1 hn ⟨a1, k1, a2, k2, a3, k3', t126, q1, q2, q3⟩ => ⟨a1, k1, a2, k2, a3, k3', t126, OwnSt.new q1 hn, OwnSt.new q2 hn, OwnSt.new q3 hn⟩, trivial⟩ ?_ ?_
              · refine ⟨?_, ?_, ?_, ?_, ?_, ?_, ?_, ?_, ?_, ?_, ?_, ?_, ?_, ?_, ?_, ?_, ?_, ?_, ?_, ?_, trivial⟩
                · intro a w9 hw ho hk
                  refine .inl ⟨by rfl, ?_⟩
                  have t2 := ho 3 rfl
                  dsimp at t2
                  try with_reducible replace hw := New.undrawN hw
                  try with_reducible replace hw := New.undraw hw
                  obtain ⟨c, f'⟩ := hw.rules
                  go_simp
                  exact New.refl _
                · intro a w9 hw ho hk
                  refine .inl ⟨by rfl, ?_⟩
                  have t107 : a.tmps[107]?.getD undef = .pointer (some ⟨w.heap.size, 0, none⟩) := hk 0 107 (by kernel_rfl) rfl
                  try with_reducible replace hw := New.undrawN hw
                  try with_reducible replace hw := New.undraw hw
                  obtain ⟨c, f'⟩ := hw.rules
                  go_simp
                  exact New.refl _
                · intro a w9 hw ho hk
                  refine .inl ⟨by rfl, ?_⟩
                  have t2 := ho 3 rfl
                  dsimp at t2
                  try with_reducible replace hw := New.undrawN hw
                  try with_reducible replace hw := New.undraw hw
                  obtain ⟨c, f'⟩ := hw.rules
                  go_simp
                  exact New.refl _
                · intro a w9 hw ho hk
                  refine .inl ⟨by rfl, ?_⟩
                  have t109 : a.tmps[109]?.getD undef = .pointer (some ⟨w.heap.size, 1, none⟩) := hk 2 109 (by kernel_rfl) rfl
                  try with_reducible replace hw := New.undrawN hw
                  try with_reducible replace hw := New.undraw hw
                  obtain ⟨c, f'⟩ := hw.rules
                  go_simp
                  exact New.refl _
                · intro a w9 hw ho hk
                  refine .inl ⟨by rfl, ?_⟩
                  have t2 := ho 1 rfl
                  dsimp at t2
                  try with_reducible replace hw := New.undrawN hw
                  try with_reducible replace hw := New.undraw hw
                  obtain ⟨c, f'⟩ := hw.rules
                  go_simp
                  exact New.refl _
                · intro a w9 hw ho hk
                  refine .inl ⟨by rfl, ?_⟩
                  have t2 := ho 2 rfl
                  dsimp at t2
                  try with_reducible replace hw := New.undrawN hw
                  try with_reducible replace hw := New.undraw hw
                  obtain ⟨c, f'⟩ := hw.rules
                  go_simp
                  exact New.refl _
                · intro a w9 hw ho hk
                  refine .inl ⟨by rfl, ?_⟩
                  have t110 : a.tmps[110]?.getD undef = .slice ia p.inputs.length ic := hk 3 110 (by kernel_rfl) rfl
                  have t111 : a.tmps[111]?.getD undef = .string f := hk 4 111 (by kernel_rfl) rfl
                  have t112 : a.tmps[112]?.getD undef = .string t := hk 5 112 (by kernel_rfl) rfl
                  go_simp
                  refine (sSwap_any _ p.inputs f t _ (Rd.new HP.out.ins (N3.trans hw)) hf.insl).mono ?_; rintro e w2 ⟨r, rfl, hb, o⟩
                  have hws := hw.size; obtain ⟨a9, k9, rfl⟩ := own_slice o; exact ⟨hb, _, rfl, _, _, rfl, OwnSt.of o hws⟩
                · intro a w9 hw ho hk
                  refine .inl ⟨by rfl, ?_⟩
                  have t2 := ho 3 rfl
                  dsimp at t2
                  try with_reducible replace hw := New.undrawN hw
                  try with_reducible replace hw := New.undraw hw
                  obtain ⟨c, f'⟩ := hw.rules
                  go_simp
                  exact New.refl _
                · intro a w9 hw ho hk
                  refine .inl ⟨by rfl, ?_⟩
                  have t114 : a.tmps[114]?.getD undef = .pointer (some ⟨w.heap.size, 2, none⟩) := hk 7 114 (by kernel_rfl) rfl
                  try with_reducible replace hw := New.undrawN hw
                  try with_reducible replace hw := New.undraw hw
                  obtain ⟨c, f'⟩ := hw.rules
                  go_simp
                  exact New.refl _
                · intro a w9 hw ho hk
                  refine .inl ⟨by rfl, ?_⟩
                  have t2 := ho 1 rfl
                  dsimp at t2
                  try with_reducible replace hw := New.undrawN hw
                  try with_reducible replace hw := New.undraw hw
                  obtain ⟨c, f'⟩ := hw.rules
                  go_simp
                  exact New.refl _
                · intro a w9 hw ho hk
                  refine .inl ⟨by rfl, ?_⟩
                  have t2 := ho 2 rfl
                  dsimp at t2
                  try with_reducible replace hw := New.undrawN hw
                  try with_reducible replace hw := New.undraw hw
                  obtain ⟨c, f'⟩ := hw.rules
                  go_simp
                  exact New.refl _
                · intro a w9 hw ho hk
                  refine .inl ⟨by rfl, ?_⟩
                  have t115 : a.tmps[115]?.getD undef = .slice va p.vars.length vc := hk 8 115 (by kernel_rfl) rfl
                  have t116 : a.tmps[116]?.getD undef = .string f := hk 9 116 (by kernel_rfl) rfl
                  have t117 : a.tmps[117]?.getD undef = .string t := hk 10 117 (by kernel_rfl) rfl
                  go_simp
                  refine (sSwap_any _ p.vars f t _ (Rd.new HP.out.vars (N3.trans hw)) hf.varsl).mono ?_; rintro e w2 ⟨r, rfl, hb, o⟩
                  have hws := hw.size; obtain ⟨a9, k9, rfl⟩ := own_slice o; exact ⟨hb, _, rfl, _, _, rfl, OwnSt.of o hws⟩
                · intro a w9 hw ho hk
                  refine .inl ⟨by rfl, ?_⟩
                  have t2 := ho 3 rfl
                  dsimp at t2
                  try with_reducible replace hw := New.undrawN hw
                  try with_reducible replace hw := New.undraw hw
                  obtain ⟨c, f'⟩ := hw.rules
                  go_simp
                  exact New.refl _
                · intro a w9 hw ho hk
                  refine .inl ⟨by rfl, ?_⟩
                  have t119 : a.tmps[119]?.getD undef = .pointer (some ⟨w.heap.size, 3, none⟩) := hk 12 119 (by kernel_rfl) rfl
                  try with_reducible replace hw := New.undrawN hw
                  try with_reducible replace hw := New.undraw hw
                  obtain ⟨c, f'⟩ := hw.rules
                  go_simp
                  exact New.refl _
                · intro a w9 hw ho hk
                  refine .inl ⟨by rfl, ?_⟩
                  have t2 := ho 1 rfl
                  dsimp at t2
                  try with_reducible replace hw := New.undrawN hw
                  try with_reducible replace hw := New.undraw hw
                  obtain ⟨c, f'⟩ := hw.rules
                  go_simp
                  exact New.refl _
                · intro a w9 hw ho hk
                  refine .inl ⟨by rfl, ?_⟩
                  have t2 := ho 2 rfl
                  dsimp at t2
                  try with_reducible replace hw := New.undrawN hw
                  try with_reducible replace hw := New.undraw hw
                  obtain ⟨c, f'⟩ := hw.rules
                  go_simp
                  exact New.refl _
                · intro a w9 hw ho hk
                  refine .inl ⟨by rfl, ?_⟩
                  have t120 : a.tmps[120]?.getD undef = .slice oa p.outputs.length oc := hk 13 120 (by kernel_rfl) rfl
                  have t121 : a.tmps[121]?.getD undef = .string f := hk 14 121 (by kernel_rfl) rfl
                  have t122 : a.tmps[122]?.getD undef = .string t := hk 15 122 (by kernel_rfl) rfl
                  go_simp
                  refine (sSwap_any _ p.outputs f t _ (Rd.new HP.out.outs (N3.trans hw)) hf.outsl).mono ?_; rintro e w2 ⟨r, rfl, hb, o⟩
                  have hws := hw.size; obtain ⟨a9, k9, rfl⟩ := own_slice o; exact ⟨hb, _, rfl, _, _, rfl, OwnSt.of o hws⟩
                · intro a w9 hw ho hk
                  refine .inl ⟨by rfl, ?_⟩
                  have t2 := ho 13 rfl
                  dsimp at t2
                  try with_reducible replace hw := New.undrawN hw
                  try with_reducible replace hw := New.undraw hw
                  obtain ⟨c, f'⟩ := hw.rules
                  go_simp
                  exact New.refl _
                · intro a w9 hw ho hk
                  refine .inl ⟨by rfl, ?_⟩
                  have t2 := ho 9 rfl
                  dsimp at t2
                  try with_reducible replace hw := New.undrawN hw
                  try with_reducible replace hw := New.undraw hw
                  obtain ⟨c, f'⟩ := hw.rules
                  go_simp
                  exact New.refl _
                · intro a w9 hw ho hk
                  refine .inl ⟨by rfl, ?_⟩
                  have t108 : a.tmps[108]?.getD undef = .string p.name := hk 1 108 (by kernel_rfl) rfl
                  obtain ⟨a113, k113, t113, r113⟩ : ∃ q k, (a.tmps[113]?.getD undef) = .slice q p.inputs.length k ∧ OwnSt w9 w3.heap.size (.slice q p.inputs.length k) p.inputs.length (p.inputs.map (swp f t)) := hk 6 113 (by kernel_rfl) rfl
                  obtain ⟨a118, k118, t118, r118⟩ : ∃ q k, (a.tmps[118]?.getD undef) = .slice q p.vars.length k ∧ OwnSt w9 w3.heap.size (.slice q p.vars.length k) p.vars.length (p.vars.map (swp f t)) := hk 11 118 (by kernel_rfl) rfl
                  obtain ⟨a123, k123, t123, r123⟩ : ∃ q k, (a.tmps[123]?.getD undef) = .slice q p.outputs.length k ∧ OwnSt w9 w3.heap.size (.slice q p.outputs.length k) p.outputs.length (p.outputs.map (swp f t)) := hk 16 123 (by kernel_rfl) rfl
                  have t124 : a.tmps[124]?.getD undef = .string (swp f t p.guard) := hk 17 124 (by kernel_rfl) rfl
                  have t125 : a.tmps[125]?.getD undef = .slice qa ps.length qc := hk 18 125 (by kernel_rfl) rfl
                  go_simp
                  first | exact ⟨New.refl _, _, rfl, _, _, _, _, _, _, rfl, r113, r118, r123⟩ | exact ⟨New.refl _, a113, k113, a118, k118, a123, k123, by simp, r113, r118, r123⟩
              intro w6 b6
              rintro _ rfl _ rfl _ rfl _ rfl _ rfl _ rfl _ ⟨a113, k113, rfl, r113⟩ _ rfl _ rfl _ rfl _ rfl _ ⟨a118, k118, rfl, r118⟩ _ rfl _ rfl _ rfl _ rfl _ ⟨a123, k123, rfl, r123⟩ _ rfl _ rfl _ ⟨a1, k1, a2, k2, a3, k3', rfl, q1, q2, q3⟩
              have KR6 := KR3.new b6
              obtain ⟨cR, fR⟩ := KR6.rules
              have hR6 := KR6.lt
              have N6 := N3.trans b6
              have QL := Lib.hid (fun q hq => own_new (hqr.out q hq) (nr3.trans b6))
              have OL6 := Lib.hid (own_new OL.out (nr3.trans b6))
              have Q1 := Lib.hid q1
              have Q2 := Lib.hid q2
              have Q3 := Lib.hid q3
              clear q1 q2 q3 r113 r118 r123
              simp only [RG.EndAll, List.nil_append, List.cons_append, List.length_cons, List.length_nil, Nat.zero_add, Nat.reduceAdd, List.take_succ_cons, List.take_zero, List.drop_succ_cons, List.drop_zero, RG.putAll, Act.put, List.setIfInBounds_toArray, List.set_cons_succ, List.set_cons_zero]
              go_wp2_with fail
              have hz3 := N3.size
              have hz9 := N9.size
              have hR9 := KR9.lt
              have A0 := New.set6 N6 (b := w.heap.size + 1) (by omega) (.string p.name) (.slice a1 p.inputs.length k1) (.slice a2 p.vars.length k2) (.slice a3 p.outputs.length k3') (.string (swp f t p.guard)) (.slice qa ps.length qc)
              have A1 := rd_map9 (g := swp f t) (xs := p.inputs) (own_set6 (b := w.heap.size + 1) (OwnSt.row Q1.out) (by omega) (.string p.name) (.slice a1 p.inputs.length k1) (.slice a2 p.vars.length k2) (.slice a3 p.outputs.length k3') (.string (swp f t p.guard)) (.slice qa ps.length qc))
              have A2 := rd_map9 (g := swp f t) (xs := p.vars) (own_set6 (b := w.heap.size + 1) (OwnSt.row Q2.out) (by omega) (.string p.name) (.slice a1 p.inputs.length k1) (.slice a2 p.vars.length k2) (.slice a3 p.outputs.length k3') (.string (swp f t p.guard)) (.slice qa ps.length qc))
              have A3 := rd_map9 (g := swp f t) (xs := p.outputs) (own_set6 (b := w.heap.size + 1) (OwnSt.row Q3.out) (by omega) (.string p.name) (.slice a1 p.inputs.length k1) (.slice a2 p.vars.length k2) (.slice a3 p.outputs.length k3') (.string (swp f t p.guard)) (.slice qa ps.length qc))
              have A4 := own_rd (own_set6 (b := w.heap.size + 1) OL6.out (by omega) (.string p.name) (.slice a1 p.inputs.length k1) (.slice a2 p.vars.length k2) (.slice a3 p.outputs.length k3') (.string (swp f t p.guard)) (.slice qa ps.length qc))
              have A5 := fun q hq => own_rd (own_set6 (b := w.heap.size + 1) (QL.out q hq) (by omega) (.string p.name) (.slice a1 p.inputs.length k1) (.slice a2 p.vars.length k2) (.slice a3 p.outputs.length k3') (.string (swp f t p.guard)) (.slice qa ps.length qc))
              have A6 := rdLn_of HQ.out hql.out A4 A5
              exact retRP_yes rfl A0 ⟨A1, A2, A3, A6⟩ (by simp [results, Tryd.results7, go_sem, cR, fR, hR6])
      · rw [renCode_2 hc hmf hgood]
        have hcases : isNameB t = false ∨ (isNameB t = true ∧ (t.toList == f.toList) = false ∧ memS (allP p) t = true) := by
          rcases Bool.eq_false_or_eq_true (isNameB t) with h | h
          · right
            refine ⟨h, ?_, ?_⟩
            · rcases Bool.eq_false_or_eq_true (t.toList == f.toList) with h' | h'
              · exact absurd ⟨h, .inl h'⟩ hgood
              · exact h'
            · rcases Bool.eq_false_or_eq_true (memS (allP p) t) with h' | h'
              · exact h'
              · exact absurd ⟨h, .inr h'⟩ hgood
          · exact .inl h
        clear hgood
        rcases hcases with hnt | ⟨hnt, hq, hmt⟩
        · rw [hnt] at HNM
          replace HNM := Lib.hid HNM
          clear HIX hmf hc hnt
          go_enter Tryd.func7, Tryd.ntmps7
          go_wp2_with fail
          refine (HCODE.out _ (by repeat (first | with_reducible exact New.refl _ | with_reducible assumption | with_reducible refine New.drew ?_ | with_reducible refine New.drewN ?_ _ | with_reducible refine New.alloc ?_ _ | with_reducible refine New.setCell ?_ (by first | (simp; done) | (simp; omega) | omega) _ | with_reducible refine New.trans ?_ (by with_reducible assumption)))).mono ?_; rintro e w1 ⟨rfl, b1⟩
          try with_reducible replace b1 := New.undrawN b1
          try with_reducible replace b1 := New.undraw b1
          obtain ⟨c1, f1⟩ := b1.rules
          have z1 := b1.size
          try simp only [World.size_alloc, World.size_drew, World.heap_drewN, World.size_setCell] at z1
          have z1_0 : w.heap.size < w1.heap.size := by omega
          have z1_1 : w.heap.size + 1 < w1.heap.size := by omega
          go_wp2_with fail
          refine (HALL.out _ (by repeat (first | with_reducible exact New.refl _ | with_reducible assumption | with_reducible refine New.drew ?_ | with_reducible refine New.drewN ?_ _ | with_reducible refine New.alloc ?_ _ | with_reducible refine New.setCell ?_ (by first | (simp; done) | (simp; omega) | omega) _ | with_reducible refine New.trans ?_ (by with_reducible assumption)))).mono ?_; rintro e w2 ⟨r2, rfl, b2, o2⟩
          obtain ⟨c2, f2⟩ := b2.rules
          have z2 := b2.size
          try simp only [World.size_alloc, World.size_drew, World.heap_drewN, World.size_setCell] at z2
          have z2_0 : w.heap.size < w2.heap.size := by omega
          have z2_1 : w.heap.size + 1 < w2.heap.size := by omega
          go_wp2_with fail
          refine (HIXF.out _ _ (own_rd1 o2)).mono ?_; rintro e _ ⟨rfl, rfl⟩
          go_wp2_with fail
          refine (HNM.out _).mono ?_; rintro e w3 ⟨rfl, b3⟩
          try with_reducible replace b3 := New.undrawN b3
          try with_reducible replace b3 := New.undraw b3
          obtain ⟨c3, f3⟩ := b3.rules
          have z3 := b3.size
          try simp only [World.size_alloc, World.size_drew, World.heap_drewN, World.size_setCell] at z3
          have z3_0 : w.heap.size < w3.heap.size := by omega
          have z3_1 : w.heap.size + 1 < w3.heap.size := by omega
          go_wp2_with fail
          exact retRP_no rfl (by repeat (first | with_reducible exact New.refl _ | with_reducible assumption | with_reducible refine New.drew ?_ | with_reducible refine New.drewN ?_ _ | with_reducible refine New.alloc ?_ _ | with_reducible refine New.setCell ?_ (by first | (simp; done) | (simp; omega) | omega) _ | with_reducible refine New.trans ?_ (by with_reducible assumption))) (by simp [results, Tryd.results7, go_sem, c3, f3, c2, f2, c1, f1, z1_0, z1_1, z2_0, z2_1, z3_0, z3_1])
        · rw [hnt] at HNM
          replace HNM := Lib.hid HNM
          have hq' : (t.toList != f.toList) = true := by simp [bne, hq]
          have hit := idx_memN t (allP p)
          rw [hmt] at hit
          have HIXT := Lib.hid (fun (v : Value) (w0 : World) (h : RdS w0 v (allP p)) => HIX t v w0 h)
          generalize idx (fun y => t.toList == y.toList) (allP p) = IT at hit HIXT
          have hit2 : decide (0 ≤ IT) = true := by simpa using hit
          clear HIX hmf hc hnt hmt
          go_enter Tryd.func7, Tryd.ntmps7
          go_wp2_with fail
          refine (HCODE.out _ (by repeat (first | with_reducible exact New.refl _ | with_reducible assumption | with_reducible refine New.drew ?_ | with_reducible refine New.drewN ?_ _ | with_reducible refine New.alloc ?_ _ | with_reducible refine New.setCell ?_ (by first | (simp; done) | (simp; omega) | omega) _ | with_reducible refine New.trans ?_ (by with_reducible assumption)))).mono ?_; rintro e w1 ⟨rfl, b1⟩
          try with_reducible replace b1 := New.undrawN b1
          try with_reducible replace b1 := New.undraw b1
          obtain ⟨c1, f1⟩ := b1.rules
          have z1 := b1.size
          try simp only [World.size_alloc, World.size_drew, World.heap_drewN, World.size_setCell] at z1
          have z1_0 : w.heap.size < w1.heap.size := by omega
          have z1_1 : w.heap.size + 1 < w1.heap.size := by omega
          go_wp2_with fail
          refine (HALL.out _ (by repeat (first | with_reducible exact New.refl _ | with_reducible assumption | with_reducible refine New.drew ?_ | with_reducible refine New.drewN ?_ _ | with_reducible refine New.alloc ?_ _ | with_reducible refine New.setCell ?_ (by first | (simp; done) | (simp; omega) | omega) _ | with_reducible refine New.trans ?_ (by with_reducible assumption)))).mono ?_; rintro e w2 ⟨r2, rfl, b2, o2⟩
          obtain ⟨c2, f2⟩ := b2.rules
          have z2 := b2.size
          try simp only [World.size_alloc, World.size_drew, World.heap_drewN, World.size_setCell] at z2
          have z2_0 : w.heap.size < w2.heap.size := by omega
          have z2_1 : w.heap.size + 1 < w2.heap.size := by omega
          go_wp2_with fail
          refine (HIXF.out _ _ (own_rd1 o2)).mono ?_; rintro e _ ⟨rfl, rfl⟩
          go_wp2_with fail
          refine (HNM.out _).mono ?_; rintro e w3 ⟨rfl, b3⟩
          try with_reducible replace b3 := New.undrawN b3
          try with_reducible replace b3 := New.undraw b3
          obtain ⟨c3, f3⟩ := b3.rules
          have z3 := b3.size
          try simp only [World.size_alloc, World.size_drew, World.heap_drewN, World.size_setCell] at z3
          have z3_0 : w.heap.size < w3.heap.size := by omega
          have z3_1 : w.heap.size + 1 < w3.heap.size := by omega
          go_wp2_with fail
          refine (HALL.out _ (by repeat (first | with_reducible exact New.refl _ | with_reducible assumption | with_reducible refine New.drew ?_ | with_reducible refine New.drewN ?_ _ | with_reducible refine New.alloc ?_ _ | with_reducible refine New.setCell ?_ (by first | (simp; done) | (simp; omega) | omega) _ | with_reducible refine New.trans ?_ (by with_reducible assumption)))).mono ?_; rintro e w4 ⟨r4, rfl, b4, o4⟩
          obtain ⟨c4, f4⟩ := b4.rules
          have z4 := b4.size
          try simp only [World.size_alloc, World.size_drew, World.heap_drewN, World.size_setCell] at z4
          have z4_0 : w.heap.size < w4.heap.size := by omega
          have z4_1 : w.heap.size + 1 < w4.heap.size := by omega
          go_wp2_with fail
          refine (HIXT.out _ _ (own_rd1 o4)).mono ?_; rintro e _ ⟨rfl, rfl⟩
          go_wp2_with fail
          exact retRP_no rfl (by repeat (first | with_reducible exact New.refl _ | with_reducible assumption | with_reducible refine New.drew ?_ | with_reducible refine New.drewN ?_ _ | with_reducible refine New.alloc ?_ _ | with_reducible refine New.setCell ?_ (by first | (simp; done) | (simp; omega) | omega) _ | with_reducible refine New.trans ?_ (by with_reducible assumption))) (by simp [results, Tryd.results7, go_sem, c4, f4, c3, f3, c2, f2, c1, f1, z1_0, z1_1, z2_0, z2_1, z3_0, z3_1, z4_0, z4_1])
    · rw [renCode_4 hc hmf]
      have hif := idx_memN f (allP p)
      rw [hmf] at hif
      have HIXF := Lib.hid (fun (v : Value) (w0 : World) (h : RdS w0 v (allP p)) => HIX f v w0 h)
      generalize idx (fun y => f.toList == y.toList) (allP p) = IF at hif HIXF
      clear HIX HNM hmf hc
      go_enter Tryd.func7, Tryd.ntmps7
      go_wp2_with fail
      refine (HCODE.out _ (by repeat (first | with_reducible exact New.refl _ | with_reducible assumption | with_reducible refine New.drew ?_ | with_reducible refine New.drewN ?_ _ | with_reducible refine New.alloc ?_ _ | with_reducible refine New.setCell ?_ (by first | (simp; done) | (simp; omega) | omega) _ | with_reducible refine New.trans ?_ (by with_reducible assumption)))).mono ?_; rintro e w1 ⟨rfl, b1⟩
      try with_reducible replace b1 := New.undrawN b1
      try with_reducible replace b1 := New.undraw b1
      obtain ⟨c1, f1⟩ := b1.rules
      have z1 := b1.size
      try simp only [World.size_alloc, World.size_drew, World.heap_drewN, World.size_setCell] at z1
      have z1_0 : w.heap.size < w1.heap.size := by omega
      have z1_1 : w.heap.size + 1 < w1.heap.size := by omega
      go_wp2_with fail
      refine (HALL.out _ (by repeat (first | with_reducible exact New.refl _ | with_reducible assumption | with_reducible refine New.drew ?_ | with_reducible refine New.drewN ?_ _ | with_reducible refine New.alloc ?_ _ | with_reducible refine New.setCell ?_ (by first | (simp; done) | (simp; omega) | omega) _ | with_reducible refine New.trans ?_ (by with_reducible assumption)))).mono ?_; rintro e w2 ⟨r2, rfl, b2, o2⟩
      obtain ⟨c2, f2⟩ := b2.rules
      have z2 := b2.size
      try simp only [World.size_alloc, World.size_drew, World.heap_drewN, World.size_setCell] at z2
      have z2_0 : w.heap.size < w2.heap.size := by omega
      have z2_1 : w.heap.size + 1 < w2.heap.size := by omega
      go_wp2_with fail
      refine (HIXF.out _ _ (own_rd1 o2)).mono ?_; rintro e _ ⟨rfl, rfl⟩
      go_wp2_with fail
      exact retRP_no rfl (by repeat (first | with_reducible exact New.refl _ | with_reducible assumption | with_reducible refine New.drew ?_ | with_reducible refine New.drewN ?_ _ | with_reducible refine New.alloc ?_ _ | with_reducible refine New.setCell ?_ (by first | (simp; done) | (simp; omega) | omega) _ | with_reducible refine New.trans ?_ (by with_reducible assumption))) (by simp [results, Tryd.results7, go_sem, c2, f2, c1, f1, z1_0, z1_1, z2_0, z2_1])
  · rw [renCode_1 hc]
    have hcc : (codeR p != 0) = true := by simpa using hc
    clear HIX HNM HALL
    go_enter Tryd.func7, Tryd.ntmps7
    go_wp2_with fail
    refine (HCODE.out _ (by repeat (first | with_reducible exact New.refl _ | with_reducible assumption | with_reducible refine New.drew ?_ | with_reducible refine New.drewN ?_ _ | with_reducible refine New.alloc ?_ _ | with_reducible refine New.setCell ?_ (by first | (simp; done) | (simp; omega) | omega) _ | with_reducible refine New.trans ?_ (by with_reducible assumption)))).mono ?_; rintro e w1 ⟨rfl, b1⟩
    try with_reducible replace b1 := New.undrawN b1
    try with_reducible replace b1 := New.undraw b1
    obtain ⟨c1, f1⟩ := b1.rules
    have z1 := b1.size
    try simp only [World.size_alloc, World.size_drew, World.heap_drewN, World.size_setCell] at z1
    have z1_0 : w.heap.size < w1.heap.size := by omega
    have z1_1 : w.heap.size + 1 < w1.heap.size := by omega
    go_wp2_with fail
    exact retRP_no rfl (by repeat (first | with_reducible exact New.refl _ | with_reducible assumption | with_reducible refine New.drew ?_ | with_reducible refine New.drewN ?_ _ | with_reducible refine New.alloc ?_ _ | with_reducible refine New.setCell ?_ (by first | (simp; done) | (simp; omega) | omega) _ | with_reducible refine New.trans ?_ (by with_reducible assumption))) (by simp [results, Tryd.results7, go_sem, c1, f1, z1_0, z1_1])
end Go.Proofs.YtadoocadohdfcaaDoor
