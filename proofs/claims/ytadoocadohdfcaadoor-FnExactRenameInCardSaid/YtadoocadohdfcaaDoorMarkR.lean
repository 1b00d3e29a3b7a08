/- Contracts: the laws' marks on a program whose lists lie apart. -/
import Derived.Test.YtadoocadohdfcaaDoorProg
import Derived.Test.YtadoocadohdfcaaDoorMrgB
import Derived.Test.YtadoocadohdfcaaDoorRenI
namespace Go.Proofs.YtadoocadohdfcaaDoor
open Go Go.Proofs Go.RowKit
set_option linter.unusedVariables false
set_option linter.unusedSimpArgs false
set_option maxRecDepth 100000
/-- A list of texts: of the call's own if it is not empty. -/
def OwnC (w : World) (B : Nat) (v : Value) (xs : List ByteArray) : Prop := (∃ a c, v = .slice a xs.length c) ∧ (xs ≠ [] → w.ownsRow B 9 1 v xs.length (xs.map Value.string))
def MG (v : Value) (xs : List ByteArray) (w w' : World) : Prop := (xs = [] ∧ w = w') ∨ (xs ≠ [] ∧ OnlyG v w w')
theorem OwnC.of {w : World} {B : Nat} {v : Value} {xs : List ByteArray} (h : OwnSt w B v xs.length xs) : OwnC w B v xs := ⟨own_slice h, fun _ => h⟩
theorem OwnC.rd {w : World} {B : Nat} {v : Value} {xs : List ByteArray} (h : OwnC w B v xs) (hx : xs = [] → ∃ a c, v = .slice a 0 c) : RdS w v xs := by
  by_cases he : xs = []
  · subst he
    obtain ⟨a, c, rfl⟩ := hx rfl
    exact ⟨a, c, rfl, by simp, ⟨fun _ => rfl, Nat.zero_le _⟩, fun j u hu => by simp at hu⟩
  · exact own_rd (h.2 he)
theorem OwnC.mg {w w' : World} {B : Nat} {v u : Value} {xs ys : List ByteArray} (h : OwnC w B u ys) (hm : MG v xs w w') (hne : xs ≠ [] → ys ≠ [] → ∀ i j, v.ownBlock = some i → u.ownBlock = some j → i ≠ j) : OwnC w' B u ys := by
  rcases hm with ⟨_, rfl⟩ | ⟨hx, hg⟩
  · exact h
  · exact ⟨h.1, fun hy => own_apart hg (h.2 hy) (hne hx hy)⟩
theorem own_mg {w w' : World} {B b : Nat} {v u : Value} {xs : List ByteArray} {e : TypeId} {sz n : Nat} {cs : List Value} (h : w.ownsRow B e sz u n cs) (ho : OwnC w b v xs) (hm : MG v xs w w') (he : 9 ≠ e) : w'.ownsRow B e sz u n cs := by
  rcases hm with ⟨_, rfl⟩ | ⟨hx, hg⟩
  · exact h
  · exact own_apart hg h (fun i j hi hj => own_ne_ownK (ho.2 hx) h he i j hi hj)
theorem MG.turned {B E : Nat} {v : Value} {xs : List ByteArray} {w w' : World} (h : MG v xs w w') (hB : B ≤ w.heap.size) (hv : xs ≠ [] → ∀ k, v.ownBlock = some k → B ≤ k ∧ k < E) : Turned B E w w' := by
  rcases h with ⟨_, rfl⟩ | ⟨hx, hg⟩
  · exact Turned.refl _ _ _
  · exact Turned.of_onlyG hg hB (hv hx)
theorem OwnC.new {w w' : World} {B : Nat} {v : Value} {xs : List ByteArray} (h : OwnC w B v xs) (n : New w w') : OwnC w' B v xs := ⟨h.1, fun hx => own_new (h.2 hx) n⟩
theorem marks_ne {k : Nat} {xs : List ByteArray} (h : marksE (mkString k) xs.length ≠ []) : xs ≠ [] := fun e => by subst e; exact h rfl
theorem markStringS_nil (a : Option Addr) (cap : Nat) (x : Int) (w : World) : Calls Tryd.prog 51 #[.slice a 0 cap, .int .i64 x] w fun e w' => e = .returned (.int .i64 x) ∧ w = w' := by
  go_enter Tryd.func51, Tryd.ntmps51
  go_wp2_with fail
  refine wp_loop_rounds 1 ?_
  rw [rounds_succ]
  go_wp2_with fail
  go_ret
  exact ⟨rfl, rfl⟩
theorem markC_any (x : Int) (v : Value) (xs : List ByteArray) (B k : Nat) (w : World) (hx : x = (k : Int)) (hv : OwnC w B v xs) (hn : xs.length ≤ 1048576) (hk : k ≤ 1048576000) :
    Calls Tryd.prog 51 #[v, .int .i64 x] w fun e w' => e = .returned (.int .i64 ((k + xs.length : Nat) : Int)) ∧ MG v xs w w' ∧ OwnC w' B v (marksE (mkString k) xs.length) := by
  by_cases he : xs = []
  · subst he
    obtain ⟨⟨a, c, rfl⟩, _⟩ := hv
    refine (markStringS_nil a c x w).mono fun e w' ⟨h1, h2⟩ => ⟨?_, .inl ⟨rfl, h2⟩, ⟨a, c, rfl⟩, fun h => absurd rfl h⟩
    rw [h1, hx]; rfl
  · refine (markStringS_at x v xs B k w hx (hv.2 he) hn hk).mono fun e w' ⟨h1, h2, h3⟩ => ⟨h1, .inr ⟨he, h2⟩, ?_, fun _ => ?_⟩
    · obtain ⟨a, c, h⟩ := hv.1
      exact ⟨a, c, by rw [h, marksE_length]⟩
    · rw [marksE_length]; exact h3
/-- Blocks of other types than lines and terms are kept. -/
def KeptS (w w' : World) : Prop := ∀ (q : Nat) (cs : Array Value) (T : TypeId) (fz : Nat × Nat), T ≠ 55 → T ≠ 53 → w.heap[q]? = some (Obj.cells cs T fz) → w'.heap[q]? = some (Obj.cells cs T fz)
theorem KeptS.refl (w : World) : KeptS w w := fun _ _ _ _ _ _ h => h
theorem KeptS.new {w0 w w' : World} (h : KeptS w0 w) (n : New w w') : KeptS w0 w' := fun q cs T fz h1 h2 hb => by
  have h3 := h q cs T fz h1 h2 hb
  exact (n.block q (Array.getElem?_eq_some_iff.1 h3).1).trans h3
theorem own_type {w : World} {base : Nat} {e : TypeId} {sz n g : Nat} {v : Value} {cs : List Value} (h : w.ownsRow base e sz v n cs) (hv : v.ownBlock = some g) : ∃ cur, w.heap[g]? = some (.cells cur e (0, 0)) := by
  rcases h.2 with ⟨rfl, _⟩ | ⟨g', cap, cur, rfl, _, hg, _⟩
  · cases hv
  · cases hv; exact ⟨cur, hg⟩
theorem KeptS.set {w0 w : World} {base : Nat} {e : TypeId} {sz n g o : Nat} {v : Value} {cs : List Value} (h : KeptS w0 w) (ho : w.ownsRow base e sz v n cs) (hv : v.ownBlock = some g) (he : e = 55 ∨ e = 53) (u : Value) : KeptS w0 (w.setCell ⟨g, o, none⟩ u) := fun q ds T fz h1 h2 hb => by
  have h3 := h q ds T fz h1 h2 hb
  obtain ⟨cur, hc⟩ := own_type ho hv
  refine (heap_setCell_other w ⟨g, o, none⟩ q u (fun e' => ?_)).trans h3
  have e'' : q = g := e'
  subst e''
  have := hc.symm.trans h3
  simp at this
  rcases he with he | he
  · exact h1 (this.2.1.symm.trans he)
  · exact h2 (this.2.1.symm.trans he)
theorem KeptS.onlyG {w0 w w' : World} {base : Nat} {e : TypeId} {sz n : Nat} {v : Value} {cs : List Value} (h : KeptS w0 w) (hg : OnlyG v w w') (ho : w.ownsRow base e sz v n cs) (he : e = 55 ∨ e = 53) : KeptS w0 w' := fun q ds T fz h1 h2 hb => by
  have h3 := h q ds T fz h1 h2 hb
  refine (hg.block q (Array.getElem?_eq_some_iff.1 h3).1 (fun e' => ?_)).trans h3
  obtain ⟨cur, hc⟩ := own_type ho e'.symm
  have := hc.symm.trans h3
  simp at this
  rcases he with he | he
  · exact h1 (this.2.1.symm.trans he)
  · exact h2 (this.2.1.symm.trans he)
theorem OwnC.keptS {w w' : World} {B : Nat} {v : Value} {xs : List ByteArray} (h : OwnC w B v xs) (hk : KeptS w w') : OwnC w' B v xs := by
  refine ⟨h.1, fun hx => ?_⟩
  have h2 := h.2 hx
  refine ⟨h2.1, ?_⟩
  rcases h2.2 with hn | ⟨g, cap, cur, rfl, hg, hgg, rest⟩
  · exact .inl hn
  · exact .inr ⟨g, cap, cur, rfl, hg, hk _ _ _ _ (by decide) (by decide) hgg, rest⟩
set_option maxHeartbeats 3200000 in
theorem markLineS2_any (v : Value) (ps : List LV) (base E k : Nat) (w : World) (hv : OwnLnX w base v ps) (hap : Apart v ps) (hn : ps.length ≤ 1048576) (hk : k + cntP ps ≤ 1048576000) (hB : base ≤ w.heap.size) (hvE : ∀ x, v.ownBlock = some x → x < E) (htE : ∀ i (h : i < ps.length) x, (ps[i]).2.ownBlock = some x → x < E) (hnt : ∀ i (h : i < ps.length), (ps[i]).1.terms.length ≤ 1048576) :
    Calls Tryd.prog 52 #[v, .int .i64 k] w fun e w' => e = .returned (.int .i64 ((k + cntP ps : Nat) : Int)) ∧ Turned base E w w' ∧ OwnLnX w' base v (mkLs k ps) ∧ KeptS w w' := by
  by_cases h0 : ps.length = 0
  · have hx : ps = [] := List.eq_nil_of_length_eq_zero h0
    subst hx
    obtain ⟨a, cap, hve⟩ := own_slice hv.1
    subst hve
    go_enter Tryd.func52, Tryd.ntmps52
    go_wp2_with fail
    refine wp_loop_rounds 1 ?_
    rw [rounds_succ]
    go_wp2_with fail
    go_ret
    exact ⟨rfl, Turned.refl _ _ _, hv, KeptS.refl _⟩
  · obtain ⟨g, cap, rfl⟩ : ∃ g cap, v = .slice (some ⟨g, 0, none⟩) ps.length cap := by
      rcases hv.1.2 with ⟨_, h⟩ | ⟨g, cap, cur, h, _⟩
      · exact absurd h h0
      · exact ⟨g, cap, h⟩
    clear h0
    have HA := Lib.hid hap; clear hap
    have HTE := Lib.hid htE; clear htE
    have HNT := Lib.hid hnt; clear hnt
    have hgE : g < E := hvE g rfl
    have hgb : base ≤ g := (own_block_lt hv.1 g rfl).1
    clear hvE
    go_enter Tryd.func52, Tryd.ntmps52
    go_wp2_with fail
    go_loopw [1, 5] (fun kk i wr => ∃ j : Nat, j ≤ ps.length ∧ i = .int .i64 j ∧ kk = .int .i64 ((k + cntP (ps.take j) : Nat) : Int) ∧ Turned base E w wr ∧ KeptS w wr ∧ OwnLnX wr base (.slice (some ⟨g, 0, none⟩) ps.length cap) (mkLs k (ps.take j) ++ ps.drop j)) (fun _ i _ => ps.length - (intOf i).toNat)
    case atStart => exact ⟨0, Nat.zero_le _, rfl, by simp [cntP, cntL], Turned.refl _ _ _, KeptS.refl _, by simpa [mkLs] using hv⟩
    case round =>
      obtain ⟨j, hj, rfl, rfl, ho, hks, hown⟩ := hrel
      clear hv
      by_cases hlt : j < ps.length
      · have hln := mid_len k ps j hj
        have HG := Lib.hid (mid_get k ps j hlt)
        have HAM := Lib.hid (HA.out.of_snd (mid_snd k ps j).symm)
        have hcn := cntP_next ps j hlt
        have hct := cntP_take ps (j + 1)
        obtain ⟨ra, rc, hrv⟩ := own_slice (hown.2 j (by rw [hln]; exact hlt))
        rw [HG.out] at hrv
        have hfr : wr.ownsRow base 55 2 (.slice (some ⟨g, 0, none⟩) ps.length cap) ps.length ((mkLs k (ps.take j) ++ ps.drop j).flatMap encLV) := by have := hown.1; rwa [hln] at this
        have hdn : ∀ i u, i < 2 → (encLV ps[j])[i]? = some u → wr.cell? ⟨g, j * 2 + i, none⟩ = some u := fun i u hi hu => by
          have hc := hfr.cellAt (j * 2 + i) (by omega)
          rw [hc, flat_at encLV 2 encLV_len _ j (by rw [hln]; exact hlt) i hi, HG.out, hu]
        have d0 := hdn 0 _ (by omega) rfl
        have d1 := hdn 1 _ (by omega) rfl
        rw [hrv] at d1
        rw [Nat.add_zero] at d0
        clear hdn
        have f0 := hfr.frozenAt (j * 2)
        have hgw : g < wr.heap.size := (own_block_lt hfr g rfl).2
        have HTT := Lib.hid (show wr.ownsRow base 53 3 (.slice ra ps[j].1.terms.length rc) ps[j].1.terms.length (ps[j].1.terms.flatMap encTerm) by have := hown.2 j (by rw [hln]; exact hlt); rw [HG.out, hrv] at this; exact this)
        have hmt := HNT.out j hlt
        have hrE := Lib.hid (HTE.out j hlt)
        have hbw : base ≤ wr.heap.size := Nat.le_trans hB (Below.size ho.1)
        replace hown := Lib.hid hown
        replace hln := Lib.hid hln
        have hcm : k + cntP (ps.take j) + 1 ≤ 1048576000 := by omega
        replace hcn := Lib.hid hcn
        generalize hC : cntP (ps.take j) = C at *
        go_wp2_with fail
        refine (markText_at _ (k + C) _ (by omega) (by omega)).mono ?_; rintro e w11 ⟨rfl, b11⟩
        try with_reducible replace b11 := New.undrawN b11
        try with_reducible replace b11 := New.undraw b11
        obtain ⟨c11, f11⟩ := b11.rules
        have z11 := b11.size
        try simp only [World.size_alloc, World.size_drew, World.heap_drewN, World.size_setCell] at z11
        have z11_0 : g < w11.heap.size := by omega
        go_wp2_with fail
        have hst := (own_new hfr b11).stored (j * 2) (.string (markS (k + C)))
        have hoT := own_apart hst.2 (own_new HTT.out b11) (fun x y hx hy => HA.out.1 j hlt x y hx (by rw [hrv]; exact hy))
        have hbT := own_block_lt hoT
        refine (markTermS_at _ _ ps[j].1.terms base (k + C + 1) _ (by omega) hoT hmt (by omega)).mono ?_
        rintro e w12 ⟨rfl, on12, own12⟩
        go_wp2_with fail
        go_roundw
        case rel =>
          refine ⟨j + 1, by omega, by go_num, by rw [hcn.out]; go_num, ((ho.trans (Turned.of_new hbw b11)).trans (Turned.set hgb hgE _)).trans (Turned.of_onlyG on12 (by simp only [World.size_setCell]; omega) (fun x hx => ⟨(hbT x hx).1, hrE.out x (by rw [hrv]; exact hx)⟩)), ((hks.new b11).set (own_new hfr b11) rfl (by decide) _).onlyG on12 hoT (by decide), ?_⟩
          rw [← mkLs_next k ps j hlt, hC]
          exact ownLnX_set hln.out (hown.out.new b11) HAM.out j (by rw [hln.out]; exact hlt) ps[j] HG.out (markS (k + C)) (marksE (mkTerm (k + C + 1)) ps[j].1.terms.length) (marksE_length _ _) rfl (by rw [hrv]; exact on12) (by rw [hrv]; exact own12)
        case measure => simp [intOf]; omega
      · obtain rfl : j = ps.length := by omega
        go_wp2_with fail
        go_ret
        exact ⟨by rw [List.take_length]; rfl, ho, by simpa [List.take_length] using hown, hks⟩
theorem markLineS2_at (x : Int) (v : Value) (ps : List LV) (base E k : Nat) (w : World) (hx : x = (k : Int)) (hv : OwnLnX w base v ps) (hap : Apart v ps) (hn : ps.length ≤ 1048576) (hk : k + cntP ps ≤ 1048576000) (hB : base ≤ w.heap.size) (hvE : ∀ x, v.ownBlock = some x → x < E) (htE : ∀ i (h : i < ps.length) x, (ps[i]).2.ownBlock = some x → x < E) (hnt : ∀ i (h : i < ps.length), (ps[i]).1.terms.length ≤ 1048576) :
    Calls Tryd.prog 52 #[v, .int .i64 x] w fun e w' => e = .returned (.int .i64 ((k + cntP ps : Nat) : Int)) ∧ Turned base E w w' ∧ OwnLnX w' base v (mkLs k ps) ∧ KeptS w w' := by subst hx; exact markLineS2_any v ps base E k w hv hap hn hk hB hvE htE hnt
set_option maxHeartbeats 3200000 in
theorem markProgram3_any (p : ProgD) (iv vv ov lv : Value) (qs : List LV) (B E : Nat) (w0 w : World) (hq : qs.map Prod.fst = p.lines) (hi : OwnC w0 B iv p.inputs) (hv : OwnC w0 B vv p.vars) (ho : OwnC w0 B ov p.outputs) (hX : OwnLnX w0 B lv qs) (hA : Apart lv qs)
    (hiv : p.inputs ≠ [] → p.vars ≠ [] → ∀ i j, iv.ownBlock = some i → vv.ownBlock = some j → i ≠ j) (hio : p.inputs ≠ [] → p.outputs ≠ [] → ∀ i j, iv.ownBlock = some i → ov.ownBlock = some j → i ≠ j) (hvo : p.vars ≠ [] → p.outputs ≠ [] → ∀ i j, vv.ownBlock = some i → ov.ownBlock = some j → i ≠ j)
    (hB : B ≤ w0.heap.size) (n : New w0 w) (hEw : E ≤ w.heap.size) (hEi : ∀ k, iv.ownBlock = some k → k < E) (hEv : ∀ k, vv.ownBlock = some k → k < E) (hEo : ∀ k, ov.ownBlock = some k → k < E) (hEl : ∀ k, lv.ownBlock = some k → k < E) (hEt : ∀ i (h : i < qs.length) x, (qs[i]).2.ownBlock = some x → x < E) (hf : FitP p) (hc : cntPr p ≤ 8388608) :
    Calls Tryd.prog 11 #[valP p iv vv ov lv, .int .i64 1] w fun e w' => e = .returned (.int .i64 ((1 + cntPr p : Nat) : Int)) ∧ Turned B E w w' ∧ RdP w' (mkP p) iv vv ov lv := by
  have hnz := hEw
  have hnz9 := n.size
  have hbi : p.inputs ≠ [] → ∀ k, iv.ownBlock = some k → B ≤ k ∧ k < E := fun h k hk => ⟨(own_block_lt (hi.2 h) k hk).1, hEi k hk⟩
  have hbv : p.vars ≠ [] → ∀ k, vv.ownBlock = some k → B ≤ k ∧ k < E := fun h k hk => ⟨(own_block_lt (hv.2 h) k hk).1, hEv k hk⟩
  have hbo : p.outputs ≠ [] → ∀ k, ov.ownBlock = some k → B ≤ k ∧ k < E := fun h k hk => ⟨(own_block_lt (ho.2 h) k hk).1, hEo k hk⟩
  have hbl := own_block_lt hX.1
  have hcl : cntP qs = cntL p.lines := by rw [cntP, hq]
  have htx := Lib.hid hEt
  have hpl : qs.length ≤ 1048576 := by have := hf.linesl; rw [← hq, List.length_map] at this; exact this
  rw [cntPr] at hc
  have HI := Lib.hid (hi.new n); have HV := Lib.hid (hv.new n); have HO := Lib.hid (ho.new n); have HX := Lib.hid (hX.new n)
  have HNT := Lib.hid (fun i (h : i < qs.length) => (hf.lines qs[i].1 (by rw [← hq]; exact List.mem_map_of_mem (List.getElem_mem h))).2.2)
  have l1 := hf.insl
  have l2 := hf.varsl
  have l3 := hf.outsl
  have HQ := Lib.hid hq
  have HCL := Lib.hid hcl
  rw [← hcl] at hc
  obtain ⟨ia, ic, rfl⟩ := hi.1
  obtain ⟨ja, jc, rfl⟩ := hv.1
  obtain ⟨oa, oc, rfl⟩ := ho.1
  obtain ⟨la, lc, rfl⟩ := own_slice hX.1
  have HIV := Lib.hid hiv; have HIO := Lib.hid hio; have HVO := Lib.hid hvo
  have HBI := Lib.hid hbi; have HBV := Lib.hid hbv; have HBO := Lib.hid hbo
  clear hi hv ho hX hq hcl n hiv hio hvo hbi hbv hbo
  go_enter Tryd.func11, Tryd.ntmps11
  go_wp2_with fail
  refine (markC_any _ _ p.inputs B 1 _ rfl (HI.out.new ((New.refl w).alloc _)) l1 (by omega)).mono ?_
  rintro e w1 ⟨rfl, on1, own1⟩
  have t1 : Turned B E _ w1 := on1.turned (by simp; omega) HBI.out
  have s1 := (HV.out.new ((New.refl w).alloc (.cells #[.string p.name, .slice ia p.inputs.length ic, .slice ja p.vars.length jc, .slice oa p.outputs.length oc, .string p.guard, .slice la qs.length lc] 29))).mg on1 HIV.out
  have u1 := (HO.out.new ((New.refl w).alloc (.cells #[.string p.name, .slice ia p.inputs.length ic, .slice ja p.vars.length jc, .slice oa p.outputs.length oc, .string p.guard, .slice la qs.length lc] 29))).mg on1 HIO.out
  have IA := HI.out.new ((New.refl w).alloc (.cells #[.string p.name, .slice ia p.inputs.length ic, .slice ja p.vars.length jc, .slice oa p.outputs.length oc, .string p.guard, .slice la qs.length lc] 29))
  have v1 : OwnLnX w1 B _ qs := ⟨own_mg (HX.out.1.alloc _) IA on1 (by decide), fun i hi => own_mg ((HX.out.2 i hi).alloc _) IA on1 (by decide)⟩
  have d2 := t1.abv (b := w.heap.size) (o := 2) hnz (by simp)
  have d3 := t1.abv (b := w.heap.size) (o := 3) hnz (by simp)
  have d5 := t1.abv (b := w.heap.size) (o := 5) hnz (by simp)
  simp at d2 d3 d5
  have z1 := Below.size t1.1
  simp only [World.size_alloc] at z1
  clear IA
  go_wp2_with fail
  refine (markC_any _ _ p.vars B (1 + p.inputs.length) _ (by omega) s1 l2 (by omega)).mono ?_
  rintro e w2 ⟨rfl, on2, own2⟩
  have t2 : Turned B E _ w2 := on2.turned (by omega) HBV.out
  have u2 := u1.mg on2 HVO.out
  have v2 : OwnLnX w2 B _ qs := ⟨own_mg v1.1 s1 on2 (by decide), fun i hi => own_mg (v1.2 i hi) s1 on2 (by decide)⟩
  have e3 := (t2.abv (b := w.heap.size) (o := 3) hnz (by omega)).trans d3
  have e5 := (t2.abv (b := w.heap.size) (o := 5) hnz (by omega)).trans d5
  have z2 := Below.size t2.1
  have M1 := Lib.hid (own1.mg on2 (fun h1 h2 i j hi hj e => HIV.out (marks_ne h2) h1 j i hj hi e.symm))
  clear d2 d3 d5 s1 u1 v1 own1
  go_wp2_with fail
  refine (markC_any _ _ p.outputs B (1 + p.inputs.length + p.vars.length) _ (by omega) u2 l3 (by omega)).mono ?_
  rintro e w3 ⟨rfl, on3, own3⟩
  have t3 : Turned B E _ w3 := on3.turned (by omega) HBO.out
  have v3 : OwnLnX w3 B _ qs := ⟨own_mg v2.1 u2 on3 (by decide), fun i hi => own_mg (v2.2 i hi) u2 on3 (by decide)⟩
  have g5 := (t3.abv (b := w.heap.size) (o := 5) hnz (by omega)).trans e5
  have z3 := Below.size t3.1
  have P1 := Lib.hid (M1.out.mg on3 (fun h1 h2 i j hi hj e => HIO.out (marks_ne h2) h1 j i hj hi e.symm))
  have P2 := Lib.hid (own2.mg on3 (fun h1 h2 i j hi hj e => HVO.out (marks_ne h2) h1 j i hj hi e.symm))
  have P3 := Lib.hid own3
  clear e3 e5 u2 v2 M1 own2 own3
  go_wp2_with fail
  refine (markLineS2_at _ _ qs B E (1 + p.inputs.length + p.vars.length + p.outputs.length) _ (by omega) v3 hA hpl (by omega) (by omega) hEl htx.out HNT.out).mono ?_
  rintro e w4 ⟨rfl, t4, q4, ks4⟩
  have R1 := Lib.hid (((P1.out.keptS ks4)).rd (fun _ => by obtain ⟨a, c, h⟩ := P1.out.1; rename_i h0; exact ⟨a, c, by rw [h, h0]; rfl⟩))
  have R2 := Lib.hid (((P2.out.keptS ks4)).rd (fun _ => by obtain ⟨a, c, h⟩ := P2.out.1; rename_i h0; exact ⟨a, c, by rw [h, h0]; rfl⟩))
  have R3 := Lib.hid (((P3.out.keptS ks4)).rd (fun _ => by obtain ⟨a, c, h⟩ := P3.out.1; rename_i h0; exact ⟨a, c, by rw [h, h0]; rfl⟩))
  have hml := mkLs_fst (1 + p.inputs.length + p.vars.length + p.outputs.length) qs
  rw [HQ.out] at hml
  have R4 : Hid (RdLn w4 (.slice la qs.length lc) (mkD (1 + p.inputs.length + p.vars.length + p.outputs.length) p.lines)) :=
    Lib.hid ⟨_, hml, own_rd q4.1, fun q hq => by obtain ⟨i, hi, rfl⟩ := List.mem_iff_getElem.1 hq; exact own_rd (q4.2 i hi)⟩
  clear q4 hml v3
  go_wp2_with fail
  go_ret
  refine ⟨ret_int (by rw [cntPr, ← HCL.out]; omega), (((Turned.of_new (by omega) ((New.refl w).alloc _)).trans t1).trans t2).trans (t3.trans t4), R1.out, R2.out, R3.out, R4.out⟩
end Go.Proofs.YtadoocadohdfcaaDoor
