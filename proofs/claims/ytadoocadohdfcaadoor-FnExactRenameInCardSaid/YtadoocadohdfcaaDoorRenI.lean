/- Contracts: the program's replacing of a name. -/
import Derived.Deep.RegionHeld3
import Derived.Deep.RegionLaw
import Derived.Deep.AppendLies
import Derived.Test.YtadoocadohdfcaaDoorProg
import Derived.Test.YtadoocadohdfcaaDoorRenS
import Derived.Test.YtadoocadohdfcaaDoorMrgD
namespace Go.Proofs.YtadoocadohdfcaaDoor
open Go Go.Proofs Go.RowKit
set_option linter.unusedVariables false
set_option linter.unusedSimpArgs false
set_option maxRecDepth 100000
/-- The three lists of names, in memory of the call's own. -/
def RowsS (w : World) (B : Nat) (p : ProgD) (iv vv ov : Value) : Prop := OwnSt w B iv p.inputs.length p.inputs ∧ OwnSt w B vv p.vars.length p.vars ∧ OwnSt w B ov p.outputs.length p.outputs
theorem RowsS.new {w w' : World} {B : Nat} {p : ProgD} {iv vv ov : Value} (h : RowsS w B p iv vv ov) (n : New w w') : RowsS w' B p iv vv ov := ⟨h.1.new n, h.2.1.new n, h.2.2.new n⟩
theorem RowsS.grown {w w' : World} {B b : Nat} {p : ProgD} {iv vv ov u : Value} {e : TypeId} {sz m : Nat} {ds : List Value} (h : RowsS w B p iv vv ov) (hg : w.grownBy w' u.ownBlock) (ho : w.ownsRow b e sz u m ds) (he : e ≠ 9) : RowsS w' B p iv vv ov :=
  ⟨own_grK h.1 hg (fun i j hi hj => own_ne_ownK ho h.1 he i j hi hj), own_grK h.2.1 hg (fun i j hi hj => own_ne_ownK ho h.2.1 he i j hi hj), own_grK h.2.2 hg (fun i j hi hj => own_ne_ownK ho h.2.2 he i j hi hj)⟩
theorem RowsS.set {w : World} {B O o : Nat} {p : ProgD} {iv vv ov : Value} {cs : Array Value} {T : TypeId} (h : RowsS w B p iv vv ov) (hK : Blk w O cs T) (hT : T ≠ 9) (u : Value) : RowsS (w.setCell ⟨O, o, none⟩ u) B p iv vv ov :=
  ⟨own_setK h.1 (blk_ne_ownK hK h.1 hT) u, own_setK h.2.1 (blk_ne_ownK hK h.2.1 hT) u, own_setK h.2.2 (blk_ne_ownK hK h.2.2 hT) u⟩
theorem RowsS.set6 {w : World} {B O : Nat} {p : ProgD} {iv vv ov v0 v1 v2 v3 v4 v5 : Value} {T : TypeId} (h : RowsS w B p iv vv ov) (hK : Blk w O #[v0, v1, v2, v3, v4, v5] T) (hT : T ≠ 9) (u0 u1 u2 u3 u4 u5 : Value) : RowsS (setC6 w O u0 u1 u2 u3 u4 u5) B p iv vv ov :=
  (((((h.set hK hT (o := 0) u0).set (hK.set 0 u0) hT (o := 1) u1).set ((hK.set 0 u0).set 1 u1) hT (o := 2) u2).set (((hK.set 0 u0).set 1 u1).set 2 u2) hT (o := 3) u3).set ((((hK.set 0 u0).set 1 u1).set 2 u2).set 3 u3) hT (o := 4) u4).set (((((hK.set 0 u0).set 1 u1).set 2 u2).set 3 u3).set 4 u4) hT (o := 5) u5
theorem Blk.setP6 {w : World} {b : Nat} {v0 v1 v2 v3 v4 v5 : Value} {T : TypeId} (h : Blk w b #[v0, v1, v2, v3, v4, v5] T) (u0 u1 u2 u3 u4 u5 : Value) : Blk (setC6 w b u0 u1 u2 u3 u4 u5) b #[u0, u1, u2, u3, u4, u5] T := (((((h.set 0 u0).set 1 u1).set 2 u2).set 3 u3).set 4 u4).set 5 u5
theorem Blk.setP6_ne {w : World} {b g : Nat} {cs : Array Value} {T : TypeId} (h : Blk w b cs T) (hne : b ≠ g) (u0 u1 u2 u3 u4 u5 : Value) : Blk (setC6 w g u0 u1 u2 u3 u4 u5) b cs T := (((((h.set_ne hne u0).set_ne hne u1).set_ne hne u2).set_ne hne u3).set_ne hne u4).set_ne hne u5
/-- A text of one element, in a known place. -/
def OneS (w : World) (v : Value) (s : ByteArray) : Prop := ∃ g c, v = .slice (some ⟨g, 0, none⟩) 1 c ∧ 1 ≤ c ∧ g < w.heap.size ∧ w.cell? ⟨g, 0, none⟩ = some (.string s)
theorem OneS.new {w w' : World} {v : Value} {s : ByteArray} (h : OneS w v s) (n : New w w') : OneS w' v s := by
  obtain ⟨g, c, rfl, h0, h1, h2⟩ := h
  exact ⟨g, c, rfl, h0, Nat.lt_of_lt_of_le h1 n.size, (n.cell h1).trans h2⟩
theorem one_alloc (w : World) (s : ByteArray) (T : TypeId) : OneS (w.alloc (.cells #[.string s] T)) (.slice (some ⟨w.heap.size, 0, none⟩) 1 1) s := ⟨_, _, rfl, Nat.le_refl _, by simp, by rw [cell_alloc_new _ _ _ _ _ rfl]; rfl⟩
def PtS (w : World) (v : Value) (s : ByteArray) : Prop := ∃ g, v = .pointer (some ⟨g, 0, none⟩) ∧ g < w.heap.size ∧ w.cell? ⟨g, 0, none⟩ = some (.string s)
theorem PtS.new {w w' : World} {v : Value} {s : ByteArray} (h : PtS w v s) (n : New w w') : PtS w' v s := by
  obtain ⟨g, rfl, h1, h2⟩ := h
  exact ⟨g, rfl, Nat.lt_of_lt_of_le h1 n.size, (n.cell h1).trans h2⟩
/-- The lines' terms, in memory of the call's own, no two in one block. -/
def LinesT (w : World) (B : Nat) (qs : List LV) : Prop := (∀ i (h : i < qs.length), w.ownsRow B 53 3 (qs[i]).2 (qs[i]).1.terms.length ((qs[i]).1.terms.flatMap encTerm)) ∧
  ∀ i j (h : i < qs.length) (h' : j < qs.length), i ≠ j → ∀ x y, (qs[i]).2.ownBlock = some x → (qs[j]).2.ownBlock = some y → x ≠ y
theorem LinesT.new {w w' : World} {B : Nat} {qs : List LV} (h : LinesT w B qs) (n : New w w') : LinesT w' B qs := ⟨fun i hi => own_new (h.1 i hi) n, h.2⟩
theorem LinesT.grown {w w' : World} {B b : Nat} {qs : List LV} {u : Value} {e : TypeId} {sz m : Nat} {ds : List Value} (h : LinesT w B qs) (hg : w.grownBy w' u.ownBlock) (ho : w.ownsRow b e sz u m ds) (he : e ≠ 53) : LinesT w' B qs :=
  ⟨fun i hi => own_grK (h.1 i hi) hg (fun x y hx hy => own_ne_ownK ho (h.1 i hi) he x y hx hy), h.2⟩
theorem LinesT.set {w : World} {B O o : Nat} {qs : List LV} {cs : Array Value} {T : TypeId} (h : LinesT w B qs) (hK : Blk w O cs T) (hT : T ≠ 53) (u : Value) : LinesT (w.setCell ⟨O, o, none⟩ u) B qs :=
  ⟨fun i hi => own_setK (h.1 i hi) (blk_ne_ownK hK (h.1 i hi) hT) u, h.2⟩
theorem LinesT.snoc {w : World} {B E : Nat} {qs : List LV} {l : LineD} {r : Value} (h : LinesT w B qs) (hE : ∀ i (hi : i < qs.length) x, (qs[i]).2.ownBlock = some x → x < E) (hB : B ≤ E) (ho : w.ownsRow E 53 3 r l.terms.length (l.terms.flatMap encTerm)) : LinesT w B (qs ++ [(l, r)]) := by
  have hlt := own_block_lt ho
  refine ⟨fun i hi => ?_, fun i j hi hj hij x y hx hy => ?_⟩
  · rw [List.length_append, List.length_singleton] at hi
    by_cases hc : i < qs.length
    · rw [List.getElem_append_left hc]; exact h.1 i hc
    · obtain rfl : i = qs.length := by omega
      rw [List.getElem_append_right (Nat.le_refl _)]
      simp only [Nat.sub_self, List.getElem_cons_zero]
      exact own_base ho hB
  · rw [List.length_append, List.length_singleton] at hi hj
    by_cases hc : i < qs.length
    · rw [List.getElem_append_left hc] at hx
      by_cases hd : j < qs.length
      · rw [List.getElem_append_left hd] at hy
        exact h.2 i j hc hd hij x y hx hy
      · obtain rfl : j = qs.length := by omega
        rw [List.getElem_append_right (Nat.le_refl _)] at hy
        simp only [Nat.sub_self, List.getElem_cons_zero] at hy
        have := hE i hc x hx; have := (hlt y hy).1; omega
    · obtain rfl : i = qs.length := by omega
      have hd : j < qs.length := by omega
      rw [List.getElem_append_left hd] at hy
      rw [List.getElem_append_right (Nat.le_refl _)] at hx
      simp only [Nat.sub_self, List.getElem_cons_zero] at hx
      have := hE j hd y hy; have := (hlt x hx).1; omega
def renQ (f t : ByteArray) (p : ProgD) : ProgD := ⟨p.name, p.inputs.map (swp f t), p.vars.map (swp f t), p.outputs.map (swp f t), swp f t p.guard, []⟩
theorem renS_any (v : Value) (s f t : ByteArray) (w : World) (h : OneS w v s) :
    Calls Tryd.prog 79 #[v, .string f, .string t] w fun e w' => ∃ r, e = .returned r ∧ New w w' ∧ OneS w' r (swp f t s) := by
  obtain ⟨b, c, rfl, h0, hb, hc⟩ := h
  refine (renamed_any _ [s] f t w ⟨_, _, rfl, by simp, ⟨(fun h => by cases h), h0⟩, fun j u hu => ?_⟩ (by simp)).mono fun e w' ⟨r, he, hn, ho⟩ => ?_
  · have hj : j = 0 := by have := (List.getElem?_eq_some_iff.1 hu).1; simp at this; omega
    subst hj
    have : u = .string s := by simpa using hu.symm
    subst this
    exact ⟨b, 0, rfl, hb, hc⟩
  · obtain ⟨g, cap, rfl, h1, h2, h3⟩ := one_of_own ho
    exact ⟨_, he, hn, g, cap, rfl, (own_rd ho).cap, h2, h3⟩
/-- A program in memory of the call's own, no two of its lists in one block but for its names. -/
def ParP (w : World) (B : Nat) (p : ProgD) (iv vv ov lv : Value) : Prop := RowsS w B p iv vv ov ∧ ∃ qs : List LV, qs.map Prod.fst = p.lines ∧ w.ownsRow B 55 2 lv qs.length (qs.flatMap encLV) ∧ LinesT w B qs
def RetPQ (w : World) (p : ProgD) (e : Ending) (w' : World) : Prop := ∃ iv vv ov lv, e = .returned (valP p iv vv ov lv) ∧ New w w' ∧ ParP w' (w.heap.size + 1 + 1) p iv vv ov lv
theorem parP_of {w : World} {B k : Nat} {p : ProgD} {f t : ByteArray} {iv vv ov lv : Value} {qs : List LV} (h1 : RowsS w B (renQ f t p) iv vv ov) (hq : qs.map Prod.fst = p.lines.map (renL f t)) (hk : qs.length = k) (h2 : w.ownsRow B 55 2 lv k (qs.flatMap encLV)) (h3 : LinesT w B qs) : ParP w B (renP f t p) iv vv ov lv := by
  subst hk; exact ⟨h1, qs, hq, h2, h3⟩
theorem retPQ_yes {fn : Func} {w0 w : World} {a : Act} {p : ProgD} {f t : ByteArray} {i v o l : Value} (hd : a.defers = []) (hn : New w0 w) (h : ParP w (w0.heap.size + 1 + 1) (renP f t p) i v o l) (hr : (results fn a.tmps).run Tryd.prog w = .ok (.agg #[.string p.name, i, v, o, .string (swp f t p.guard), l]) w) : bodyPost Tryd.prog fn (RetPQ w0 (renP f t p)) .ret a w :=
  ⟨hd, _, hr, i, v, o, l, rfl, hn, h⟩
theorem rowsS_of {w : World} {B : Nat} {p : ProgD} {f t : ByteArray} {iv vv ov : Value} (h1 : OwnSt w B iv p.inputs.length (p.inputs.map (swp f t))) (h2 : OwnSt w B vv p.vars.length (p.vars.map (swp f t))) (h3 : OwnSt w B ov p.outputs.length (p.outputs.map (swp f t))) : RowsS w B (renQ f t p) iv vv ov := by
  simp only [RowsS, renQ, List.length_map]; exact ⟨h1, h2, h3⟩
set_option maxHeartbeats 8000000 in
theorem iRen0_any (p : ProgD) (iv vv ov lv : Value) (f t : ByteArray) (w : World) (hp : RdP w p iv vv ov lv) (hf : FitP p) (hw40 : fewL p) :
    Calls Tryd.prog 48 #[valP p iv vv ov lv, .string f, .string t] w (RetPQ w (renP f t p)) := by
  have HP := Lib.hid hp
  obtain ⟨ia, ic, rfl, _⟩ := id hp.ins
  obtain ⟨va, vc, rfl, _⟩ := id hp.vars
  obtain ⟨oa, oc, rfl, _⟩ := id hp.outs
  obtain ⟨_, _, _, ps, hps, hl1, hl2⟩ := hp
  obtain ⟨la, cap, rfl, hm, HC⟩ := Rd.flat encLV_len (by omega) hl1
  obtain ⟨h40, ht40⟩ := hw40
  have hpm : ps.length ≤ 40 := by rw [← hps, List.length_map] at h40; exact h40
  have HLG := Lib.hid (fun k (h : k < ps.length) => linesB_get hps k h)
  have HPL := Lib.hid (show p.lines.length = ps.length by rw [← hps, List.length_map])
  have H40 := Lib.hid ht40
  have HT := Lib.hid hl2
  have HF := Lib.hid hf
  have zz : w.heap.size < w.heap.size + 1 + 1 := by omega
  clear hl1 hl2 hps h40 ht40 hf
  go_enter Tryd.func48, Tryd.ntmps48
  go_wp2_with fail
  refine RG.wp_facts [fun X _ => X = .pointer (some ⟨w.heap.size, 0, none⟩), fun X _ => X = .string p.name, fun X _ => X = .pointer (some ⟨w.heap.size, 1, none⟩), fun X _ => X = .slice ia p.inputs.length ic, fun X _ => X = .string f, fun X _ => X = .string t, fun X W' => ∃ q k, X = .slice q p.inputs.length k ∧ OwnSt W' (w.heap.size + 1 + 1) (.slice q p.inputs.length k) p.inputs.length (p.inputs.map (swp f t)), fun X _ => X = .pointer (some ⟨w.heap.size, 2, none⟩), fun X _ => X = .slice va p.vars.length vc, fun X _ => X = .string f, fun X _ => X = .string t, fun X W' => ∃ q k, X = .slice q p.vars.length k ∧ OwnSt W' (w.heap.size + 1 + 1) (.slice q p.vars.length k) p.vars.length (p.vars.map (swp f t)), fun X _ => X = .pointer (some ⟨w.heap.size, 3, none⟩), fun X _ => X = .slice oa p.outputs.length oc, fun X _ => X = .string f, fun X _ => X = .string t, fun X W' => ∃ q k, X = .slice q p.outputs.length k ∧ OwnSt W' (w.heap.size + 1 + 1) (.slice q p.outputs.length k) p.outputs.length (p.outputs.map (swp f t)), fun X _ => X = .pointer (some ⟨w.heap.size, 4, none⟩), fun X _ => X = .string p.guard, fun X W' => OneS W' X p.guard, fun X _ => X = .string f, fun X _ => X = .string t, fun X W' => OneS W' X (swp f t p.guard), fun X W' => PtS W' X (swp f t p.guard), fun X _ => X = .string (swp f t p.guard), fun X W' => ∃ a1 k1 a2 k2 a3 k3, X = .agg #[.string p.name, .slice a1 p.inputs.length k1, .slice a2 p.vars.length k2, .slice a3 p.outputs.length k3, .string (swp f t p.guard), .slice none 0 0] ∧ RowsS W' (w.heap.size + 1 + 1) (renQ f t p) (.slice a1 p.inputs.length k1) (.slice a2 p.vars.length k2) (.slice a3 p.outputs.length k3), fun X W' => ∃ q, X = .pointer (some ⟨q, 0, none⟩) ∧ w.heap.size + 1 + 1 ≤ q ∧ Blk W' q #[.string ⟨#[]⟩, .slice none 0 0, .slice none 0 0, .slice none 0 0, .string ⟨#[]⟩, .slice none 0 0] 29] (by kernel_rfl) (by kernel_rfl) ⟨RG.stable_eq _, RG.stable_eq _, RG.stable_eq _, RG.stable_eq _, RG.stable_eq _, RG.stable_eq _, fun X w0 w1 hn ⟨a19, k19, t19, r19⟩ => ⟨a19, k19, t19, OwnSt.new r19 hn⟩, RG.stable_eq _, RG.stable_eq _, RG.stable_eq _, RG.stable_eq _, fun X w0 w1 hn ⟨a24, k24, t24, r24⟩ => ⟨a24, k24, t24, OwnSt.new r24 hn⟩, RG.stable_eq _, RG.stable_eq _, RG.stable_eq _, RG.stable_eq _, fun X w0 w1 hn ⟨a29, k29, t29, r29⟩ => ⟨a29, k29, t29, OwnSt.new r29 hn⟩, RG.stable_eq _, RG.stable_eq _, fun X w0 w1 hn ⟨b32, n32, t32, m32, l32, d32⟩ => OneS.new ⟨b32, n32, t32, m32, l32, d32⟩ hn, RG.stable_eq _, RG.stable_eq _, fun X w0 w1 hn ⟨b35, n35, t35, m35, l35, d35⟩ => OneS.new ⟨b35, n35, t35, m35, l35, d35⟩ hn, fun X w0 w1 hn ⟨g36, t36, l36, d36⟩ => PtS.new ⟨g36, t36, l36, d36⟩ hn, RG.stable_eq _, fun X w0 w1 hn ⟨a1, k1, a2, k2, a3, k3', t38, q38⟩ => ⟨a1, k1, a2, k2, a3, k3', t38, RowsS.new q38 hn⟩, fun X w0 w1 hn ⟨q4, t4, l4, o4⟩ => ⟨q4, t4, l4, o4.new hn⟩, trivial⟩ ?_ ?_
  · refine ⟨?_, ?_, ?_, ?_, ?_, ?_, ?_, ?_, ?_, ?_, ?_, ?_, ?_, ?_, ?_, ?_, ?_, ?_, ?_, ?_, ?_, ?_, ?_, ?_, ?_, ?_, ?_, trivial⟩
    · intro a w9 hw ho hk
      refine .inl ⟨by rfl, ?_⟩
      have t2 := ho 3 rfl
      dsimp at t2
      try with_reducible replace hw := New.undrawN hw
      try with_reducible replace hw := New.undraw hw
      obtain ⟨c, f'⟩ := hw.rules
      go_simp
      exact New.refl _
    · intro a w9 hw ho hk
      refine .inl ⟨by rfl, ?_⟩
      have t13 : a.tmps[13]?.getD undef = .pointer (some ⟨w.heap.size, 0, none⟩) := hk 0 13 (by kernel_rfl) rfl
      try with_reducible replace hw := New.undrawN hw
      try with_reducible replace hw := New.undraw hw
      obtain ⟨c, f'⟩ := hw.rules
      go_simp
      exact New.refl _
    · intro a w9 hw ho hk
      refine .inl ⟨by rfl, ?_⟩
      have t2 := ho 3 rfl
      dsimp at t2
      try with_reducible replace hw := New.undrawN hw
      try with_reducible replace hw := New.undraw hw
      obtain ⟨c, f'⟩ := hw.rules
      go_simp
      exact New.refl _
    · intro a w9 hw ho hk
      refine .inl ⟨by rfl, ?_⟩
      have t15 : a.tmps[15]?.getD undef = .pointer (some ⟨w.heap.size, 1, none⟩) := hk 2 15 (by kernel_rfl) rfl
      try with_reducible replace hw := New.undrawN hw
      try with_reducible replace hw := New.undraw hw
      obtain ⟨c, f'⟩ := hw.rules
      go_simp
      exact New.refl _
    · intro a w9 hw ho hk
      refine .inl ⟨by rfl, ?_⟩
      have t2 := ho 1 rfl
      dsimp at t2
      try with_reducible replace hw := New.undrawN hw
      try with_reducible replace hw := New.undraw hw
      obtain ⟨c, f'⟩ := hw.rules
      go_simp
      exact New.refl _
    · intro a w9 hw ho hk
      refine .inl ⟨by rfl, ?_⟩
      have t2 := ho 2 rfl
      dsimp at t2
      try with_reducible replace hw := New.undrawN hw
      try with_reducible replace hw := New.undraw hw
      obtain ⟨c, f'⟩ := hw.rules
      go_simp
      exact New.refl _
    · intro a w9 hw ho hk
      refine .inl ⟨by rfl, ?_⟩
      have t16 : a.tmps[16]?.getD undef = .slice ia p.inputs.length ic := hk 3 16 (by kernel_rfl) rfl
      have t17 : a.tmps[17]?.getD undef = .string f := hk 4 17 (by kernel_rfl) rfl
      have t18 : a.tmps[18]?.getD undef = .string t := hk 5 18 (by kernel_rfl) rfl
      go_simp
      refine (renamed_any _ p.inputs f t _ (Rd.new HP.out.ins (New.trans (((New.refl w).alloc _).alloc _) hw)) HF.out.insl).mono ?_; rintro e w2 ⟨r, rfl, hb, o⟩
      have hws := hw.size; simp only [World.size_alloc] at hws; obtain ⟨a9, k9, rfl⟩ := own_slice o; exact ⟨hb, _, rfl, _, _, rfl, OwnSt.of o hws⟩
    · intro a w9 hw ho hk
      refine .inl ⟨by rfl, ?_⟩
      have t2 := ho 3 rfl
      dsimp at t2
      try with_reducible replace hw := New.undrawN hw
      try with_reducible replace hw := New.undraw hw
      obtain ⟨c, f'⟩ := hw.rules
      go_simp
      exact New.refl _
    · intro a w9 hw ho hk
      refine .inl ⟨by rfl, ?_⟩
      have t20 : a.tmps[20]?.getD undef = .pointer (some ⟨w.heap.size, 2, none⟩) := hk 7 20 (by kernel_rfl) rfl
      try with_reducible replace hw := New.undrawN hw
      try with_reducible replace hw := New.undraw hw
      obtain ⟨c, f'⟩ := hw.rules
      go_simp
      exact New.refl _
    · intro a w9 hw ho hk
      refine .inl ⟨by rfl, ?_⟩
      have t2 := ho 1 rfl
      dsimp at t2
      try with_reducible replace hw := New.undrawN hw
      try with_reducible replace hw := New.undraw hw
      obtain ⟨c, f'⟩ := hw.rules
      go_simp
      exact New.refl _
    · intro a w9 hw ho hk
      refine .inl ⟨by rfl, ?_⟩
      have t2 := ho 2 rfl
      dsimp at t2
      try with_reducible replace hw := New.undrawN hw
      try with_reducible replace hw := New.undraw hw
      obtain ⟨c, f'⟩ := hw.rules
      go_simp
      exact New.refl _
    · intro a w9 hw ho hk
      refine .inl ⟨by rfl, ?_⟩
      have t21 : a.tmps[21]?.getD undef = .slice va p.vars.length vc := hk 8 21 (by kernel_rfl) rfl
      have t22 : a.tmps[22]?.getD undef = .string f := hk 9 22 (by kernel_rfl) rfl
      have t23 : a.tmps[23]?.getD undef = .string t := hk 10 23 (by kernel_rfl) rfl
      go_simp
      refine (renamed_any _ p.vars f t _ (Rd.new HP.out.vars (New.trans (((New.refl w).alloc _).alloc _) hw)) HF.out.varsl).mono ?_; rintro e w2 ⟨r, rfl, hb, o⟩
      have hws := hw.size; simp only [World.size_alloc] at hws; obtain ⟨a9, k9, rfl⟩ := own_slice o; exact ⟨hb, _, rfl, _, _, rfl, OwnSt.of o hws⟩
    · intro a w9 hw ho hk
      refine .inl ⟨by rfl, ?_⟩
      have t2 := ho 3 rfl
      dsimp at t2
      try with_reducible replace hw := New.undrawN hw
      try with_reducible replace hw := New.undraw hw
      obtain ⟨c, f'⟩ := hw.rules
      go_simp
      exact New.refl _
    · intro a w9 hw ho hk
      refine .inl ⟨by rfl, ?_⟩
      have t25 : a.tmps[25]?.getD undef = .pointer (some ⟨w.heap.size, 3, none⟩) := hk 12 25 (by kernel_rfl) rfl
      try with_reducible replace hw := New.undrawN hw
      try with_reducible replace hw := New.undraw hw
      obtain ⟨c, f'⟩ := hw.rules
      go_simp
      exact New.refl _
    · intro a w9 hw ho hk
      refine .inl ⟨by rfl, ?_⟩
      have t2 := ho 1 rfl
      dsimp at t2
      try with_reducible replace hw := New.undrawN hw
      try with_reducible replace hw := New.undraw hw
      obtain ⟨c, f'⟩ := hw.rules
      go_simp
      exact New.refl _
    · intro a w9 hw ho hk
      refine .inl ⟨by rfl, ?_⟩
      have t2 := ho 2 rfl
      dsimp at t2
      try with_reducible replace hw := New.undrawN hw
      try with_reducible replace hw := New.undraw hw
      obtain ⟨c, f'⟩ := hw.rules
      go_simp
      exact New.refl _
    · intro a w9 hw ho hk
      refine .inl ⟨by rfl, ?_⟩
      have t26 : a.tmps[26]?.getD undef = .slice oa p.outputs.length oc := hk 13 26 (by kernel_rfl) rfl
      have t27 : a.tmps[27]?.getD undef = .string f := hk 14 27 (by kernel_rfl) rfl
      have t28 : a.tmps[28]?.getD undef = .string t := hk 15 28 (by kernel_rfl) rfl
      go_simp
      refine (renamed_any _ p.outputs f t _ (Rd.new HP.out.outs (New.trans (((New.refl w).alloc _).alloc _) hw)) HF.out.outsl).mono ?_; rintro e w2 ⟨r, rfl, hb, o⟩
      have hws := hw.size; simp only [World.size_alloc] at hws; obtain ⟨a9, k9, rfl⟩ := own_slice o; exact ⟨hb, _, rfl, _, _, rfl, OwnSt.of o hws⟩
    · intro a w9 hw ho hk
      refine .inl ⟨by rfl, ?_⟩
      have t2 := ho 3 rfl
      dsimp at t2
      try with_reducible replace hw := New.undrawN hw
      try with_reducible replace hw := New.undraw hw
      obtain ⟨c, f'⟩ := hw.rules
      go_simp
      exact New.refl _
    · intro a w9 hw ho hk
      refine .inl ⟨by rfl, ?_⟩
      have t30 : a.tmps[30]?.getD undef = .pointer (some ⟨w.heap.size, 4, none⟩) := hk 17 30 (by kernel_rfl) rfl
      try with_reducible replace hw := New.undrawN hw
      try with_reducible replace hw := New.undraw hw
      obtain ⟨c, f'⟩ := hw.rules
      go_simp
      exact New.refl _
    · intro a w9 hw ho hk
      refine .inl ⟨by rfl, ?_⟩
      have t31 : a.tmps[31]?.getD undef = .string p.guard := hk 18 31 (by kernel_rfl) rfl
      go_simp
      first | exact ⟨(New.refl _).alloc _, _, rfl, _, _, rfl, Nat.le_refl _, by simp, by rw [cell_alloc_new _ _ _ _ _ rfl]; rfl⟩ | exact ⟨(New.refl _).alloc _, _, _, rfl, Nat.le_refl _, by simp, by rw [cell_alloc_new _ _ _ _ _ rfl]; rfl⟩
    · intro a w9 hw ho hk
      refine .inl ⟨by rfl, ?_⟩
      have t2 := ho 1 rfl
      dsimp at t2
      try with_reducible replace hw := New.undrawN hw
      try with_reducible replace hw := New.undraw hw
      obtain ⟨c, f'⟩ := hw.rules
      go_simp
      exact New.refl _
    · intro a w9 hw ho hk
      refine .inl ⟨by rfl, ?_⟩
      have t2 := ho 2 rfl
      dsimp at t2
      try with_reducible replace hw := New.undrawN hw
      try with_reducible replace hw := New.undraw hw
      obtain ⟨c, f'⟩ := hw.rules
      go_simp
      exact New.refl _
    · intro a w9 hw ho hk
      refine .inl ⟨by rfl, ?_⟩
      obtain ⟨b32, n32, t32, m32, l32, d32⟩ : OneS w9 (a.tmps[32]?.getD undef) p.guard := hk 19 32 (by kernel_rfl) rfl
      have t33 : a.tmps[33]?.getD undef = .string f := hk 20 33 (by kernel_rfl) rfl
      have t34 : a.tmps[34]?.getD undef = .string t := hk 21 34 (by kernel_rfl) rfl
      go_simp
      refine (renS_any _ p.guard f t _ ⟨b32, n32, rfl, m32, l32, d32⟩).mono ?_; rintro e w2 ⟨r, rfl, hb, ho⟩
      first | exact ⟨hb, _, rfl, ho⟩ | exact ⟨hb, ho⟩
    · intro a w9 hw ho hk
      refine .inl ⟨by rfl, ?_⟩
      obtain ⟨b35, n35, t35, m35, l35, d35⟩ : OneS w9 (a.tmps[35]?.getD undef) (swp f t p.guard) := hk 22 35 (by kernel_rfl) rfl
      go_simp; first | exact ⟨New.refl _, _, rfl, _, rfl, l35, d35⟩ | exact ⟨New.refl _, _, rfl, l35, d35⟩
    · intro a w9 hw ho hk
      refine .inl ⟨by rfl, ?_⟩
      obtain ⟨g36, t36, l36, d36⟩ : PtS w9 (a.tmps[36]?.getD undef) (swp f t p.guard) := hk 23 36 (by kernel_rfl) rfl
      go_simp; exact New.refl _
    · intro a w9 hw ho hk
      refine .inl ⟨by rfl, ?_⟩
      have t14 : a.tmps[14]?.getD undef = .string p.name := hk 1 14 (by kernel_rfl) rfl
      obtain ⟨a19, k19, t19, r19⟩ : ∃ q k, (a.tmps[19]?.getD undef) = .slice q p.inputs.length k ∧ OwnSt w9 (w.heap.size + 1 + 1) (.slice q p.inputs.length k) p.inputs.length (p.inputs.map (swp f t)) := hk 6 19 (by kernel_rfl) rfl
      obtain ⟨a24, k24, t24, r24⟩ : ∃ q k, (a.tmps[24]?.getD undef) = .slice q p.vars.length k ∧ OwnSt w9 (w.heap.size + 1 + 1) (.slice q p.vars.length k) p.vars.length (p.vars.map (swp f t)) := hk 11 24 (by kernel_rfl) rfl
      obtain ⟨a29, k29, t29, r29⟩ : ∃ q k, (a.tmps[29]?.getD undef) = .slice q p.outputs.length k ∧ OwnSt w9 (w.heap.size + 1 + 1) (.slice q p.outputs.length k) p.outputs.length (p.outputs.map (swp f t)) := hk 16 29 (by kernel_rfl) rfl
      have t37 : a.tmps[37]?.getD undef = .string (swp f t p.guard) := hk 24 37 (by kernel_rfl) rfl
      go_simp
      first | exact ⟨New.refl _, _, rfl, _, _, _, _, _, _, rfl, rowsS_of r19 r24 r29⟩ | exact ⟨New.refl _, a19, k19, a24, k24, a29, k29, by simp, rowsS_of r19 r24 r29⟩
    · intro a w9 hw ho hk
      refine .inl ⟨by rfl, ?_⟩
      have hws := hw.size; simp only [World.size_alloc] at hws; go_simp; first | exact ⟨(New.refl _).alloc _, _, rfl, _, rfl, hws, Blk.alloc_at rfl⟩ | exact ⟨(New.refl _).alloc _, _, by simp, hws, Blk.alloc_at rfl⟩
  intro w6 b6
  rintro _ rfl _ rfl _ rfl _ rfl _ rfl _ rfl _ ⟨a19, k19, rfl, r19⟩ _ rfl _ rfl _ rfl _ rfl _ ⟨a24, k24, rfl, r24⟩ _ rfl _ rfl _ rfl _ rfl _ ⟨a29, k29, rfl, r29⟩ _ rfl _ rfl _ ⟨b32, n32, rfl, m32, l32, d32⟩ _ rfl _ rfl _ ⟨b35, n35, rfl, m35, l35, d35⟩ _ ⟨g36, rfl, l36, d36⟩ _ rfl _ ⟨a1, k1, a2, k2, a3, k3', rfl, q38⟩ _ ⟨O, rfl, hO, KO⟩
  have N6 : New w w6 := New.trans (((New.refl w).alloc _).alloc _) b6
  have KP6 : Blk w6 w.heap.size #[.string p.name, .slice ia p.inputs.length ic, .slice va p.vars.length vc, .slice oa p.outputs.length oc, .string p.guard, .slice la ps.length cap] 29 := ((Blk.alloc_at rfl).alloc _).new b6
  have KR6 : Blk w6 (w.heap.size + 1) #[.string ⟨#[]⟩, .slice none 0 0, .slice none 0 0, .slice none 0 0, .string ⟨#[]⟩, .slice none 0 0] 29 := (Blk.alloc_at (World.size_alloc _ _).symm).new b6
  obtain ⟨cO, fO⟩ := KO.rules
  have hO2 := KO.lt
  have hwO : w.heap.size ≤ O := by omega
  have hnP : w.heap.size ≠ O := by omega
  have hnR : w.heap.size + 1 ≠ O := by omega
  have hnP' : O ≠ w.heap.size := by omega
  have hnR' : O ≠ w.heap.size + 1 := by omega
  have K7 := KO.setP6 (.string p.name) (.slice a1 p.inputs.length k1) (.slice a2 p.vars.length k2) (.slice a3 p.outputs.length k3') (.string (swp f t p.guard)) (.slice none 0 0)
  have N7 := New.set6 N6 hwO (.string p.name) (.slice a1 p.inputs.length k1) (.slice a2 p.vars.length k2) (.slice a3 p.outputs.length k3') (.string (swp f t p.guard)) (.slice none 0 0)
  have KP7 := KP6.setP6_ne hnP (.string p.name) (.slice a1 p.inputs.length k1) (.slice a2 p.vars.length k2) (.slice a3 p.outputs.length k3') (.string (swp f t p.guard)) (.slice none 0 0)
  have KR7 := KR6.setP6_ne hnR (.string p.name) (.slice a1 p.inputs.length k1) (.slice a2 p.vars.length k2) (.slice a3 p.outputs.length k3') (.string (swp f t p.guard)) (.slice none 0 0)
  have RS7 := Lib.hid (RowsS.set6 q38 KO (by decide) (.string p.name) (.slice a1 p.inputs.length k1) (.slice a2 p.vars.length k2) (.slice a3 p.outputs.length k3') (.string (swp f t p.guard)) (.slice none 0 0))
  clear r19 r24 r29 q38 l32 d32 l35 d35 l36 d36
  obtain ⟨cP, fP⟩ := KP6.rules
  have hP6 := KP6.lt
  simp only [RG.EndAll, List.nil_append, List.cons_append, List.length_cons, List.length_nil, Nat.zero_add, Nat.reduceAdd, List.take_succ_cons, List.take_zero, List.drop_succ_cons, List.drop_zero, RG.putAll, Act.put, List.setIfInBounds_toArray, List.set_cons_succ, List.set_cons_zero]
  go_wp2_with fail
  clear cO fO cP fP KO KP6 KR6 b6
  go_loopw [42] (fun i wr => ∃ (k : Nat) (qs : List LV) (ra : Option Addr) (rc : Nat), k ≤ ps.length ∧ i = .int .i64 k ∧ Hid (qs.map Prod.fst = (p.lines.take k).map (renL f t)) ∧ Hid (qs.length = k) ∧ New w wr ∧ Blk wr w.heap.size #[.string p.name, .slice ia p.inputs.length ic, .slice va p.vars.length vc, .slice oa p.outputs.length oc, .string p.guard, .slice la ps.length cap] 29 ∧ Blk wr (w.heap.size + 1) #[.string ⟨#[]⟩, .slice none 0 0, .slice none 0 0, .slice none 0 0, .string ⟨#[]⟩, .slice none 0 0] 29 ∧ Blk wr O #[.string p.name, .slice a1 p.inputs.length k1, .slice a2 p.vars.length k2, .slice a3 p.outputs.length k3', .string (swp f t p.guard), .slice ra k rc] 29 ∧
    Hid (RowsS wr (w.heap.size + 1 + 1) (renQ f t p) (.slice a1 p.inputs.length k1) (.slice a2 p.vars.length k2) (.slice a3 p.outputs.length k3')) ∧ Hid (wr.ownsRow (w.heap.size + 1 + 1) 55 2 (.slice ra k rc) k (qs.flatMap encLV)) ∧ Hid (LinesT wr (w.heap.size + 1 + 1) qs)) (fun i _ => ps.length - (intOf i).toNat)
  case atStart => exact ⟨0, [], none, 0, Nat.zero_le _, rfl, Lib.hid rfl, Lib.hid rfl, N7, KP7, KR7, K7, RS7, Lib.hid ⟨rfl, .inl ⟨rfl, rfl⟩⟩, Lib.hid ⟨(fun i h => by simp at h), (fun i j h => by simp at h)⟩⟩
  case round =>
    obtain ⟨k, qs, ra, rc, hk, rfl, hqs, hql, hb, KP, KR, KO, RS, OL, OT⟩ := hrel
    clear K7 N7 KP7 KR7 RS7
    have hbz := hb.size
    have hPr := KP.lt
    have hRr := KR.lt
    have hOr := KO.lt
    by_cases hlt : k < ps.length
    · obtain ⟨b, off, rfl, hbl, hx⟩ := HC.out k hlt
      obtain ⟨ea, ec, hev, hem, _⟩ := id (HT.out ps[k] (List.getElem_mem hlt))
      have HTK := Lib.hid (HT.out ps[k] (List.getElem_mem hlt))
      obtain ⟨hlp, hle⟩ := HLG.out k hlt
      have HRN := ren_next (f := f) (t := t) hlp
      rw [hle] at HRN
      have hx40 : ps[k].1.terms.length ≤ 40 := by have := H40.out _ (List.getElem_mem hlp); rwa [hle] at this
      clear hle
      rw [show encLV ps[k] = [.string ps[k].1.target, ps[k].2] from rfl, hev] at hx
      rw [hev] at HTK
      have x0 := (hb.cell hbl).trans (hx 0 _ (by omega) rfl)
      have x1 := (hb.cell hbl).trans (hx 1 _ (by omega) rfl)
      rw [Nat.add_zero] at x0
      clear hev hx
      have hbr : b < wr.heap.size := by omega
      generalize ps[k].1 = X at *
      replace HRN := Lib.hid HRN
      obtain ⟨TG, hTG⟩ : ∃ TG, X.target = TG := ⟨_, rfl⟩
      rw [hTG] at x0
      have hXT := Lib.hid (show renL f t X = ⟨swp f t TG, X.terms.map (renT f t)⟩ by rw [renL, hTG])
      clear hTG
      go_wp2_with fail
      refine (cloneT_any _ X.terms _ (Rd.new HTK.out (by repeat (first | with_reducible exact New.refl _ | with_reducible assumption | with_reducible refine New.drew ?_ | with_reducible refine New.drewN ?_ _ | with_reducible refine New.alloc ?_ _ | with_reducible refine New.setCell ?_ (by first | (simp; done) | (simp; omega) | omega) _ | with_reducible refine New.trans ?_ (by with_reducible assumption)))) (by omega)).mono ?_
      rintro e w3 ⟨r, rfl, b3, own1⟩
      obtain ⟨ta, tc, rfl⟩ := own_slice own1
      have KL := (Blk.alloc_at rfl).new b3
      have n3 : New wr w3 := ((New.refl wr).alloc _).trans b3
      simp only [World.size_alloc] at own1
      replace own1 := Lib.hid own1
      have hL3 := KL.lt
      clear x0 x1
      go_wp2_with fail
      go_loopw [51] (fun i w2 => ∃ j : Nat, j ≤ X.terms.length ∧ i = .int .i64 j ∧ New (wr.alloc (.cells #[.string TG, .slice ea X.terms.length ec] 55)) w2 ∧ w2.ownsRow (wr.heap.size + 1) 53 3 (.slice ta X.terms.length tc) X.terms.length ((mixR f t X.terms j).flatMap encTerm)) (fun i _ => X.terms.length - (intOf i).toNat)
      case atStart => exact ⟨0, Nat.zero_le _, rfl, b3, by rw [mixR_zero]; exact own1.out⟩
      case round =>
        obtain ⟨j, hj, rfl, hb2, hown2⟩ := hrel
        clear own1
        rename World => w2
        have hbz2 := hb2.size
        simp only [World.size_alloc] at hbz2
        by_cases hlj : j < X.terms.length
        · obtain ⟨g, rfl, hgw, hg2⟩ := one_form hown2 (by omega)
          have hcc := fun i u (hi : i < 3) (hu : (encTerm X.terms[j])[i]? = some u) => (show w2.cell? ⟨g, j * 3 + i, none⟩ = some u by rw [hown2.cellAt _ (by omega), flat_at encTerm 3 encTerm_len _ j (by rw [mixR_len (by omega)]; exact hlj) i hi, mixR_at hlj]; exact hu)
          have d0 := hcc 0 _ (by omega) rfl
          have d1 := hcc 1 _ (by omega) rfl
          have d2 := hcc 2 _ (by omega) rfl
          rw [Nat.add_zero] at d0
          clear hcc
          have HN := Lib.hid (mixR_name (f := f) (t := t) hlj)
          generalize X.terms[j].name = nm at *
          generalize X.terms[j].kind = kd at *
          generalize X.terms[j].num = nu at *
          go_wp2_with fail
          refine (renS_any _ nm f t _ ⟨_, _, rfl, Nat.le_refl _, by simp, by rw [cell_alloc_new _ _ _ _ _ (by simp)]; rfl⟩).mono ?_
          rintro e w5 ⟨r5, rfl, b5, ⟨g5, c5, rfl, _, h5b, k5⟩⟩
          have n25 : New w2 w5 := (((New.refl w2).alloc _).alloc _).trans b5
          have own5 := own_new hown2 n25
          have f5 := own5.frozenAt (j * 3 + 1)
          have d5 := (n25.cell (o := j * 3 + 1) hg2).trans d1
          have hg5 : g < w5.heap.size := Nat.lt_of_lt_of_le hg2 n25.size
          clear d0 d1 d2
          go_wp2_with fail
          go_roundw
          case rel =>
            have h1 := (own5.stored (j * 3 + 1) (.string (swp f t nm))).1
            rw [HN.out] at h1
            exact ⟨j + 1, by omega, by go_num, (hb2.trans n25).setCell (p := ⟨g, j * 3 + 1, none⟩) (by simp; omega) _, h1⟩
          case measure => simp [intOf]; omega
        · obtain rfl : j = X.terms.length := by omega
          rw [mixR_all] at hown2
          have n2 : New wr w2 := ((New.refl wr).alloc _).trans hb2
          have KL2 : Blk w2 wr.heap.size #[.string TG, .slice ea X.terms.length ec] 55 := (Blk.alloc_at rfl).new hb2
          have KO2 := KO.new n2
          obtain ⟨cL, fL⟩ := KL2.rules
          obtain ⟨cO, fO⟩ := KO2.rules
          have hL2 := KL2.lt
          have hOl := KO2.lt
          have OT2 := Lib.hid (OT.out.new n2)
          have OL2 := own_new OL.out n2
          have RS2 := Lib.hid (RS.out.new n2)
          have N2 := hb.trans n2
          have HS1 := Lib.hid (fun (w0 : World) (v : Value) (h : OneS w0 v TG) => renS_any v TG f t w0 h)
          have hN2z := N2.size
          obtain ⟨i0, hi, hz0, hz1, hz2⟩ := info_parts infoLineQ
          clear n3 b3 KL hL3
          go_wp2_with fail
          go_region_law (first | (go_simp; go_at_call 79; refine (HS1.out _ _ (by first | exact OneS.new (one_alloc _ _ _) ((New.refl _).drew) | exact one_alloc _ _ _)).mono ?_; rintro e w5 ⟨r5, rfl, b5, ⟨g5, c5, rfl, _, h5b, k5⟩⟩; have z5 := b5.size; (try simp only [World.size_alloc, World.size_drew] at z5); have m5 : New w2 w5 := (by repeat (first | with_reducible exact New.refl _ | with_reducible assumption | with_reducible refine New.drew ?_ | with_reducible refine New.drewN ?_ _ | with_reducible refine New.alloc ?_ _ | with_reducible refine New.setCell ?_ (by first | (simp; done) | (simp; omega) | omega) _ | with_reducible refine New.trans ?_ (by with_reducible assumption))); obtain ⟨c5', f5'⟩ := (KO2.new m5).rules; have hO5 := (KO2.new m5).lt) | (refine step_append_lies _ (by rfl) _ _ _ (by rfl) (w.heap.size + 1 + 1) 55 i0 (Value.agg #[.string ⟨#[]⟩, .slice none 0 0]) 2 40 Tryd.underlying27 hi hz0 hz1 hz2 rfl (by decide) _ k _ (by rfl) (own_new OL2 (by repeat (first | with_reducible exact New.refl _ | with_reducible assumption | with_reducible refine New.drew ?_ | with_reducible refine New.drewN ?_ _ | with_reducible refine New.alloc ?_ _ | with_reducible refine New.setCell ?_ (by first | (simp; done) | (simp; omega) | omega) _ | with_reducible refine New.trans ?_ (by with_reducible assumption)))) _ 1 _ [.string (swp f t TG), .slice ta X.terms.length tc] (by rfl) (by simp) (fun j u hj => alloc_row (by first | rfl | simp) j u hj) (by simp [Value.oneCell']) (by omega) (by unfold maxLen; omega) (by omega) (by first | omega | (simp; omega)) _ rfl ?_; intro g6 cap6 wa howna hgra hat hlt6; have K9 := Blk.grown (KO2.new (by repeat (first | with_reducible exact New.refl _ | with_reducible assumption | with_reducible refine New.drew ?_ | with_reducible refine New.drewN ?_ _ | with_reducible refine New.alloc ?_ _ | with_reducible refine New.setCell ?_ (by first | (simp; done) | (simp; omega) | omega) _ | with_reducible refine New.trans ?_ (by with_reducible assumption)))) hgra (blk_ne_ownK (KO2.new (by repeat (first | with_reducible exact New.refl _ | with_reducible assumption | with_reducible refine New.drew ?_ | with_reducible refine New.drewN ?_ _ | with_reducible refine New.alloc ?_ _ | with_reducible refine New.setCell ?_ (by first | (simp; done) | (simp; omega) | omega) _ | with_reducible refine New.trans ?_ (by with_reducible assumption)))) (own_new OL2 (by repeat (first | with_reducible exact New.refl _ | with_reducible assumption | with_reducible refine New.drew ?_ | with_reducible refine New.drewN ?_ _ | with_reducible refine New.alloc ?_ _ | with_reducible refine New.setCell ?_ (by first | (simp; done) | (simp; omega) | omega) _ | with_reducible refine New.trans ?_ (by with_reducible assumption)))) (by decide)); obtain ⟨c9, f9⟩ := K9.rules))
          all_goals
            obtain ⟨WB, n2a, hgw⟩ : ∃ WB, New w2 WB ∧ WB.grownBy wa (Value.slice ra k rc).ownBlock := ⟨_, (by repeat (first | with_reducible exact New.refl _ | with_reducible assumption | with_reducible refine New.drew ?_ | with_reducible refine New.drewN ?_ _ | with_reducible refine New.alloc ?_ _ | with_reducible refine New.setCell ?_ (by first | (simp; done) | (simp; omega) | omega) _ | with_reducible refine New.trans ?_ (by with_reducible assumption))), hgra⟩
            have own9 := own_new OL2 n2a
            have KO9 := Blk.grown (KO2.new n2a) hgw (blk_ne_ownK (KO2.new n2a) own9 (by decide))
            have KP9 := Blk.grown ((KP.new n2).new n2a) hgw (blk_ne_ownK ((KP.new n2).new n2a) own9 (by decide))
            have KR9 := Blk.grown ((KR.new n2).new n2a) hgw (blk_ne_ownK ((KR.new n2).new n2a) own9 (by decide))
            have RS9 := RowsS.grown (RS2.out.new n2a) hgw own9 (by decide)
            have OT9 := LinesT.grown (OT2.out.new n2a) hgw own9 (by decide)
            have oT9 := own_grK (own_new hown2 n2a) hgw (fun i j hi hj => own_ne_ownK own9 (own_new hown2 n2a) (by decide) i j hi hj)
            have ba : New w wa := New.grown (N2.trans n2a) hgw (fun q hq => by have := (own_block_lt own9 q hq).1; omega)
            have hE := Lib.hid (fun i (hi : i < qs.length) x hx => (own_block_lt (OT.out.1 i hi) x hx).2)
            have K10 := KO9.set 5 (.slice (some ⟨g6, 0, none⟩) (k + 1) cap6)
            simp only [List.setIfInBounds_toArray, List.set_cons_succ, List.set_cons_zero] at K10
            have own10 := Lib.hid (own_setK howna (blk_ne_ownK KO9 howna (by decide)) (o := 5) (.slice (some ⟨g6, 0, none⟩) (k + 1) cap6))
            have oT10 := own_setK oT9 (blk_ne_ownK KO9 oT9 (by decide)) (o := 5) (.slice (some ⟨g6, 0, none⟩) (k + 1) cap6)
            have OT10 := Lib.hid (LinesT.snoc (l := ⟨swp f t TG, X.terms.map (renT f t)⟩) (OT9.set KO9 (by decide) (o := 5) (.slice (some ⟨g6, 0, none⟩) (k + 1) cap6)) (E := wr.heap.size + 1) (fun i hi x hx => by have := hE.out i hi x hx; omega) (by omega) (by dsimp only; rw [List.length_map]; exact oT10))
            have RS10 := Lib.hid (RS9.set KO9 (by decide) (o := 5) (.slice (some ⟨g6, 0, none⟩) (k + 1) cap6))
            have n10 := ba.setCell (p := ⟨O, 5, none⟩) hwO (.slice (some ⟨g6, 0, none⟩) (k + 1) cap6)
            have KP10 := KP9.set_ne (g := O) (o := 5) hnP (.slice (some ⟨g6, 0, none⟩) (k + 1) cap6)
            have KR10 := KR9.set_ne (g := O) (o := 5) hnR (.slice (some ⟨g6, 0, none⟩) (k + 1) cap6)
            clear own9 KP9 KR9 RS9 OT9 oT9 oT10 KO9 hgw hgra howna
            go_wp2_with fail
            go_roundw
            case rel => exact ⟨k + 1, qs ++ [(⟨swp f t TG, X.terms.map (renT f t)⟩, .slice ta X.terms.length tc)], _, _, by omega, by go_num, Lib.hid (by rw [HRN.out, List.map_append, hqs.out, hXT.out]; rfl), Lib.hid (by rw [List.length_append, hql.out]; rfl), n10, KP10, KR10, K10, RS10, Lib.hid (by rw [flatL_app]; exact own10.out), OT10⟩
            case measure => simp [intOf]; omega
    · obtain rfl : k = ps.length := by omega
      have HQ : Hid (qs.map Prod.fst = p.lines.map (renL f t)) := Lib.hid (by rw [hqs.out, ← HPL.out, List.take_length])
      clear hqs
      obtain ⟨cP, fP⟩ := KP.rules
      obtain ⟨cR, fR⟩ := KR.rules
      obtain ⟨cO, fO⟩ := KO.rules
      have A0 := New.set6 hb (b := w.heap.size + 1) (by omega) (.string p.name) (.slice a1 p.inputs.length k1) (.slice a2 p.vars.length k2) (.slice a3 p.outputs.length k3') (.string (swp f t p.guard)) (.slice ra ps.length rc)
      have A1 : RowsS _ _ _ _ _ _ := ⟨own_set6 (b := w.heap.size + 1) RS.out.1 (by omega) (.string p.name) (.slice a1 p.inputs.length k1) (.slice a2 p.vars.length k2) (.slice a3 p.outputs.length k3') (.string (swp f t p.guard)) (.slice ra ps.length rc), own_set6 (b := w.heap.size + 1) RS.out.2.1 (by omega) (.string p.name) (.slice a1 p.inputs.length k1) (.slice a2 p.vars.length k2) (.slice a3 p.outputs.length k3') (.string (swp f t p.guard)) (.slice ra ps.length rc), own_set6 (b := w.heap.size + 1) RS.out.2.2 (by omega) (.string p.name) (.slice a1 p.inputs.length k1) (.slice a2 p.vars.length k2) (.slice a3 p.outputs.length k3') (.string (swp f t p.guard)) (.slice ra ps.length rc)⟩
      have A2 := own_set6 (b := w.heap.size + 1) OL.out (by omega) (.string p.name) (.slice a1 p.inputs.length k1) (.slice a2 p.vars.length k2) (.slice a3 p.outputs.length k3') (.string (swp f t p.guard)) (.slice ra ps.length rc)
      have A3 : LinesT _ _ _ := ⟨fun i hi => own_set6 (b := w.heap.size + 1) (OT.out.1 i hi) (by omega) (.string p.name) (.slice a1 p.inputs.length k1) (.slice a2 p.vars.length k2) (.slice a3 p.outputs.length k3') (.string (swp f t p.guard)) (.slice ra ps.length rc), OT.out.2⟩
      replace A1 := Lib.hid A1
      replace A2 := Lib.hid A2
      replace A3 := Lib.hid A3
      go_wp2_with fail
      exact retPQ_yes rfl A0 (parP_of A1.out HQ.out hql.out A2.out A3.out) (by simp [results, Tryd.results48, go_sem, cR, fR, cO, fO, hRr, hOr, hnR, hnR'])
end Go.Proofs.YtadoocadohdfcaaDoor
