/- Contracts: the first memory of a program. -/
import Derived.Test.YtflhdijlhdckoaaGreatDoorProg
import Derived.Test.YtflhdijlhdckoaaGreatDoorMemF
import Derived.Test.YtflhdijlhdckoaaGreatDoorRegionG
namespace Go.Proofs.YtflhdijlhdckoaaGreatDoor
open Go Go.Proofs Go.RowKit
set_option linter.unusedVariables false
set_option linter.unusedSimpArgs false
set_option maxRecDepth 100000
theorem infoI64f : (Tryz.prog.info? 2).map (fun i => (i.zero, i.size, i.bytes)) = some (some (.int .i64 0), 1, 8) := by kernel_rfl
theorem infoBSf : (Tryz.prog.info? 143).map (fun i => (i.zero, i.size, i.bytes)) = some (some (.agg #[.int .i64 0, .int .i64 0, .int .i64 0]), 3, 24) := by kernel_rfl
theorem wp_make {P : Program} {w : World} {o : Oper} {a : Act} {K : Act → World → Prop} {Q : Exit → Act → World → Prop} (l c : Operand) (t : TypeId) (hop : o.op = Op.makeSlice t l c)
    (base : Nat) (e : TypeId) (i : TypeInfo) (z : Value) (size : Nat) (h1 : P.underlying t = some (.slice e)) (h2 : P.info? e = some i) (h3 : i.zero = some z) (h4 : i.size = size)
    (kl kc : IntKind) (L C : Int) (n : Nat) (hl : a.eval l = .int kl L) (hc : a.eval c = .int kc C) (hL : L = (n : Int)) (hC : C = (n : Int)) (b2 : i.bytes * n ≤ 281474976710656) (b3 : n ≤ maxLen) (b4 : base ≤ w.heap.size)
    (hK : ∀ w', w'.ownsRow base e size (.slice (some ⟨w.heap.size, 0, none⟩) n n) n (madeCells z.cells (n * size)).toList → w.grownBy w' none → K (a.put o.dst (.slice (some ⟨w.heap.size, 0, none⟩) n n)) w') :
    o.wp P a w K Q := by
  obtain ⟨w', hrun, r1, r2⟩ := run_make_full (P := P) w base t e i z size h1 h2 h3 h4 kl kc n b2 b3 b4
  subst hL
  subst hC
  unfold Oper.wp
  simp [execOp, hop, hl, hc, hrun, Result.andThen]
  exact hK _ r1 r2
/-- A memory of zeros in new memory. -/
def OwnM (w : World) (base : Nat) (n k : Nat) (r s : Value) : Prop :=
  w.ownsRow base 2 1 r n (madeCells (Value.int .i64 0).cells (n * 1)).toList ∧ w.ownsRow base 143 3 s k (madeCells (Value.agg #[.int .i64 0, .int .i64 0, .int .i64 0]).cells (k * 3)).toList
def RetNM (w : World) (n k : Nat) (e : Ending) (w' : World) : Prop := ∃ r c s d, e = .returned (.agg #[.slice r n c, .slice s k d]) ∧ New w w' ∧ OwnM w' w.heap.size n k (.slice r n c) (.slice s k d)
set_option maxHeartbeats 1000000 in
theorem newMemory_any (n k : Nat) (w : World) (hn : n ≤ 1048576) (hk : k ≤ 1048576) :
    Calls Tryz.prog 120 #[.int .i64 n, .int .i64 k] w (RetNM w n k) := by
  obtain ⟨i0, hi, hz0, hz1, hz2⟩ := info_parts infoI64f
  obtain ⟨i1, hj, hy0, hy1, hy2⟩ := info_parts infoBSf
  go_enter Tryz.func120, Tryz.ntmps120
  go_wp2_with fail
  refine RG.wp_facts [fun X _ => X = .int .i64 n, fun X W' => ∃ q c, X = .slice q n c ∧ W'.ownsRow (w.heap.size + 1) 2 1 (.slice q n c) n (madeCells (Value.int .i64 0).cells (n * 1)).toList, fun X _ => X = .int .i64 k, fun X W' => ∃ q c, X = .slice q k c ∧ W'.ownsRow (w.heap.size + 1) 143 3 (.slice q k c) k (madeCells (Value.agg #[.int .i64 0, .int .i64 0, .int .i64 0]).cells (k * 3)).toList, fun X W' => ∃ q c s d, X = .agg #[.slice q n c, .slice s k d] ∧ OwnM W' (w.heap.size + 1) n k (.slice q n c) (.slice s k d)] (by kernel_rfl) (by kernel_rfl) ⟨RG.stable_eq _, fun X w0 w1 hn ⟨q6, k6, t6, r6⟩ => ⟨q6, k6, t6, own_new r6 hn⟩, RG.stable_eq _, fun X w0 w1 hn ⟨q8, k8, t8, r8⟩ => ⟨q8, k8, t8, own_new r8 hn⟩, fun X w0 w1 hn ⟨q9, k9, s9, d9, t9, r9⟩ => ⟨q9, k9, s9, d9, t9, own_new r9.1 hn, own_new r9.2 hn⟩, trivial⟩ ?_ ?_
  · refine ⟨?_, ?_, ?_, ?_, ?_, trivial⟩
    · intro a w9 hw ho hk
      refine .inl ⟨by rfl, ?_⟩
      have t2 := ho 0 rfl
      dsimp at t2
      try with_reducible replace hw := New.undrawN hw
      try with_reducible replace hw := New.undraw hw
      obtain ⟨c, f'⟩ := hw.rules
      go_simp
      exact New.refl _
    · intro a w9 hw ho hk
      refine .inl ⟨by rfl, ?_⟩
      have t5 : a.tmps[5]?.getD undef = .int .i64 n := hk 0 5 (by kernel_rfl) rfl
      exact wp_make _ _ 26 rfl (w.heap.size + 1) 2 i0 (.int .i64 0) 1 Tryz.underlying26 hi hz0 hz1 .i64 .i64 _ _ n (by first | (simp [Act.eval, Act.get]; exact t5) | simp [Act.eval, t5]) (by first | (simp [Act.eval, Act.get]; exact t5) | simp [Act.eval, t5]) rfl rfl (by rw [hz2]; omega) (by unfold maxLen; omega) (by have := hw.size; simp at this; omega) (fun w2 hown hgr => ⟨(New.refl _).grown hgr (fun k hk => by cases hk), _, rfl, _, _, rfl, hown⟩)
    · intro a w9 hw ho hk
      refine .inl ⟨by rfl, ?_⟩
      have t2 := ho 1 rfl
      dsimp at t2
      try with_reducible replace hw := New.undrawN hw
      try with_reducible replace hw := New.undraw hw
      obtain ⟨c, f'⟩ := hw.rules
      go_simp
      exact New.refl _
    · intro a w9 hw ho hk
      refine .inl ⟨by rfl, ?_⟩
      have t7 : a.tmps[7]?.getD undef = .int .i64 k := hk 2 7 (by kernel_rfl) rfl
      exact wp_make _ _ 37 rfl (w.heap.size + 1) 143 i1 (.agg #[.int .i64 0, .int .i64 0, .int .i64 0]) 3 Tryz.underlying37 hj hy0 hy1 .i64 .i64 _ _ k (by first | (simp [Act.eval, Act.get]; exact t7) | simp [Act.eval, t7]) (by first | (simp [Act.eval, Act.get]; exact t7) | simp [Act.eval, t7]) rfl rfl (by rw [hy2]; omega) (by unfold maxLen; omega) (by have := hw.size; simp at this; omega) (fun w2 hown hgr => ⟨(New.refl _).grown hgr (fun k hk => by cases hk), _, rfl, _, _, rfl, hown⟩)
    · intro a w9 hw ho hk
      refine .inl ⟨by rfl, ?_⟩
      obtain ⟨q6, k6, t6, r6⟩ : ∃ q c, (a.tmps[6]?.getD undef) = .slice q n c ∧ w9.ownsRow (w.heap.size + 1) 2 1 (.slice q n c) n (madeCells (Value.int .i64 0).cells (n * 1)).toList := hk 1 6 (by kernel_rfl) rfl
      obtain ⟨q8, k8, t8, r8⟩ : ∃ q c, (a.tmps[8]?.getD undef) = .slice q k c ∧ w9.ownsRow (w.heap.size + 1) 143 3 (.slice q k c) k (madeCells (Value.agg #[.int .i64 0, .int .i64 0, .int .i64 0]).cells (k * 3)).toList := hk 3 8 (by kernel_rfl) rfl
      go_simp
      first | exact ⟨New.refl _, _, rfl, _, _, _, _, rfl, r6, r8⟩ | exact ⟨New.refl _, q6, k6, q8, k8, by simp, r6, r8⟩
  intro w3 b3 x0 h0 x1 h1 x2 h2 x3 h3 x4 h4
  obtain ⟨q, c, s, d, rfl, o1, o2⟩ := h4
  try with_reducible replace b3 := New.undrawN b3
  try with_reducible replace b3 := New.undraw b3
  obtain ⟨c3, f3⟩ := b3.rules
  have z3 := b3.size
  try simp only [World.size_alloc, World.size_drew, World.heap_drewN, World.size_setCell] at z3
  have z3_0 : w.heap.size < w3.heap.size := by omega
  simp only [RG.EndAll, List.nil_append, List.cons_append, List.length_cons, List.length_nil, Nat.zero_add, Nat.reduceAdd, List.take_succ_cons, List.take_zero, List.drop_succ_cons, List.drop_zero, RG.putAll, Act.put, List.setIfInBounds_toArray, List.set_cons_succ, List.set_cons_zero]
  go_wp2_with fail
  refine bodyPost_ret (v := .agg #[.slice q n c, .slice s k d]) (by simp [results, Tryz.results120, go_sem, c3, f3, z3_0]) rfl ⟨_, _, _, _, rfl, ?_, ?_, ?_⟩
  · exact (by repeat (first | with_reducible exact New.refl _ | with_reducible assumption | with_reducible refine New.drew ?_ | with_reducible refine New.drewN ?_ _ | with_reducible refine New.alloc ?_ _ | with_reducible refine New.setCell ?_ (by first | (simp; done) | (simp; omega) | omega) _ | with_reducible refine New.trans ?_ (by with_reducible assumption)))
  · refine own_base (base := w.heap.size + 1) ?_ (by omega)
    iterate 2 apply ownsRow_setCell_below
    exact o1
    all_goals (dsimp; omega)
  · refine own_base (base := w.heap.size + 1) ?_ (by omega)
    iterate 2 apply ownsRow_setCell_below
    exact o2
    all_goals (dsimp; omega)
theorem blkP_len {p : ProgD} (h : wB p = true) : (blkP p).length ≤ 1600 := by
  obtain ⟨h1, h2⟩ := wB_terms h
  have := blkTo_len h2 p.lines.length (Nat.le_refl _)
  rw [blkTo_all] at this
  omega
set_option maxHeartbeats 1000000 in
theorem iFirst_any (p : ProgD) (iv vv ov lv : Value) (w : World) (hp : RdP w p iv vv ov lv) (hf : FitP p) (hw : wB p = true) :
    Calls Tryz.prog 59 #[valP p iv vv ov lv] w (RetNM w p.vars.length (blkP p).length) := by
  have HP := Lib.hid hp
  have zz : w.heap.size < w.heap.size + 1 + 1 := by omega
  obtain ⟨ax, cx, rfl, _⟩ := id hp.vars
  clear hp
  have HB := Lib.hid (fun (w0 : World) (h : RdP w0 p iv (.slice ax p.vars.length cx) ov lv) => iBlocks0_any p iv _ ov lv w0 h hw)
  have hNB := blkP_len hw
  have hNV : p.vars.length ≤ 1048576 := hf.varsl
  have HL := Lib.hid (rfl : (blkP p).length = (blkP p).length)
  generalize hbs : blkP p = bs at HB hNB HL ⊢
  clear hbs HL hf hw
  generalize hNN : bs.length = NB at HB hNB ⊢
  generalize hMM : p.vars.length = NV at HB HP hNV ⊢
  go_enter Tryz.func59, Tryz.ntmps59
  go_wp2_with fail
  refine RG.wp_facts [fun X _ => X = .pointer (some ⟨w.heap.size, 2, none⟩), fun X _ => X = .slice ax NV cx, fun X _ => X = .int .i64 NV, fun X _ => X = .agg #[.string p.name, iv, .slice ax NV cx, ov, .string p.guard, lv], fun X W' => ∃ q c, X = .slice q NB c, fun X _ => X = .int .i64 NB, fun X W' => ∃ q c s d, X = .agg #[.slice q NV c, .slice s NB d] ∧ OwnM W' (w.heap.size + 1 + 1) NV NB (.slice q NV c) (.slice s NB d)] (by kernel_rfl) (by kernel_rfl) ⟨RG.stable_eq _, RG.stable_eq _, RG.stable_eq _, RG.stable_eq _, fun X w0 w1 hn ⟨q8, k8, t7⟩ => ⟨q8, k8, t7⟩, RG.stable_eq _, fun X w0 w1 hn ⟨q9, k9, s9, d9, t9, r9⟩ => ⟨q9, k9, s9, d9, t9, own_new r9.1 hn, own_new r9.2 hn⟩, trivial⟩ ?_ ?_
  · refine ⟨?_, ?_, ?_, ?_, ?_, ?_, ?_, trivial⟩
    · intro a w9 hw ho hk
      refine .inl ⟨by rfl, ?_⟩
      have t2 := ho 1 rfl
      dsimp at t2
      try with_reducible replace hw := New.undrawN hw
      try with_reducible replace hw := New.undraw hw
      obtain ⟨c, f'⟩ := hw.rules
      go_simp
      exact New.refl _
    · intro a w9 hw ho hk
      refine .inl ⟨by rfl, ?_⟩
      have t3 : a.tmps[3]?.getD undef = .pointer (some ⟨w.heap.size, 2, none⟩) := hk 0 3 (by kernel_rfl) rfl
      try with_reducible replace hw := New.undrawN hw
      try with_reducible replace hw := New.undraw hw
      obtain ⟨c, f'⟩ := hw.rules
      go_simp
      exact New.refl _
    · intro a w9 hw ho hk
      refine .inl ⟨by rfl, ?_⟩
      have t4 : a.tmps[4]?.getD undef = .slice ax NV cx := hk 1 4 (by kernel_rfl) rfl
      go_simp
      exact New.refl _
    · intro a w9 hw ho hk
      refine .inl ⟨by rfl, ?_⟩
      have t2 := ho 1 rfl
      dsimp at t2
      try with_reducible replace hw := New.undrawN hw
      try with_reducible replace hw := New.undraw hw
      obtain ⟨c, f'⟩ := hw.rules
      go_simp
      exact New.refl _
    · intro a w9 hw ho hk
      refine .inl ⟨by rfl, ?_⟩
      have t6 : a.tmps[6]?.getD undef = .agg #[.string p.name, iv, .slice ax NV cx, ov, .string p.guard, lv] := hk 3 6 (by kernel_rfl) rfl
      go_simp
      refine (HB.out _ (HP.out.new (by repeat (first | with_reducible exact New.refl _ | with_reducible assumption | with_reducible refine New.drew ?_ | with_reducible refine New.drewN ?_ _ | with_reducible refine New.alloc ?_ _ | with_reducible refine New.setCell ?_ (by first | (simp; done) | (simp; omega) | omega) _ | with_reducible refine New.trans ?_ (by with_reducible assumption))))).mono ?_; rintro e w2 ⟨r, rfl, hb, o1⟩
      obtain ⟨qa, qc, rfl⟩ := own_slice o1; first | exact ⟨hb, _, rfl, _, _, rfl⟩ | exact ⟨hb, _, rfl, by simp⟩ | exact ⟨hb, by simp⟩
    · intro a w9 hw ho hk
      refine .inl ⟨by rfl, ?_⟩
      obtain ⟨q8, k8, t7⟩ : ∃ q c, (a.tmps[7]?.getD undef) = .slice q NB c := hk 4 7 (by kernel_rfl) rfl
      go_simp
      exact New.refl _
    · intro a w9 hw ho hk
      refine .inl ⟨by rfl, ?_⟩
      have t5 : a.tmps[5]?.getD undef = .int .i64 NV := hk 2 5 (by kernel_rfl) rfl
      have t8 : a.tmps[8]?.getD undef = .int .i64 NB := hk 5 8 (by kernel_rfl) rfl
      go_simp
      refine (newMemory_any NV NB _ hNV (by omega)).mono ?_; rintro e w2 ⟨r, c, s, d, rfl, hb, o1, o2⟩
      have hsz : w.heap.size + 1 + 1 ≤ w9.heap.size := (by have := hw.size; simp at this; omega); first | exact ⟨hb, _, rfl, _, _, _, _, rfl, own_base o1 hsz, own_base o2 hsz⟩ | exact ⟨hb, _, rfl, r, c, s, d, by simp, own_base o1 hsz, own_base o2 hsz⟩
  intro w3 b3 x0 h0 x1 h1 x2 h2 x3 h3 x4 h4 x5 h5 x6 h6
  obtain ⟨q, c, s, d, rfl, o1, o2⟩ := h6
  try with_reducible replace b3 := New.undrawN b3
  try with_reducible replace b3 := New.undraw b3
  obtain ⟨c3, f3⟩ := b3.rules
  have z3 := b3.size
  try simp only [World.size_alloc, World.size_drew, World.heap_drewN, World.size_setCell] at z3
  have z3_0 : w.heap.size < w3.heap.size := by omega
  have z3_1 : w.heap.size + 1 < w3.heap.size := by omega
  simp only [RG.EndAll, List.nil_append, List.cons_append, List.length_cons, List.length_nil, Nat.zero_add, Nat.reduceAdd, List.take_succ_cons, List.take_zero, List.drop_succ_cons, List.drop_zero, RG.putAll, Act.put, List.setIfInBounds_toArray, List.set_cons_succ, List.set_cons_zero]
  go_wp2_with fail
  refine bodyPost_ret (v := .agg #[.slice q NV c, .slice s NB d]) (by simp [results, Tryz.results59, go_sem, c3, f3, z3_0, z3_1]) rfl ⟨_, _, _, _, rfl, ?_, ?_, ?_⟩
  · exact (by repeat (first | with_reducible exact New.refl _ | with_reducible assumption | with_reducible refine New.drew ?_ | with_reducible refine New.drewN ?_ _ | with_reducible refine New.alloc ?_ _ | with_reducible refine New.setCell ?_ (by first | (simp; done) | (simp; omega) | omega) _ | with_reducible refine New.trans ?_ (by with_reducible assumption)))
  · refine own_base (base := w.heap.size + 1 + 1) ?_ (by omega)
    iterate 2 apply ownsRow_setCell_below
    exact o1
    all_goals (dsimp; omega)
  · refine own_base (base := w.heap.size + 1 + 1) ?_ (by omega)
    iterate 2 apply ownsRow_setCell_below
    exact o2
    all_goals (dsimp; omega)
set_option maxHeartbeats 1000000 in
theorem sFirst_any (p : ProgD) (iv vv ov lv : Value) (w : World) (hp : RdP w p iv vv ov lv) (hf : FitP p) (hw : wB p = true) :
    Calls Tryz.prog 58 #[valP p iv vv ov lv] w (RetNM w p.vars.length (blkP p).length) := by
  obtain ⟨i0, hi, hz0, hz1, hz2⟩ := info_parts infoI64f
  obtain ⟨i1, hj, hy0, hy1, hy2⟩ := info_parts infoBSf
  have HP := Lib.hid hp
  have zz : w.heap.size < w.heap.size + 1 + 1 := by omega
  obtain ⟨ax, cx, rfl, _⟩ := id hp.vars
  clear hp
  have HB := Lib.hid (fun (w0 : World) (h : RdP w0 p iv (.slice ax p.vars.length cx) ov lv) => sBlocks0_any p iv _ ov lv w0 h hw)
  have hNB := blkP_len hw
  have hNV : p.vars.length ≤ 1048576 := hf.varsl
  have HL := Lib.hid (rfl : (blkP p).length = (blkP p).length)
  generalize hbs : blkP p = bs at HB hNB HL ⊢
  clear hbs HL hf hw
  generalize hNN : bs.length = NB at HB hNB ⊢
  generalize hMM : p.vars.length = NV at HB HP hNV ⊢
  go_enter Tryz.func58, Tryz.ntmps58
  go_wp2_with fail
  refine RG.wp_facts [fun X _ => X = .pointer (some ⟨w.heap.size, 2, none⟩), fun X _ => X = .slice ax NV cx, fun X _ => X = .int .i64 NV, fun X W' => ∃ q c, X = .slice q NV c ∧ W'.ownsRow (w.heap.size + 1 + 1) 2 1 (.slice q NV c) NV (madeCells (Value.int .i64 0).cells (NV * 1)).toList, fun X _ => X = .agg #[.string p.name, iv, .slice ax NV cx, ov, .string p.guard, lv], fun X W' => ∃ q c, X = .slice q NB c, fun X _ => X = .int .i64 NB, fun X W' => ∃ q c, X = .slice q NB c ∧ W'.ownsRow (w.heap.size + 1 + 1) 143 3 (.slice q NB c) NB (madeCells (Value.agg #[.int .i64 0, .int .i64 0, .int .i64 0]).cells (NB * 3)).toList, fun X W' => ∃ q c s d, X = .agg #[.slice q NV c, .slice s NB d] ∧ OwnM W' (w.heap.size + 1 + 1) NV NB (.slice q NV c) (.slice s NB d)] (by kernel_rfl) (by kernel_rfl) ⟨RG.stable_eq _, RG.stable_eq _, RG.stable_eq _, fun X w0 w1 hn ⟨q6, k6, t6, r6⟩ => ⟨q6, k6, t6, own_new r6 hn⟩, RG.stable_eq _, fun X w0 w1 hn ⟨q8, k8, t8⟩ => ⟨q8, k8, t8⟩, RG.stable_eq _, fun X w0 w1 hn ⟨q10, k10, t10, r10⟩ => ⟨q10, k10, t10, own_new r10 hn⟩, fun X w0 w1 hn ⟨q9, k9, s9, d9, t9, r9⟩ => ⟨q9, k9, s9, d9, t9, own_new r9.1 hn, own_new r9.2 hn⟩, trivial⟩ ?_ ?_
  · refine ⟨?_, ?_, ?_, ?_, ?_, ?_, ?_, ?_, ?_, trivial⟩
    · intro a w9 hw ho hk
      refine .inl ⟨by rfl, ?_⟩
      have t2 := ho 1 rfl
      dsimp at t2
      try with_reducible replace hw := New.undrawN hw
      try with_reducible replace hw := New.undraw hw
      obtain ⟨c, f'⟩ := hw.rules
      go_simp
      exact New.refl _
    · intro a w9 hw ho hk
      refine .inl ⟨by rfl, ?_⟩
      have t3 : a.tmps[3]?.getD undef = .pointer (some ⟨w.heap.size, 2, none⟩) := hk 0 3 (by kernel_rfl) rfl
      try with_reducible replace hw := New.undrawN hw
      try with_reducible replace hw := New.undraw hw
      obtain ⟨c, f'⟩ := hw.rules
      go_simp
      exact New.refl _
    · intro a w9 hw ho hk
      refine .inl ⟨by rfl, ?_⟩
      have t4 : a.tmps[4]?.getD undef = .slice ax NV cx := hk 1 4 (by kernel_rfl) rfl
      go_simp
      exact New.refl _
    · intro a w9 hw ho hk
      refine .inl ⟨by rfl, ?_⟩
      have t5 : a.tmps[5]?.getD undef = .int .i64 NV := hk 2 5 (by kernel_rfl) rfl
      exact wp_make _ _ 26 rfl (w.heap.size + 1 + 1) 2 i0 (.int .i64 0) 1 Tryz.underlying26 hi hz0 hz1 .i64 .i64 _ _ NV (by first | (simp [Act.eval, Act.get]; exact t5) | simp [Act.eval, t5]) (by first | (simp [Act.eval, Act.get]; exact t5) | simp [Act.eval, t5]) rfl rfl (by rw [hz2]; omega) (by unfold maxLen; omega) (by have := hw.size; simp at this; omega) (fun w2 hown hgr => ⟨(New.refl _).grown hgr (fun k hk => by cases hk), _, rfl, _, _, rfl, hown⟩)
    · intro a w9 hw ho hk
      refine .inl ⟨by rfl, ?_⟩
      have t2 := ho 1 rfl
      dsimp at t2
      try with_reducible replace hw := New.undrawN hw
      try with_reducible replace hw := New.undraw hw
      obtain ⟨c, f'⟩ := hw.rules
      go_simp
      exact New.refl _
    · intro a w9 hw ho hk
      refine .inl ⟨by rfl, ?_⟩
      have t7 : a.tmps[7]?.getD undef = .agg #[.string p.name, iv, .slice ax NV cx, ov, .string p.guard, lv] := hk 4 7 (by kernel_rfl) rfl
      go_simp
      refine (HB.out _ (HP.out.new (by repeat (first | with_reducible exact New.refl _ | with_reducible assumption | with_reducible refine New.drew ?_ | with_reducible refine New.drewN ?_ _ | with_reducible refine New.alloc ?_ _ | with_reducible refine New.setCell ?_ (by first | (simp; done) | (simp; omega) | omega) _ | with_reducible refine New.trans ?_ (by with_reducible assumption))))).mono ?_; rintro e w2 ⟨r, rfl, hb, o1⟩
      obtain ⟨qa, qc, rfl⟩ := own_slice o1; first | exact ⟨hb, _, rfl, _, _, rfl⟩ | exact ⟨hb, _, rfl, by simp⟩ | exact ⟨hb, by simp⟩
    · intro a w9 hw ho hk
      refine .inl ⟨by rfl, ?_⟩
      obtain ⟨q8, k8, t8⟩ : ∃ q c, (a.tmps[8]?.getD undef) = .slice q NB c := hk 5 8 (by kernel_rfl) rfl
      go_simp
      exact New.refl _
    · intro a w9 hw ho hk
      refine .inl ⟨by rfl, ?_⟩
      have t9 : a.tmps[9]?.getD undef = .int .i64 NB := hk 6 9 (by kernel_rfl) rfl
      exact wp_make _ _ 37 rfl (w.heap.size + 1 + 1) 143 i1 (.agg #[.int .i64 0, .int .i64 0, .int .i64 0]) 3 Tryz.underlying37 hj hy0 hy1 .i64 .i64 _ _ NB (by first | (simp [Act.eval, Act.get]; exact t9) | simp [Act.eval, t9]) (by first | (simp [Act.eval, Act.get]; exact t9) | simp [Act.eval, t9]) rfl rfl (by rw [hy2]; omega) (by unfold maxLen; omega) (by have := hw.size; simp at this; omega) (fun w2 hown hgr => ⟨(New.refl _).grown hgr (fun k hk => by cases hk), _, rfl, _, _, rfl, hown⟩)
    · intro a w9 hw ho hk
      refine .inl ⟨by rfl, ?_⟩
      obtain ⟨q6, k6, t6, r6⟩ : ∃ q c, (a.tmps[6]?.getD undef) = .slice q NV c ∧ w9.ownsRow (w.heap.size + 1 + 1) 2 1 (.slice q NV c) NV (madeCells (Value.int .i64 0).cells (NV * 1)).toList := hk 3 6 (by kernel_rfl) rfl
      obtain ⟨q10, k10, t10, r10⟩ : ∃ q c, (a.tmps[10]?.getD undef) = .slice q NB c ∧ w9.ownsRow (w.heap.size + 1 + 1) 143 3 (.slice q NB c) NB (madeCells (Value.agg #[.int .i64 0, .int .i64 0, .int .i64 0]).cells (NB * 3)).toList := hk 7 10 (by kernel_rfl) rfl
      go_simp
      first | exact ⟨New.refl _, _, rfl, _, _, _, _, rfl, r6, r10⟩ | exact ⟨New.refl _, q6, k6, q10, k10, by simp, r6, r10⟩
  intro w3 b3 x0 h0 x1 h1 x2 h2 x3 h3 x4 h4 x5 h5 x6 h6 x7 h7 x8 h8
  obtain ⟨q, c, s, d, rfl, o1, o2⟩ := h8
  try with_reducible replace b3 := New.undrawN b3
  try with_reducible replace b3 := New.undraw b3
  obtain ⟨c3, f3⟩ := b3.rules
  have z3 := b3.size
  try simp only [World.size_alloc, World.size_drew, World.heap_drewN, World.size_setCell] at z3
  have z3_0 : w.heap.size < w3.heap.size := by omega
  have z3_1 : w.heap.size + 1 < w3.heap.size := by omega
  simp only [RG.EndAll, List.nil_append, List.cons_append, List.length_cons, List.length_nil, Nat.zero_add, Nat.reduceAdd, List.take_succ_cons, List.take_zero, List.drop_succ_cons, List.drop_zero, RG.putAll, Act.put, List.setIfInBounds_toArray, List.set_cons_succ, List.set_cons_zero]
  go_wp2_with fail
  refine bodyPost_ret (v := .agg #[.slice q NV c, .slice s NB d]) (by simp [results, Tryz.results58, go_sem, c3, f3, z3_0, z3_1]) rfl ⟨_, _, _, _, rfl, ?_, ?_, ?_⟩
  · exact (by repeat (first | with_reducible exact New.refl _ | with_reducible assumption | with_reducible refine New.drew ?_ | with_reducible refine New.drewN ?_ _ | with_reducible refine New.alloc ?_ _ | with_reducible refine New.setCell ?_ (by first | (simp; done) | (simp; omega) | omega) _ | with_reducible refine New.trans ?_ (by with_reducible assumption)))
  · refine own_base (base := w.heap.size + 1 + 1) ?_ (by omega)
    iterate 2 apply ownsRow_setCell_below
    exact o1
    all_goals (dsimp; omega)
  · refine own_base (base := w.heap.size + 1 + 1) ?_ (by omega)
    iterate 2 apply ownsRow_setCell_below
    exact o2
    all_goals (dsimp; omega)
def fmN (p : ProgD) : Nat := if soundB p = true then p.vars.length else 0
def fmK (p : ProgD) : Nat := if soundB p = true then (blkP p).length else 0
def fmC (p : ProgD) : Int := if soundB p = true then 0 else 1
/-- The memory of zeros, with n values and k blocks. -/
def memZ (n k : Nat) : MemD := ⟨List.replicate n 0, List.replicate k ⟨0, 0, 0⟩⟩
theorem OwnM.lists {w : World} {base n k : Nat} {r s : Value} (h : OwnM w base n k r s) :
    w.ownsRow base 2 1 r (memZ n k).vals.length ((memZ n k).vals.map (Value.int .i64)) ∧ w.ownsRow base 143 3 s (memZ n k).blocks.length ((memZ n k).blocks.flatMap encBlockState) := by
  obtain ⟨h1, h2⟩ := h
  have e1 : (madeCells (Value.int .i64 0).cells (n * 1)).toList = (memZ n k).vals.map (Value.int .i64) := by
    rw [show (Value.int .i64 0).cells = #[.int .i64 0] from rfl, toList_madeCells_one]; simp [memZ]
  have e2 : (madeCells (Value.agg #[.int .i64 0, .int .i64 0, .int .i64 0]).cells (k * 3)).toList = (memZ n k).blocks.flatMap encBlockState := by
    have := made_flat #[.int .i64 0, .int .i64 0, .int .i64 0] k (by decide)
    rw [show (Value.agg #[.int .i64 0, .int .i64 0, .int .i64 0]).cells = #[.int .i64 0, .int .i64 0, .int .i64 0] from rfl]
    refine Eq.trans this ?_
    simp [memZ, List.flatMap, encBlockState]
  rw [e1] at h1
  rw [e2] at h2
  refine ⟨?_, ?_⟩
  · simpa [memZ] using h1
  · simpa [memZ] using h2
def RetFM (w : World) (n k : Nat) (C : Int) (e : Ending) (w' : World) : Prop := ∃ a b, e = .returned (.tuple #[.agg #[a, b], .int .i64 C]) ∧ New w w' ∧ OwnM w' w.heap.size n k a b
set_option maxHeartbeats 1000000 in
theorem iFirstMemory_any (p : ProgD) (iv vv ov lv : Value) (w : World) (hp : RdP w p iv vv ov lv) (hf : FitP p) (hk : KW w) :
    Calls Tryz.prog 18 #[valP p iv vv ov lv] w (RetFM w (fmN p) (fmK p) (fmC p)) := by
  have HP := Lib.hid hp; clear hp
  have HK := Lib.hid hk; clear hk
  have zz : w.heap.size < w.heap.size + 1 + 1 := by omega
  have HS := Lib.hid (fun (w0 : World) (h : RdP w0 p iv vv ov lv) (k : KW w0) => iIsSound_any p iv vv ov lv w0 h hf k)
  rcases Bool.eq_false_or_eq_true (soundB p) with g1 | g1
  · have hw : wB p = true := by have := g1; rw [soundB, Bool.and_eq_true] at this; exact this.1
    have HB := Lib.hid (fun (w0 : World) (h : RdP w0 p iv vv ov lv) => iFirst_any p iv vv ov lv w0 h hf hw)
    rw [g1] at HS
    rw [fmN, fmK, fmC, if_pos g1, if_pos g1, if_pos g1]
    generalize p.vars.length = NV at HB ⊢
    generalize (blkP p).length = NB at HB ⊢
    clear g1 hw hf
    go_enter Tryz.func18, Tryz.ntmps18
    go_wp2_with fail
    refine (HS.out _ (HP.out.new (by repeat (first | with_reducible exact New.refl _ | with_reducible assumption | with_reducible refine New.drew ?_ | with_reducible refine New.drewN ?_ _ | with_reducible refine New.alloc ?_ _ | with_reducible refine New.setCell ?_ (by first | (simp; done) | (simp; omega) | omega) _ | with_reducible refine New.trans ?_ (by with_reducible assumption)))) (HK.out.new (by repeat (first | with_reducible exact New.refl _ | with_reducible assumption | with_reducible refine New.drew ?_ | with_reducible refine New.drewN ?_ _ | with_reducible refine New.alloc ?_ _ | with_reducible refine New.setCell ?_ (by first | (simp; done) | (simp; omega) | omega) _ | with_reducible refine New.trans ?_ (by with_reducible assumption))))).mono ?_; rintro e w1 ⟨rfl, b1⟩
    try replace b1 := New.undrawN b1
    try replace b1 := New.undraw b1
    obtain ⟨c1, f1⟩ := b1.rules
    have z1 := b1.size
    try simp only [World.size_alloc, World.size_drew, World.heap_drewN, World.size_setCell] at z1
    have z1_0 : w.heap.size < w1.heap.size := by omega
    have z1_1 : w.heap.size + 1 < w1.heap.size := by omega
    go_wp2_with fail
    refine (HB.out _ (HP.out.new (by repeat (first | with_reducible exact New.refl _ | with_reducible assumption | with_reducible refine New.drew ?_ | with_reducible refine New.drewN ?_ _ | with_reducible refine New.alloc ?_ _ | with_reducible refine New.setCell ?_ (by first | (simp; done) | (simp; omega) | omega) _ | with_reducible refine New.trans ?_ (by with_reducible assumption))))).mono ?_; rintro e w2 ⟨r, c, s, d, rfl, b2, o1, o2⟩
    obtain ⟨c2, f2⟩ := b2.rules
    have z2 := b2.size
    try simp only [World.size_alloc, World.size_drew, World.heap_drewN, World.size_setCell] at z2
    have z2_0 : w.heap.size < w2.heap.size := by omega
    have z2_1 : w.heap.size + 1 < w2.heap.size := by omega
    go_wp2_with fail
    refine bodyPost_ret (v := .tuple #[.agg #[.slice r NV c, .slice s NB d], .int .i64 0]) (by simp [results, Tryz.results18, go_sem, c2, f2, c1, f1, z1_0, z1_1, z2_0, z2_1]) rfl ⟨_, _, rfl, ?_, ?_, ?_⟩
    · exact (by repeat (first | with_reducible exact New.refl _ | with_reducible assumption | with_reducible refine New.drew ?_ | with_reducible refine New.drewN ?_ _ | with_reducible refine New.alloc ?_ _ | with_reducible refine New.setCell ?_ (by first | (simp; done) | (simp; omega) | omega) _ | with_reducible refine New.trans ?_ (by with_reducible assumption)))
    · refine own_base (base := w1.heap.size) ?_ (by omega)
      iterate 2 apply ownsRow_setCell_below
      exact o1
      all_goals (dsimp; omega)
    · refine own_base (base := w1.heap.size) ?_ (by omega)
      iterate 2 apply ownsRow_setCell_below
      exact o2
      all_goals (dsimp; omega)
  · rw [g1] at HS
    have g2 : ¬ soundB p = true := by rw [g1]; simp
    rw [fmN, fmK, fmC, if_neg g2, if_neg g2, if_neg g2]
    clear g1 g2 hf
    go_enter Tryz.func18, Tryz.ntmps18
    go_wp2_with fail
    refine (HS.out _ (HP.out.new (by repeat (first | with_reducible exact New.refl _ | with_reducible assumption | with_reducible refine New.drew ?_ | with_reducible refine New.drewN ?_ _ | with_reducible refine New.alloc ?_ _ | with_reducible refine New.setCell ?_ (by first | (simp; done) | (simp; omega) | omega) _ | with_reducible refine New.trans ?_ (by with_reducible assumption)))) (HK.out.new (by repeat (first | with_reducible exact New.refl _ | with_reducible assumption | with_reducible refine New.drew ?_ | with_reducible refine New.drewN ?_ _ | with_reducible refine New.alloc ?_ _ | with_reducible refine New.setCell ?_ (by first | (simp; done) | (simp; omega) | omega) _ | with_reducible refine New.trans ?_ (by with_reducible assumption))))).mono ?_; rintro e w1 ⟨rfl, b1⟩
    try replace b1 := New.undrawN b1
    try replace b1 := New.undraw b1
    obtain ⟨c1, f1⟩ := b1.rules
    have z1 := b1.size
    try simp only [World.size_alloc, World.size_drew, World.heap_drewN, World.size_setCell] at z1
    have z1_0 : w.heap.size < w1.heap.size := by omega
    have z1_1 : w.heap.size + 1 < w1.heap.size := by omega
    go_wp2_with fail
    refine bodyPost_ret (v := .tuple #[.agg #[.slice none 0 0, .slice none 0 0], .int .i64 1]) (by simp [results, Tryz.results18, go_sem, c1, f1, z1_0, z1_1]) rfl ⟨_, _, rfl, ?_, ?_, ?_⟩
    · exact (by repeat (first | with_reducible exact New.refl _ | with_reducible assumption | with_reducible refine New.drew ?_ | with_reducible refine New.drewN ?_ _ | with_reducible refine New.alloc ?_ _ | with_reducible refine New.setCell ?_ (by first | (simp; done) | (simp; omega) | omega) _ | with_reducible refine New.trans ?_ (by with_reducible assumption)))
    · exact ⟨by simp [madeCells], .inl ⟨rfl, by first | rfl | simp [madeCells]⟩⟩
    · exact ⟨by simp [madeCells], .inl ⟨rfl, by first | rfl | simp [madeCells]⟩⟩
set_option maxHeartbeats 1000000 in
theorem sFirstMemory_any (p : ProgD) (iv vv ov lv : Value) (w : World) (hp : RdP w p iv vv ov lv) (hf : FitP p) :
    Calls Tryz.prog 17 #[valP p iv vv ov lv] w (RetFM w (fmN p) (fmK p) (fmC p)) := by
  have HP := Lib.hid hp; clear hp
  have zz : w.heap.size < w.heap.size + 1 + 1 := by omega
  have HS := Lib.hid (fun (w0 : World) (h : RdP w0 p iv vv ov lv) => sIsSound_any p iv vv ov lv w0 h hf)
  rcases Bool.eq_false_or_eq_true (soundB p) with g1 | g1
  · have hw : wB p = true := by have := g1; rw [soundB, Bool.and_eq_true] at this; exact this.1
    have HB := Lib.hid (fun (w0 : World) (h : RdP w0 p iv vv ov lv) => sFirst_any p iv vv ov lv w0 h hf hw)
    rw [g1] at HS
    rw [fmN, fmK, fmC, if_pos g1, if_pos g1, if_pos g1]
    generalize p.vars.length = NV at HB ⊢
    generalize (blkP p).length = NB at HB ⊢
    clear g1 hw hf
    go_enter Tryz.func17, Tryz.ntmps17
    go_wp2_with fail
    refine (HS.out _ (HP.out.new (by repeat (first | with_reducible exact New.refl _ | with_reducible assumption | with_reducible refine New.drew ?_ | with_reducible refine New.drewN ?_ _ | with_reducible refine New.alloc ?_ _ | with_reducible refine New.setCell ?_ (by first | (simp; done) | (simp; omega) | omega) _ | with_reducible refine New.trans ?_ (by with_reducible assumption))))).mono ?_; rintro e w1 ⟨rfl, b1⟩
    try replace b1 := New.undrawN b1
    try replace b1 := New.undraw b1
    obtain ⟨c1, f1⟩ := b1.rules
    have z1 := b1.size
    try simp only [World.size_alloc, World.size_drew, World.heap_drewN, World.size_setCell] at z1
    have z1_0 : w.heap.size < w1.heap.size := by omega
    have z1_1 : w.heap.size + 1 < w1.heap.size := by omega
    go_wp2_with fail
    refine (HB.out _ (HP.out.new (by repeat (first | with_reducible exact New.refl _ | with_reducible assumption | with_reducible refine New.drew ?_ | with_reducible refine New.drewN ?_ _ | with_reducible refine New.alloc ?_ _ | with_reducible refine New.setCell ?_ (by first | (simp; done) | (simp; omega) | omega) _ | with_reducible refine New.trans ?_ (by with_reducible assumption))))).mono ?_; rintro e w2 ⟨r, c, s, d, rfl, b2, o1, o2⟩
    obtain ⟨c2, f2⟩ := b2.rules
    have z2 := b2.size
    try simp only [World.size_alloc, World.size_drew, World.heap_drewN, World.size_setCell] at z2
    have z2_0 : w.heap.size < w2.heap.size := by omega
    have z2_1 : w.heap.size + 1 < w2.heap.size := by omega
    go_wp2_with fail
    refine bodyPost_ret (v := .tuple #[.agg #[.slice r NV c, .slice s NB d], .int .i64 0]) (by simp [results, Tryz.results17, go_sem, c2, f2, c1, f1, z1_0, z1_1, z2_0, z2_1]) rfl ⟨_, _, rfl, ?_, ?_, ?_⟩
    · exact (by repeat (first | with_reducible exact New.refl _ | with_reducible assumption | with_reducible refine New.drew ?_ | with_reducible refine New.drewN ?_ _ | with_reducible refine New.alloc ?_ _ | with_reducible refine New.setCell ?_ (by first | (simp; done) | (simp; omega) | omega) _ | with_reducible refine New.trans ?_ (by with_reducible assumption)))
    · refine own_base (base := w1.heap.size) ?_ (by omega)
      iterate 2 apply ownsRow_setCell_below
      exact o1
      all_goals (dsimp; omega)
    · refine own_base (base := w1.heap.size) ?_ (by omega)
      iterate 2 apply ownsRow_setCell_below
      exact o2
      all_goals (dsimp; omega)
  · rw [g1] at HS
    have g2 : ¬ soundB p = true := by rw [g1]; simp
    rw [fmN, fmK, fmC, if_neg g2, if_neg g2, if_neg g2]
    clear g1 g2 hf
    go_enter Tryz.func17, Tryz.ntmps17
    go_wp2_with fail
    refine (HS.out _ (HP.out.new (by repeat (first | with_reducible exact New.refl _ | with_reducible assumption | with_reducible refine New.drew ?_ | with_reducible refine New.drewN ?_ _ | with_reducible refine New.alloc ?_ _ | with_reducible refine New.setCell ?_ (by first | (simp; done) | (simp; omega) | omega) _ | with_reducible refine New.trans ?_ (by with_reducible assumption))))).mono ?_; rintro e w1 ⟨rfl, b1⟩
    try replace b1 := New.undrawN b1
    try replace b1 := New.undraw b1
    obtain ⟨c1, f1⟩ := b1.rules
    have z1 := b1.size
    try simp only [World.size_alloc, World.size_drew, World.heap_drewN, World.size_setCell] at z1
    have z1_0 : w.heap.size < w1.heap.size := by omega
    have z1_1 : w.heap.size + 1 < w1.heap.size := by omega
    go_wp2_with fail
    refine bodyPost_ret (v := .tuple #[.agg #[.slice none 0 0, .slice none 0 0], .int .i64 1]) (by simp [results, Tryz.results17, go_sem, c1, f1, z1_0, z1_1]) rfl ⟨_, _, rfl, ?_, ?_, ?_⟩
    · exact (by repeat (first | with_reducible exact New.refl _ | with_reducible assumption | with_reducible refine New.drew ?_ | with_reducible refine New.drewN ?_ _ | with_reducible refine New.alloc ?_ _ | with_reducible refine New.setCell ?_ (by first | (simp; done) | (simp; omega) | omega) _ | with_reducible refine New.trans ?_ (by with_reducible assumption)))
    · exact ⟨by simp [madeCells], .inl ⟨rfl, by first | rfl | simp [madeCells]⟩⟩
    · exact ⟨by simp [madeCells], .inl ⟨rfl, by first | rfl | simp [madeCells]⟩⟩
end Go.Proofs.YtflhdijlhdckoaaGreatDoor
