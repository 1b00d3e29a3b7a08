/- Contracts: ImproveCode, of the reference and of the program. -/
import Derived.Test.YteielmihlfakgaaDoorProg
import Derived.Test.YteielmihlfakgaaDoorImpW
import Derived.Test.YteielmihlfakgaaDoorAppF
import Derived.Test.YteielmihlfakgaaDoorUD
namespace Go.Proofs.YteielmihlfakgaaDoor
open Go Go.Proofs Go.RowKit
set_option linter.unusedVariables false
set_option linter.unusedSimpArgs false
set_option maxRecDepth 100000
theorem code_small {c : CodeD} (h : isCodeB c = true) : SmallC c := by
  rw [isCodeB] at h; simp only [Bool.and_eq_true] at h; exact small_of h.1.1
def noC : CodeD := ⟨0, 0, 0, [], []⟩
def impR (c : CodeD) : CodeD × Int := if isCodeB c = true then (impC c, 0) else (noC, 1)
theorem impR_1 {c : CodeD} (h : isCodeB c = true) : impR c = (impC c, 0) := by rw [impR, if_pos h]
theorem impR_0 {c : CodeD} (h : isCodeB c = false) : impR c = (noC, 1) := by rw [impR, if_neg (by simp [h])]
def RetCC (w : World) (r : CodeD × Int) (e : Ending) (w' : World) : Prop := ∃ bv sv, e = .returned (.tuple #[valC r.1 bv sv, .int .i64 r.2]) ∧ New w w' ∧ RdT w' bv r.1.blocks ∧ RdN w' sv r.1.steps
/-- A code of the call's own. -/
structure OwnC (w : World) (base : Nat) (c : CodeD) (bv sv : Value) : Prop where
  blocks : w.ownsRow base 43 3 bv c.blocks.length (c.blocks.flatMap encTerm)
  steps : w.ownsRow base 94 2 sv c.steps.length (c.steps.flatMap encInstruction)
def RetCCO (w : World) (r : CodeD × Int) (e : Ending) (w' : World) : Prop := ∃ bv sv, e = .returned (.tuple #[valC r.1 bv sv, .int .i64 r.2]) ∧ New w w' ∧ OwnC w' w.heap.size r.1 bv sv
theorem own_nil3 {w : World} {base : Nat} {e : TypeId} {sz : Nat} : w.ownsRow base e sz (.slice none 0 0) 0 [] := ⟨by simp, .inl ⟨rfl, rfl⟩⟩
theorem rd_nil3 {w : World} : Rd w (.slice none 0 0) 0 [] := ⟨none, 0, rfl, by simp, ⟨fun _ => rfl, by simp⟩, fun j u hu => by simp at hu⟩
set_option maxHeartbeats 2000000 in
theorem sImproveCode_any (c : CodeD) (bv sv : Value) (w : World) (hb : RdT w bv c.blocks) (hs : RdN w sv c.steps) (hf : ∀ x ∈ c.blocks, fitTerm x) (hbl : c.blocks.length ≤ 1048576) :
    Calls Tryd.prog 36 #[valC c bv sv] w (RetCC w (impR c)) := by
  obtain ⟨i0, hi, hz0, hz1, hz2⟩ := info_parts infoTerm
  have HB := Lib.hid hb; have HS := Lib.hid hs
  obtain ⟨ba, bc, rfl, _⟩ := hb
  obtain ⟨sa, sc, rfl, _⟩ := hs
  rcases Bool.eq_false_or_eq_true (isCodeB c) with h | h
  · have HR := Lib.hid (impR_1 h)
    have HA := Lib.hid (code_args h)
    have hsm := code_small h
    have hl1 := hsm.b1
    have hl2 := hsm.s1
    clear hsm
    go_enter Tryd.func36, Tryd.ntmps36
    go_wp2_with fail
    refine (sIsCode_any c _ _ _ (Rd.new HB.out (by repeat (first | with_reducible exact New.refl _ | with_reducible assumption | with_reducible refine New.drew ?_ | with_reducible refine New.drewN ?_ _ | with_reducible refine New.alloc ?_ _ | with_reducible refine New.setCell ?_ (by first | (simp; done) | (simp; omega) | omega) _ | with_reducible refine New.trans ?_ (by with_reducible assumption)))) (Rd.new HS.out (by repeat (first | with_reducible exact New.refl _ | with_reducible assumption | with_reducible refine New.drew ?_ | with_reducible refine New.drewN ?_ _ | with_reducible refine New.alloc ?_ _ | with_reducible refine New.setCell ?_ (by first | (simp; done) | (simp; omega) | omega) _ | with_reducible refine New.trans ?_ (by with_reducible assumption)))) hf).mono ?_; rintro e w1 ⟨rfl, b1⟩
    try with_reducible replace b1 := New.undrawN b1
    try with_reducible replace b1 := New.undraw b1
    obtain ⟨c1, f1⟩ := b1.rules
    have z1 := b1.size
    try simp only [World.size_alloc, World.size_drew, World.heap_drewN, World.size_setCell] at z1
    have z1_0 : w.heap.size < w1.heap.size := by omega
    have z1_1 : w.heap.size + 1 < w1.heap.size := by omega
    go_wp2_with fail
    have k0 : w1.cell? ⟨w.heap.size, 0, none⟩ = some (.int .i64 c.ins) := by simp (disch := first | (simp only [World.size_alloc, World.size_drew, World.size_setCell]; omega) | omega | (simp; done) | (simp; omega)) only [c1, cell_alloc_old, cell_alloc_new, World.cell?_drewN, World.cell?_drew]; first | done | rfl | (simp; done)
    have k1 : w1.cell? ⟨w.heap.size, 1, none⟩ = some (.int .i64 c.vars) := by simp (disch := first | (simp only [World.size_alloc, World.size_drew, World.size_setCell]; omega) | omega | (simp; done) | (simp; omega)) only [c1, cell_alloc_old, cell_alloc_new, World.cell?_drewN, World.cell?_drew]; first | done | rfl | (simp; done)
    have k2 : w1.cell? ⟨w.heap.size, 2, none⟩ = some (.int .i64 c.outs) := by simp (disch := first | (simp only [World.size_alloc, World.size_drew, World.size_setCell]; omega) | omega | (simp; done) | (simp; omega)) only [c1, cell_alloc_old, cell_alloc_new, World.cell?_drewN, World.cell?_drew]; first | done | rfl | (simp; done)
    have k3 : w1.cell? ⟨w.heap.size, 3, none⟩ = some (.slice ba c.blocks.length bc) := by simp (disch := first | (simp only [World.size_alloc, World.size_drew, World.size_setCell]; omega) | omega | (simp; done) | (simp; omega)) only [c1, cell_alloc_old, cell_alloc_new, World.cell?_drewN, World.cell?_drew]; first | done | rfl | (simp; done)
    have k4 : w1.cell? ⟨w.heap.size, 4, none⟩ = some (.slice sa c.steps.length sc) := by simp (disch := first | (simp only [World.size_alloc, World.size_drew, World.size_setCell]; omega) | omega | (simp; done) | (simp; omega)) only [c1, cell_alloc_old, cell_alloc_new, World.cell?_drewN, World.cell?_drew]; first | done | rfl | (simp; done)
    refine RG.wp_facts [fun X _ => X = .pointer (some ⟨w.heap.size, 0, none⟩), fun X _ => X = .int .i64 c.ins, fun X _ => X = .pointer (some ⟨w.heap.size, 1, none⟩), fun X _ => X = .int .i64 c.vars, fun X _ => X = .pointer (some ⟨w.heap.size, 2, none⟩), fun X _ => X = .int .i64 c.outs, fun X W' => ∃ q, X = .slice (some ⟨q, 0, none⟩) 0 0 ∧ w1.heap.size ≤ q ∧ Blk W' q #[] 43, fun X _ => X = .pointer (some ⟨w.heap.size, 3, none⟩), fun X _ => X = .slice ba c.blocks.length bc, fun X W' => W'.ownsRow w1.heap.size 43 3 X c.blocks.length (c.blocks.flatMap encTerm), fun X _ => X = .pointer (some ⟨w.heap.size, 4, none⟩), fun X _ => X = .slice sa c.steps.length sc, fun X W' => W'.ownsRow w1.heap.size 94 2 X (impI c.steps).length ((impI c.steps).flatMap encInstruction)] (by kernel_rfl) (by kernel_rfl) ⟨RG.stable_eq _, RG.stable_eq _, RG.stable_eq _, RG.stable_eq _, RG.stable_eq _, RG.stable_eq _, fun X w0 w1 hn ⟨q14, t14, l14, o14⟩ => ⟨q14, t14, l14, o14.new hn⟩, RG.stable_eq _, RG.stable_eq _, fun X w0 w1 hn r17 => own_new r17 hn, RG.stable_eq _, RG.stable_eq _, fun X w0 w1 hn r20 => own_new r20 hn, trivial⟩ ?_ ?_
    · refine ⟨?_, ?_, ?_, ?_, ?_, ?_, ?_, ?_, ?_, ?_, ?_, ?_, ?_, trivial⟩
      · intro a w9 hw ho hk
        refine .inl ⟨by rfl, ?_⟩
        have t2 := ho 1 rfl
        dsimp at t2
        try with_reducible replace hw := New.undrawN hw
        try with_reducible replace hw := New.undraw hw
        obtain ⟨c, f'⟩ := hw.rules
        go_simp
        exact New.refl _
      · intro a w9 hw ho hk
        refine .inl ⟨by rfl, ?_⟩
        have t8 : a.tmps[8]?.getD undef = .pointer (some ⟨w.heap.size, 0, none⟩) := hk 0 8 (by kernel_rfl) rfl
        try with_reducible replace hw := New.undrawN hw
        try with_reducible replace hw := New.undraw hw
        obtain ⟨c, f'⟩ := hw.rules
        go_simp
        exact New.refl _
      · intro a w9 hw ho hk
        refine .inl ⟨by rfl, ?_⟩
        have t2 := ho 1 rfl
        dsimp at t2
        try with_reducible replace hw := New.undrawN hw
        try with_reducible replace hw := New.undraw hw
        obtain ⟨c, f'⟩ := hw.rules
        go_simp
        exact New.refl _
      · intro a w9 hw ho hk
        refine .inl ⟨by rfl, ?_⟩
        have t10 : a.tmps[10]?.getD undef = .pointer (some ⟨w.heap.size, 1, none⟩) := hk 2 10 (by kernel_rfl) rfl
        try with_reducible replace hw := New.undrawN hw
        try with_reducible replace hw := New.undraw hw
        obtain ⟨c, f'⟩ := hw.rules
        go_simp
        exact New.refl _
      · intro a w9 hw ho hk
        refine .inl ⟨by rfl, ?_⟩
        have t2 := ho 1 rfl
        dsimp at t2
        try with_reducible replace hw := New.undrawN hw
        try with_reducible replace hw := New.undraw hw
        obtain ⟨c, f'⟩ := hw.rules
        go_simp
        exact New.refl _
      · intro a w9 hw ho hk
        refine .inl ⟨by rfl, ?_⟩
        have t12 : a.tmps[12]?.getD undef = .pointer (some ⟨w.heap.size, 2, none⟩) := hk 4 12 (by kernel_rfl) rfl
        try with_reducible replace hw := New.undrawN hw
        try with_reducible replace hw := New.undraw hw
        obtain ⟨c, f'⟩ := hw.rules
        go_simp
        exact New.refl _
      · intro a w9 hw ho hk
        refine .inl ⟨by rfl, ?_⟩
        have hws := hw.size; go_simp; first | exact ⟨(New.refl _).alloc _, _, rfl, _, rfl, hws, Blk.alloc_at rfl⟩ | exact ⟨(New.refl _).alloc _, _, by simp, hws, Blk.alloc_at rfl⟩
      · intro a w9 hw ho hk
        refine .inl ⟨by rfl, ?_⟩
        have t2 := ho 1 rfl
        dsimp at t2
        try with_reducible replace hw := New.undrawN hw
        try with_reducible replace hw := New.undraw hw
        obtain ⟨c, f'⟩ := hw.rules
        go_simp
        exact New.refl _
      · intro a w9 hw ho hk
        refine .inl ⟨by rfl, ?_⟩
        have t15 : a.tmps[15]?.getD undef = .pointer (some ⟨w.heap.size, 3, none⟩) := hk 7 15 (by kernel_rfl) rfl
        try with_reducible replace hw := New.undrawN hw
        try with_reducible replace hw := New.undraw hw
        obtain ⟨c, f'⟩ := hw.rules
        go_simp
        exact New.refl _
      · intro a w9 hw ho hk
        refine .inl ⟨by rfl, ?_⟩
        obtain ⟨q14, t14, l14, o14⟩ : ∃ q, (a.tmps[14]?.getD undef) = .slice (some ⟨q, 0, none⟩) 0 0 ∧ w1.heap.size ≤ q ∧ Blk w9 q #[] 43 := hk 6 14 (by kernel_rfl) rfl
        have t16 : a.tmps[16]?.getD undef = .slice ba c.blocks.length bc := hk 8 16 (by kernel_rfl) rfl
        have hws := hw.size; exact wp_append_fresh _ _ 36 rfl 43 i0 (Value.agg #[.int .i64 0, .string ⟨#[]⟩, .int .i64 0]) 3 32 Tryd.underlying36 hi hz0 hz1 hz2 rfl (by decide) w1.heap.size q14 l14 (by first | (simp [Act.eval, Act.get]; exact t14) | simp [Act.eval, t14]) o14 _ c.blocks.length (c.blocks.flatMap encTerm) (by first | (simp [Act.eval, Act.get]; exact t16) | simp [Act.eval, t16]) (Rd.new HB.out (New.trans (show New w _ by exact (by repeat (first | with_reducible exact New.refl _ | with_reducible assumption | with_reducible refine New.drew ?_ | with_reducible refine New.drewN ?_ _ | with_reducible refine New.alloc ?_ _ | with_reducible refine New.setCell ?_ (by first | (simp; done) | (simp; omega) | omega) _ | with_reducible refine New.trans ?_ (by with_reducible assumption)))) hw)) (flat_length encTerm 3 encTerm_len _) (encT_one _) (by unfold maxLen; omega) (by omega) hws (fun v2 w2 hn2 hr2 => ⟨hn2, _, rfl, hr2⟩)
      · intro a w9 hw ho hk
        refine .inl ⟨by rfl, ?_⟩
        have t2 := ho 1 rfl
        dsimp at t2
        try with_reducible replace hw := New.undrawN hw
        try with_reducible replace hw := New.undraw hw
        obtain ⟨c, f'⟩ := hw.rules
        go_simp
        exact New.refl _
      · intro a w9 hw ho hk
        refine .inl ⟨by rfl, ?_⟩
        have t18 : a.tmps[18]?.getD undef = .pointer (some ⟨w.heap.size, 4, none⟩) := hk 10 18 (by kernel_rfl) rfl
        try with_reducible replace hw := New.undrawN hw
        try with_reducible replace hw := New.undraw hw
        obtain ⟨c, f'⟩ := hw.rules
        go_simp
        exact New.refl _
      · intro a w9 hw ho hk
        refine .inl ⟨by rfl, ?_⟩
        have t19 : a.tmps[19]?.getD undef = .slice sa c.steps.length sc := hk 11 19 (by kernel_rfl) rfl
        go_simp
        refine (sImprove_any _ _ c.steps _ rfl hl2 HA.out (Rd.new HS.out (New.trans (show New w _ by exact (by repeat (first | with_reducible exact New.refl _ | with_reducible assumption | with_reducible refine New.drew ?_ | with_reducible refine New.drewN ?_ _ | with_reducible refine New.alloc ?_ _ | with_reducible refine New.setCell ?_ (by first | (simp; done) | (simp; omega) | omega) _ | with_reducible refine New.trans ?_ (by with_reducible assumption)))) hw))).mono ?_; rintro e w2 ⟨r, rfl, hb, o⟩
        have hws := hw.size; exact ⟨hb, _, rfl, own_base o hws⟩
    intro w2 b2
    rintro _ rfl _ rfl _ rfl _ rfl _ rfl _ rfl _ ⟨q14, rfl, l14, o14⟩ _ rfl _ rfl xb r17 _ rfl _ rfl xs r20
    clear o14 l14
    try with_reducible replace b2 := New.undrawN b2
    try with_reducible replace b2 := New.undraw b2
    obtain ⟨c2, f2⟩ := b2.rules
    have z2 := b2.size
    try simp only [World.size_alloc, World.size_drew, World.heap_drewN, World.size_setCell] at z2
    have z2_0 : w.heap.size < w2.heap.size := by omega
    have z2_1 : w.heap.size + 1 < w2.heap.size := by omega
    obtain ⟨xa, xc, rfl⟩ := own_slice r17
    obtain ⟨ya, yc, rfl⟩ := own_slice r20
    simp only [RG.EndAll, List.nil_append, List.cons_append, List.length_cons, List.length_nil, Nat.zero_add, Nat.reduceAdd, List.take_succ_cons, List.take_zero, List.drop_succ_cons, List.drop_zero, RG.putAll, Act.put, List.setIfInBounds_toArray, List.set_cons_succ, List.set_cons_zero]
    go_wp2_with fail
    refine bodyPost_ret (v := .tuple #[valC (impC c) (.slice xa c.blocks.length xc) (.slice ya (impI c.steps).length yc), .int .i64 0]) (by simp [results, Tryd.results36, go_sem, c2, f2, c1, f1, z1_0, z1_1, z2_0, z2_1, impC]) rfl ?_
    rw [HR.out]
    refine ⟨_, _, rfl, (by repeat (first | with_reducible exact New.refl _ | with_reducible assumption | with_reducible refine New.drew ?_ | with_reducible refine New.drewN ?_ _ | with_reducible refine New.alloc ?_ _ | with_reducible refine New.setCell ?_ (by first | (simp; done) | (simp; omega) | omega) _ | with_reducible refine New.trans ?_ (by with_reducible assumption))), ?_, ?_⟩
    · refine own_rd (base := w1.heap.size) (e := 43) (sz := 3) ?_
      repeat (apply ownsRow_setCell_below)
      exact r17
      all_goals (dsimp; omega)
    · refine own_rd (base := w1.heap.size) (e := 94) (sz := 2) ?_
      repeat (apply ownsRow_setCell_below)
      exact r20
      all_goals (dsimp; omega)
  · have HR := Lib.hid (impR_0 h)
    go_enter Tryd.func36, Tryd.ntmps36
    go_wp2_with fail
    refine (sIsCode_any c _ _ _ (Rd.new HB.out (by repeat (first | with_reducible exact New.refl _ | with_reducible assumption | with_reducible refine New.drew ?_ | with_reducible refine New.drewN ?_ _ | with_reducible refine New.alloc ?_ _ | with_reducible refine New.setCell ?_ (by first | (simp; done) | (simp; omega) | omega) _ | with_reducible refine New.trans ?_ (by with_reducible assumption)))) (Rd.new HS.out (by repeat (first | with_reducible exact New.refl _ | with_reducible assumption | with_reducible refine New.drew ?_ | with_reducible refine New.drewN ?_ _ | with_reducible refine New.alloc ?_ _ | with_reducible refine New.setCell ?_ (by first | (simp; done) | (simp; omega) | omega) _ | with_reducible refine New.trans ?_ (by with_reducible assumption)))) hf).mono ?_; rintro e w1 ⟨rfl, b1⟩
    obtain ⟨c1, f1⟩ := b1.rules
    have z1 := b1.size
    simp only [World.size_alloc] at z1
    have z1_0 : w.heap.size + 1 < w1.heap.size := by omega
    go_wp2_with fail
    refine bodyPost_ret (v := .tuple #[valC noC (.slice none 0 0) (.slice none 0 0), .int .i64 1]) (by simp [results, Tryd.results36, go_sem, c1, f1, z1_0, noC]) rfl ?_
    rw [HR.out]
    exact ⟨_, _, rfl, (by repeat (first | with_reducible exact New.refl _ | with_reducible assumption | with_reducible refine New.drew ?_ | with_reducible refine New.drewN ?_ _ | with_reducible refine New.alloc ?_ _ | with_reducible refine New.setCell ?_ (by first | (simp; done) | (simp; omega) | omega) _ | with_reducible refine New.trans ?_ (by with_reducible assumption))), rd_nil3, rd_nil3⟩
theorem blk_ne_own {w : World} {O base : Nat} {cs : Array Value} {T e : TypeId} {sz : Nat} {v : Value} {n : Nat} {ds : List Value} (hK : Blk w O cs T) (h : w.ownsRow base e sz v n ds) (hT : T ≠ e) : some O ≠ v.ownBlock := by
  intro he
  rcases h.2 with ⟨rfl, _⟩ | ⟨g, cap, cur, rfl, _, hg, _⟩
  · cases he
  · injection he with he
    subst he
    have := hK.symm.trans hg
    simp at this
    exact hT this.2
theorem own_ne_own {w : World} {b1 b2 : Nat} {e1 e2 : TypeId} {s1 s2 : Nat} {u v : Value} {n m : Nat} {cs ds : List Value} (h1 : w.ownsRow b1 e1 s1 u n cs) (h2 : w.ownsRow b2 e2 s2 v m ds) (hT : e1 ≠ e2) : ∀ i j, u.ownBlock = some i → v.ownBlock = some j → i ≠ j := by
  intro i j hi hj hij
  subst hij
  rcases h1.2 with ⟨rfl, _⟩ | ⟨g, cap, cur, rfl, _, hg, _⟩
  · cases hi
  · cases hi
    rcases h2.2 with ⟨rfl, _⟩ | ⟨g', cap', cur', rfl, _, hg', _⟩
    · cases hj
    · cases hj
      have := hg.symm.trans hg'
      simp at this
      exact hT this.2
theorem own_setN {w : World} {O o base : Nat} {e : TypeId} {sz : Nat} {v : Value} {n : Nat} {ds : List Value} (h : w.ownsRow base e sz v n ds) (hne : some O ≠ v.ownBlock) (u : Value) : (w.setCell ⟨O, o, none⟩ u).ownsRow base e sz v n ds := by
  have hg : w.grownBy (w.setCell ⟨O, o, none⟩ u) (some O) := ⟨rfl, rfl, rfl, by simp, fun q hq hne => heap_setCell_other w ⟨O, o, none⟩ q u (fun e => hne (by simp [e]))⟩
  refine h.kept hg ?_
  cases hb : v.ownBlock with
  | none => exact .inl rfl
  | some k => exact .inr (fun e => hne (by rw [hb, e]))
theorem own_gr {w w' : World} {r : Option Nat} {base : Nat} {e : TypeId} {sz : Nat} {v : Value} {n : Nat} {ds : List Value} (h : w.ownsRow base e sz v n ds) (hg : w.grownBy w' r) (hne : ∀ i j, r = some i → v.ownBlock = some j → i ≠ j) : w'.ownsRow base e sz v n ds := by
  refine h.kept hg ?_
  cases hb : v.ownBlock with
  | none => exact .inl rfl
  | some k => exact .inr (fun e => hne k k e.symm hb rfl)
set_option maxHeartbeats 2000000 in
theorem iImproveCode_any (c : CodeD) (bv sv : Value) (w : World) (hb : RdT w bv c.blocks) (hs : RdN w sv c.steps) (hf : ∀ x ∈ c.blocks, fitTerm x) (hbl : c.blocks.length ≤ 1048576) (hk : KW w) :
    Calls Tryd.prog 35 #[valC c bv sv] w (RetCCO w (impR c)) := by
  have HB := Lib.hid hb; have HS := Lib.hid hs
  have HK := Lib.hid hk; clear hk
  obtain ⟨ba, bc, rfl, _⟩ := hb
  obtain ⟨sa, sc, rfl, _⟩ := hs
  rcases Bool.eq_false_or_eq_true (isCodeB c) with h | h
  · have HR := Lib.hid (impR_1 h)
    have HA := Lib.hid (code_args h)
    have hsm := code_small h
    have hl1 := hsm.b1
    have hl2 := hsm.s1
    clear hsm
    go_enter Tryd.func35, Tryd.ntmps35
    go_wp2_with fail
    refine (iIsCode_any c _ _ _ (Rd.new HB.out (by repeat (first | with_reducible exact New.refl _ | with_reducible assumption | with_reducible refine New.drew ?_ | with_reducible refine New.drewN ?_ _ | with_reducible refine New.alloc ?_ _ | with_reducible refine New.setCell ?_ (by first | (simp; done) | (simp; omega) | omega) _ | with_reducible refine New.trans ?_ (by with_reducible assumption)))) (Rd.new HS.out (by repeat (first | with_reducible exact New.refl _ | with_reducible assumption | with_reducible refine New.drew ?_ | with_reducible refine New.drewN ?_ _ | with_reducible refine New.alloc ?_ _ | with_reducible refine New.setCell ?_ (by first | (simp; done) | (simp; omega) | omega) _ | with_reducible refine New.trans ?_ (by with_reducible assumption)))) hf (HK.out.new (by repeat (first | with_reducible exact New.refl _ | with_reducible assumption | with_reducible refine New.drew ?_ | with_reducible refine New.drewN ?_ _ | with_reducible refine New.alloc ?_ _ | with_reducible refine New.setCell ?_ (by first | (simp; done) | (simp; omega) | omega) _ | with_reducible refine New.trans ?_ (by with_reducible assumption))))).mono ?_; rintro e w1 ⟨rfl, b1⟩
    try with_reducible replace b1 := New.undrawN b1
    try with_reducible replace b1 := New.undraw b1
    obtain ⟨c1, f1⟩ := b1.rules
    have z1 := b1.size
    try simp only [World.size_alloc, World.size_drew, World.heap_drewN, World.size_setCell] at z1
    have z1_0 : w.heap.size < w1.heap.size := by omega
    have z1_1 : w.heap.size + 1 < w1.heap.size := by omega
    go_wp2_with fail
    have k0 : w1.cell? ⟨w.heap.size, 0, none⟩ = some (.int .i64 c.ins) := by simp (disch := first | (simp only [World.size_alloc, World.size_drew, World.size_setCell]; omega) | omega | (simp; done) | (simp; omega)) only [c1, cell_alloc_old, cell_alloc_new, World.cell?_drewN, World.cell?_drew]; first | done | rfl | (simp; done)
    have k1 : w1.cell? ⟨w.heap.size, 1, none⟩ = some (.int .i64 c.vars) := by simp (disch := first | (simp only [World.size_alloc, World.size_drew, World.size_setCell]; omega) | omega | (simp; done) | (simp; omega)) only [c1, cell_alloc_old, cell_alloc_new, World.cell?_drewN, World.cell?_drew]; first | done | rfl | (simp; done)
    have k2 : w1.cell? ⟨w.heap.size, 2, none⟩ = some (.int .i64 c.outs) := by simp (disch := first | (simp only [World.size_alloc, World.size_drew, World.size_setCell]; omega) | omega | (simp; done) | (simp; omega)) only [c1, cell_alloc_old, cell_alloc_new, World.cell?_drewN, World.cell?_drew]; first | done | rfl | (simp; done)
    have k3 : w1.cell? ⟨w.heap.size, 3, none⟩ = some (.slice ba c.blocks.length bc) := by simp (disch := first | (simp only [World.size_alloc, World.size_drew, World.size_setCell]; omega) | omega | (simp; done) | (simp; omega)) only [c1, cell_alloc_old, cell_alloc_new, World.cell?_drewN, World.cell?_drew]; first | done | rfl | (simp; done)
    have k4 : w1.cell? ⟨w.heap.size, 4, none⟩ = some (.slice sa c.steps.length sc) := by simp (disch := first | (simp only [World.size_alloc, World.size_drew, World.size_setCell]; omega) | omega | (simp; done) | (simp; omega)) only [c1, cell_alloc_old, cell_alloc_new, World.cell?_drewN, World.cell?_drew]; first | done | rfl | (simp; done)
    refine RG.wp_facts [fun X _ => X = .pointer (some ⟨w.heap.size, 0, none⟩), fun X _ => X = .int .i64 c.ins, fun X _ => X = .pointer (some ⟨w.heap.size, 1, none⟩), fun X _ => X = .int .i64 c.vars, fun X _ => X = .pointer (some ⟨w.heap.size, 2, none⟩), fun X _ => X = .int .i64 c.outs, fun X _ => X = .pointer (some ⟨w.heap.size, 3, none⟩), fun X _ => X = .slice ba c.blocks.length bc, fun X W' => ∃ s k, X = .slice s c.blocks.length k ∧ W'.ownsRow w1.heap.size 43 3 (.slice s c.blocks.length k) c.blocks.length (c.blocks.flatMap encTerm), fun X _ => X = .pointer (some ⟨w.heap.size, 4, none⟩), fun X _ => X = .slice sa c.steps.length sc, fun X W' => ∃ s k, X = .slice s c.steps.length k ∧ W'.ownsRow w1.heap.size 94 2 (.slice s c.steps.length k) c.steps.length (c.steps.flatMap encInstruction), fun X W' => ∃ p m q n, X = .agg #[.int .i64 c.ins, .int .i64 c.vars, .int .i64 c.outs, .slice p c.blocks.length m, .slice q c.steps.length n] ∧ W'.ownsRow w1.heap.size 43 3 (.slice p c.blocks.length m) c.blocks.length (c.blocks.flatMap encTerm) ∧ W'.ownsRow w1.heap.size 94 2 (.slice q c.steps.length n) c.steps.length (c.steps.flatMap encInstruction), fun X W' => ∃ q, X = .pointer (some ⟨q, 0, none⟩) ∧ w1.heap.size ≤ q ∧ Blk W' q #[.int .i64 0, .int .i64 0, .int .i64 0, .slice none 0 0, .slice none 0 0] 59] (by kernel_rfl) (by kernel_rfl) ⟨RG.stable_eq _, RG.stable_eq _, RG.stable_eq _, RG.stable_eq _, RG.stable_eq _, RG.stable_eq _, RG.stable_eq _, RG.stable_eq _, fun X w0 w1 hn ⟨a18, k18, t18, r18⟩ => ⟨a18, k18, t18, own_new r18 hn⟩, RG.stable_eq _, RG.stable_eq _, fun X w0 w1 hn ⟨a21, k21, t21, r21⟩ => ⟨a21, k21, t21, own_new r21 hn⟩, fun X w0 w1 hn ⟨p22, m22, q22, n22, t22, o22, u22⟩ => ⟨p22, m22, q22, n22, t22, own_new o22 hn, own_new u22 hn⟩, fun X w0 w1 hn ⟨q4, t4, l4, o4⟩ => ⟨q4, t4, l4, o4.new hn⟩, trivial⟩ ?_ ?_
    · refine ⟨?_, ?_, ?_, ?_, ?_, ?_, ?_, ?_, ?_, ?_, ?_, ?_, ?_, ?_, trivial⟩
      · intro a w9 hw ho hk
        refine .inl ⟨by rfl, ?_⟩
        have t2 := ho 1 rfl
        dsimp at t2
        try with_reducible replace hw := New.undrawN hw
        try with_reducible replace hw := New.undraw hw
        obtain ⟨c, f'⟩ := hw.rules
        go_simp
        exact New.refl _
      · intro a w9 hw ho hk
        refine .inl ⟨by rfl, ?_⟩
        have t10 : a.tmps[10]?.getD undef = .pointer (some ⟨w.heap.size, 0, none⟩) := hk 0 10 (by kernel_rfl) rfl
        try with_reducible replace hw := New.undrawN hw
        try with_reducible replace hw := New.undraw hw
        obtain ⟨c, f'⟩ := hw.rules
        go_simp
        exact New.refl _
      · intro a w9 hw ho hk
        refine .inl ⟨by rfl, ?_⟩
        have t2 := ho 1 rfl
        dsimp at t2
        try with_reducible replace hw := New.undrawN hw
        try with_reducible replace hw := New.undraw hw
        obtain ⟨c, f'⟩ := hw.rules
        go_simp
        exact New.refl _
      · intro a w9 hw ho hk
        refine .inl ⟨by rfl, ?_⟩
        have t12 : a.tmps[12]?.getD undef = .pointer (some ⟨w.heap.size, 1, none⟩) := hk 2 12 (by kernel_rfl) rfl
        try with_reducible replace hw := New.undrawN hw
        try with_reducible replace hw := New.undraw hw
        obtain ⟨c, f'⟩ := hw.rules
        go_simp
        exact New.refl _
      · intro a w9 hw ho hk
        refine .inl ⟨by rfl, ?_⟩
        have t2 := ho 1 rfl
        dsimp at t2
        try with_reducible replace hw := New.undrawN hw
        try with_reducible replace hw := New.undraw hw
        obtain ⟨c, f'⟩ := hw.rules
        go_simp
        exact New.refl _
      · intro a w9 hw ho hk
        refine .inl ⟨by rfl, ?_⟩
        have t14 : a.tmps[14]?.getD undef = .pointer (some ⟨w.heap.size, 2, none⟩) := hk 4 14 (by kernel_rfl) rfl
        try with_reducible replace hw := New.undrawN hw
        try with_reducible replace hw := New.undraw hw
        obtain ⟨c, f'⟩ := hw.rules
        go_simp
        exact New.refl _
      · intro a w9 hw ho hk
        refine .inl ⟨by rfl, ?_⟩
        have t2 := ho 1 rfl
        dsimp at t2
        try with_reducible replace hw := New.undrawN hw
        try with_reducible replace hw := New.undraw hw
        obtain ⟨c, f'⟩ := hw.rules
        go_simp
        exact New.refl _
      · intro a w9 hw ho hk
        refine .inl ⟨by rfl, ?_⟩
        have t16 : a.tmps[16]?.getD undef = .pointer (some ⟨w.heap.size, 3, none⟩) := hk 6 16 (by kernel_rfl) rfl
        try with_reducible replace hw := New.undrawN hw
        try with_reducible replace hw := New.undraw hw
        obtain ⟨c, f'⟩ := hw.rules
        go_simp
        exact New.refl _
      · intro a w9 hw ho hk
        refine .inl ⟨by rfl, ?_⟩
        have t17 : a.tmps[17]?.getD undef = .slice ba c.blocks.length bc := hk 7 17 (by kernel_rfl) rfl
        go_simp
        refine (cloneT_any _ c.blocks _ (Rd.new HB.out (New.trans (show New w _ by exact (by repeat (first | with_reducible exact New.refl _ | with_reducible assumption | with_reducible refine New.drew ?_ | with_reducible refine New.drewN ?_ _ | with_reducible refine New.alloc ?_ _ | with_reducible refine New.setCell ?_ (by first | (simp; done) | (simp; omega) | omega) _ | with_reducible refine New.trans ?_ (by with_reducible assumption)))) hw)) hbl).mono ?_; rintro e w2 ⟨r, rfl, hb, o⟩
        have hws := hw.size; obtain ⟨a9, k9, rfl⟩ := own_slice o; exact ⟨hb, _, rfl, _, _, rfl, own_base o hws⟩
      · intro a w9 hw ho hk
        refine .inl ⟨by rfl, ?_⟩
        have t2 := ho 1 rfl
        dsimp at t2
        try with_reducible replace hw := New.undrawN hw
        try with_reducible replace hw := New.undraw hw
        obtain ⟨c, f'⟩ := hw.rules
        go_simp
        exact New.refl _
      · intro a w9 hw ho hk
        refine .inl ⟨by rfl, ?_⟩
        have t19 : a.tmps[19]?.getD undef = .pointer (some ⟨w.heap.size, 4, none⟩) := hk 9 19 (by kernel_rfl) rfl
        try with_reducible replace hw := New.undrawN hw
        try with_reducible replace hw := New.undraw hw
        obtain ⟨c, f'⟩ := hw.rules
        go_simp
        exact New.refl _
      · intro a w9 hw ho hk
        refine .inl ⟨by rfl, ?_⟩
        have t20 : a.tmps[20]?.getD undef = .slice sa c.steps.length sc := hk 10 20 (by kernel_rfl) rfl
        go_simp
        refine (cloneI_any _ c.steps _ (Rd.new HS.out (New.trans (show New w _ by exact (by repeat (first | with_reducible exact New.refl _ | with_reducible assumption | with_reducible refine New.drew ?_ | with_reducible refine New.drewN ?_ _ | with_reducible refine New.alloc ?_ _ | with_reducible refine New.setCell ?_ (by first | (simp; done) | (simp; omega) | omega) _ | with_reducible refine New.trans ?_ (by with_reducible assumption)))) hw)) (by omega)).mono ?_; rintro e w2 ⟨r, rfl, hb, o⟩
        have hws := hw.size; obtain ⟨a9, k9, rfl⟩ := own_slice o; exact ⟨hb, _, rfl, _, _, rfl, own_base o hws⟩
      · intro a w9 hw ho hk
        refine .inl ⟨by rfl, ?_⟩
        have t11 : a.tmps[11]?.getD undef = .int .i64 c.ins := hk 1 11 (by kernel_rfl) rfl
        have t13 : a.tmps[13]?.getD undef = .int .i64 c.vars := hk 3 13 (by kernel_rfl) rfl
        have t15 : a.tmps[15]?.getD undef = .int .i64 c.outs := hk 5 15 (by kernel_rfl) rfl
        obtain ⟨a18, k18, t18, r18⟩ : ∃ s k, (a.tmps[18]?.getD undef) = .slice s c.blocks.length k ∧ w9.ownsRow w1.heap.size 43 3 (.slice s c.blocks.length k) c.blocks.length (c.blocks.flatMap encTerm) := hk 8 18 (by kernel_rfl) rfl
        obtain ⟨a21, k21, t21, r21⟩ : ∃ s k, (a.tmps[21]?.getD undef) = .slice s c.steps.length k ∧ w9.ownsRow w1.heap.size 94 2 (.slice s c.steps.length k) c.steps.length (c.steps.flatMap encInstruction) := hk 11 21 (by kernel_rfl) rfl
        go_simp
        first | exact ⟨New.refl _, _, rfl, _, _, _, _, rfl, r18, r21⟩ | exact ⟨New.refl _, a18, k18, a21, k21, by simp, r18, r21⟩
      · intro a w9 hw ho hk
        refine .inl ⟨by rfl, ?_⟩
        have hws := hw.size; go_simp; first | exact ⟨(New.refl _).alloc _, _, rfl, _, rfl, hws, Blk.alloc_at rfl⟩ | exact ⟨(New.refl _).alloc _, _, by simp, hws, Blk.alloc_at rfl⟩
    intro w2 b2
    rintro _ rfl _ rfl _ rfl _ rfl _ rfl _ rfl _ rfl _ rfl _ ⟨a18, k18, rfl, r18⟩ _ rfl _ rfl _ ⟨a21, k21, rfl, r21⟩ _ ⟨xa, xc, ya, yc, rfl, r1, r2⟩ _ ⟨O, rfl, hO, KO⟩
    clear r18 r21 k0 k1 k2 k3 k4
    try with_reducible replace b2 := New.undrawN b2
    try with_reducible replace b2 := New.undraw b2
    obtain ⟨c2, f2⟩ := b2.rules
    have z2 := b2.size
    try simp only [World.size_alloc, World.size_drew, World.heap_drewN, World.size_setCell] at z2
    have z2_0 : w.heap.size < w2.heap.size := by omega
    have z2_1 : w.heap.size + 1 < w2.heap.size := by omega
    obtain ⟨cO, fO⟩ := KO.rules
    have hO2 := KO.lt
    have R1 := Lib.hid r1
    have R2 := Lib.hid r2
    clear r1 r2
    simp only [RG.EndAll, List.nil_append, List.cons_append, List.length_cons, List.length_nil, Nat.zero_add, Nat.reduceAdd, List.take_succ_cons, List.take_zero, List.drop_succ_cons, List.drop_zero, RG.putAll, Act.put, List.setIfInBounds_toArray, List.set_cons_succ, List.set_cons_zero]
    go_wp2_with fail
    have K0 := ((((KO.set 0 (.int .i64 c.ins)).set 1 (.int .i64 c.vars)).set 2 (.int .i64 c.outs)).set 3 (.slice xa c.blocks.length xc)).set 4 (.slice ya c.steps.length yc)
    simp only [List.setIfInBounds_toArray, List.set_cons_succ, List.set_cons_zero] at K0
    have hn1 := blk_ne_own KO R1.out (by decide)
    have hn2 := blk_ne_own KO R2.out (by decide)
    have Q1 := Lib.hid (own_setN (own_setN (own_setN (own_setN (own_setN R1.out hn1 (o := 0) (.int .i64 c.ins)) hn1 (o := 1) (.int .i64 c.vars)) hn1 (o := 2) (.int .i64 c.outs)) hn1 (o := 3) (.slice xa c.blocks.length xc)) hn1 (o := 4) (.slice ya c.steps.length yc))
    have Q2 := Lib.hid (own_setN (own_setN (own_setN (own_setN (own_setN R2.out hn2 (o := 0) (.int .i64 c.ins)) hn2 (o := 1) (.int .i64 c.vars)) hn2 (o := 2) (.int .i64 c.outs)) hn2 (o := 3) (.slice xa c.blocks.length xc)) hn2 (o := 4) (.slice ya c.steps.length yc))
    have N1 : New w1 (((((w2.setCell ⟨O, 0, none⟩ (.int .i64 c.ins)).setCell ⟨O, 1, none⟩ (.int .i64 c.vars)).setCell ⟨O, 2, none⟩ (.int .i64 c.outs)).setCell ⟨O, 3, none⟩ (.slice xa c.blocks.length xc)).setCell ⟨O, 4, none⟩ (.slice ya c.steps.length yc)) := ((((b2.setCell (p := ⟨O, 0, none⟩) hO _).setCell (p := ⟨O, 1, none⟩) hO _).setCell (p := ⟨O, 2, none⟩) hO _).setCell (p := ⟨O, 3, none⟩) hO _).setCell (p := ⟨O, 4, none⟩) hO _
    have N01 : New w w1 := by exact (by repeat (first | with_reducible exact New.refl _ | with_reducible assumption | with_reducible refine New.drew ?_ | with_reducible refine New.drewN ?_ _ | with_reducible refine New.alloc ?_ _ | with_reducible refine New.setCell ?_ (by first | (simp; done) | (simp; omega) | omega) _ | with_reducible refine New.trans ?_ (by with_reducible assumption)))
    clear hn1 hn2 R1 R2 KO cO fO hO2 c2 f2 z2 z2_0 z2_1
    go_loopw [5] (fun ch wr => ∃ (xs : List EInstruction) (ad : Option Addr) (cp : Nat) (bch : Bool), ch = .bool bch ∧ Hid (impI xs = impI c.steps) ∧ Hid (bch = false → onceI xs = none) ∧ Hid (okArgs xs) ∧ xs.length ≤ 2000 ∧ New w1 wr ∧
      Blk wr O #[.int .i64 c.ins, .int .i64 c.vars, .int .i64 c.outs, .slice xa c.blocks.length xc, .slice ad xs.length cp] 59 ∧ Hid (wr.ownsRow w1.heap.size 43 3 (.slice xa c.blocks.length xc) c.blocks.length (c.blocks.flatMap encTerm)) ∧
      Hid (wr.ownsRow w1.heap.size 94 2 (.slice ad xs.length cp) xs.length (xs.flatMap encInstruction))) (fun ch wr => (match wr.cell? ⟨O, 4, none⟩ with | some (.slice _ n _) => n | _ => 0) + (match ch with | .bool true => 1 | _ => 0))
    case atStart => exact ⟨c.steps, ya, yc, true, rfl, Lib.hid rfl, Lib.hid (fun h => by cases h), HA, hl2, N1, K0, Q1, Q2⟩
    case round =>
      obtain ⟨xs, ad, cp, bch, rfl, hI, hN, hA, hxl, hb, KO, o1, o2⟩ := hrel
      clear K0 Q1 Q2 N1
      obtain ⟨cO, fO⟩ := KO.rules
      have hOr := KO.lt
      have hbz := hb.size
      have hm0 := Lib.hid (show wr.cell? ⟨O, 4, none⟩ = some (.slice ad xs.length cp) by rw [cO]; rfl)
      obtain ⟨cw, fw⟩ := hb.rules
      cases bch with
      | true =>
        have HON := Lib.hid (iOnce_any w1.heap.size (.slice ad xs.length cp) xs wr hxl hA.out o2.out hbz)
        cases ho : onceI xs with
        | none =>
          have ho' := Lib.hid ho
          clear ho
          go_wp2_with fail
          refine HON.out.mono ?_
          rintro e w5 ⟨v5, ys, rfl, g5, o5, hvb, hys⟩
          rw [ho'.out] at hys
          obtain rfl : ys = xs := hys
          rw [ho'.out]
          dsimp only [Option.isSome]
          obtain ⟨ad5, cp5, rfl⟩ := own_slice o5
          have K5 := KO.grown g5 (blk_ne_own KO o2.out (by decide))
          have o15 := own_gr o1.out g5 (fun i j hi hj => own_ne_own o2.out o1.out (by decide) i j hi hj)
          have N5 := New.grown hb g5 (fun k hk => (own_block_lt o2.out k hk).1)
          have K6 := K5.set 4 (.slice ad5 ys.length cp5)
          simp only [List.setIfInBounds_toArray, List.set_cons_succ, List.set_cons_zero] at K6
          have p1 := own_setN o15 (blk_ne_own K5 o15 (by decide)) (o := 4) (.slice ad5 ys.length cp5)
          have p2 := own_setN o5 (blk_ne_own K5 o5 (by decide)) (o := 4) (.slice ad5 ys.length cp5)
          have N6 := N5.setCell (p := ⟨O, 4, none⟩) hO (.slice ad5 ys.length cp5)
          have hm1 := Lib.hid (show (w5.setCell ⟨O, 4, none⟩ (.slice ad5 ys.length cp5)).cell? ⟨O, 4, none⟩ = some (.slice ad5 ys.length cp5) by rw [K6.rules.1]; rfl)
          obtain ⟨c5, f5⟩ := K5.rules
          have P1 := Lib.hid p1
          have P2 := Lib.hid p2
          clear p1 p2 o5 o15 cO fO cw fw
          go_wp2_with fail
          go_roundw
          case rel => exact ⟨ys, ad5, cp5, false, rfl, hI, Lib.hid (fun _ => ho'.out), hA, hxl, N6, K6, P1, P2⟩
          case measure => rw [hm0.out, hm1.out]; simp
        | some zs =>
          have ho' := Lib.hid ho
          have hll := once_len ho
          clear ho
          go_wp2_with fail
          refine HON.out.mono ?_
          rintro e w5 ⟨v5, ys, rfl, g5, o5, hvb, hys⟩
          rw [ho'.out] at hys
          obtain rfl : ys = zs := hys
          rw [ho'.out]
          dsimp only [Option.isSome]
          obtain ⟨ad5, cp5, rfl⟩ := own_slice o5
          have K5 := KO.grown g5 (blk_ne_own KO o2.out (by decide))
          have o15 := own_gr o1.out g5 (fun i j hi hj => own_ne_own o2.out o1.out (by decide) i j hi hj)
          have N5 := New.grown hb g5 (fun k hk => (own_block_lt o2.out k hk).1)
          have K6 := K5.set 4 (.slice ad5 ys.length cp5)
          simp only [List.setIfInBounds_toArray, List.set_cons_succ, List.set_cons_zero] at K6
          have p1 := own_setN o15 (blk_ne_own K5 o15 (by decide)) (o := 4) (.slice ad5 ys.length cp5)
          have p2 := own_setN o5 (blk_ne_own K5 o5 (by decide)) (o := 4) (.slice ad5 ys.length cp5)
          have N6 := N5.setCell (p := ⟨O, 4, none⟩) hO (.slice ad5 ys.length cp5)
          have hm1 := Lib.hid (show (w5.setCell ⟨O, 4, none⟩ (.slice ad5 ys.length cp5)).cell? ⟨O, 4, none⟩ = some (.slice ad5 ys.length cp5) by rw [K6.rules.1]; rfl)
          obtain ⟨c5, f5⟩ := K5.rules
          have P1 := Lib.hid p1
          have P2 := Lib.hid p2
          clear p1 p2 o5 o15 cO fO cw fw
          go_wp2_with fail
          go_roundw
          case rel => exact ⟨ys, ad5, cp5, true, rfl, Lib.hid (by rw [← hI.out]; exact (impI_step ho'.out).symm), Lib.hid (fun h => by cases h), Lib.hid (once_args ho'.out hA.out), by omega, N6, K6, P1, P2⟩
          case measure => rw [hm0.out, hm1.out]; simp; omega
      | false =>
        have hst := Lib.hid (impI_stop (hN.out rfl))
        clear hN
        go_wp2_with fail
        refine bodyPost_ret (v := .tuple #[valC (impC c) (.slice xa c.blocks.length xc) (.slice ad xs.length cp), .int .i64 0]) (by simp [results, Tryd.results35, go_sem, cO, fO, cw, fw, c1, f1, z1_0, z1_1, impC]) rfl ?_
        have hxs : (impC c).steps = xs := by rw [impC]; exact hI.out.symm.trans hst.out
        rw [HR.out]
        refine ⟨_, _, rfl, (by repeat (first | with_reducible exact New.refl _ | with_reducible assumption | with_reducible refine New.drew ?_ | with_reducible refine New.drewN ?_ _ | with_reducible refine New.alloc ?_ _ | with_reducible refine New.setCell ?_ (by first | (simp; done) | (simp; omega) | omega) _ | with_reducible refine New.trans ?_ (by with_reducible assumption))), ⟨?_, ?_⟩⟩
        · refine own_base (base := w1.heap.size) ?_ (by omega)
          repeat (apply ownsRow_setCell_below)
          exact o1.out
          all_goals (dsimp; omega)
        · dsimp only
          rw [hxs]
          refine own_base (base := w1.heap.size) ?_ (by omega)
          repeat (apply ownsRow_setCell_below)
          exact o2.out
          all_goals (dsimp; omega)
  · have HR := Lib.hid (impR_0 h)
    go_enter Tryd.func35, Tryd.ntmps35
    go_wp2_with fail
    refine (iIsCode_any c _ _ _ (Rd.new HB.out (by repeat (first | with_reducible exact New.refl _ | with_reducible assumption | with_reducible refine New.drew ?_ | with_reducible refine New.drewN ?_ _ | with_reducible refine New.alloc ?_ _ | with_reducible refine New.setCell ?_ (by first | (simp; done) | (simp; omega) | omega) _ | with_reducible refine New.trans ?_ (by with_reducible assumption)))) (Rd.new HS.out (by repeat (first | with_reducible exact New.refl _ | with_reducible assumption | with_reducible refine New.drew ?_ | with_reducible refine New.drewN ?_ _ | with_reducible refine New.alloc ?_ _ | with_reducible refine New.setCell ?_ (by first | (simp; done) | (simp; omega) | omega) _ | with_reducible refine New.trans ?_ (by with_reducible assumption)))) hf (HK.out.new (by repeat (first | with_reducible exact New.refl _ | with_reducible assumption | with_reducible refine New.drew ?_ | with_reducible refine New.drewN ?_ _ | with_reducible refine New.alloc ?_ _ | with_reducible refine New.setCell ?_ (by first | (simp; done) | (simp; omega) | omega) _ | with_reducible refine New.trans ?_ (by with_reducible assumption))))).mono ?_; rintro e w1 ⟨rfl, b1⟩
    obtain ⟨c1, f1⟩ := b1.rules
    have z1 := b1.size
    simp only [World.size_alloc] at z1
    have z1_0 : w.heap.size + 1 < w1.heap.size := by omega
    rw [h]
    go_wp2_with fail
    refine bodyPost_ret (v := .tuple #[valC noC (.slice none 0 0) (.slice none 0 0), .int .i64 1]) (by simp [results, Tryd.results35, go_sem, c1, f1, z1_0, noC]) rfl ?_
    rw [HR.out]
    exact ⟨_, _, rfl, (by repeat (first | with_reducible exact New.refl _ | with_reducible assumption | with_reducible refine New.drew ?_ | with_reducible refine New.drewN ?_ _ | with_reducible refine New.alloc ?_ _ | with_reducible refine New.setCell ?_ (by first | (simp; done) | (simp; omega) | omega) _ | with_reducible refine New.trans ?_ (by with_reducible assumption))), ⟨own_nil3, own_nil3⟩⟩
end Go.Proofs.YteielmihlfakgaaDoor
