/- The program's RenameIn returns what the reference's returns, for every argument. No condition but the row's own: the table of keywords holds what the program's text lays. -/
import Derived.Test.YtadoocadohdfcaaDoorRows
import Derived.Test.YtadoocadohdfcaaDoorCards
import Derived.Test.YtadoocadohdfcaaDoorTie
import Derived.Test.YtadoocadohdfcaaDoorShape
import Derived.Test.YtadoocadohdfcaaDoorMrgA
import Derived.Test.YtadoocadohdfcaaDoorKeys
import Derived.Test.YtadoocadohdfcaaDoorMrgB
import Derived.Test.YtadoocadohdfcaaDoorMarkR
import Derived.Test.YtadoocadohdfcaaDoorRenS
import Derived.Test.YtadoocadohdfcaaDoorRenJ
import Derived.Test.YtadoocadohdfcaaDoorRegion
import Derived.Test.YtadoocadohdfcaaDoorCells
namespace Go.Proofs.YtadoocadohdfcaaDoor
open Go Go.Proofs Go.RowKit Go.ChangeShapes Go.WideShapes Go.ChangeAt
set_option linter.unusedVariables false
set_option linter.unusedSimpArgs false
set_option maxRecDepth 100000
theorem blk_turnedQ {B E b : Nat} {w w' : World} {cs : Array Value} {T : TypeId} (h : Blk w b cs T) (ht : Turned B E w w') (hb : b < B ∨ E ≤ b) : Blk w' b cs T := by
  rcases hb with hb | hb
  · exact (Below.block ht.1 b hb).trans h
  · exact (ht.2 b hb h.lt).trans h
/-- No name stands in two of the lists. -/
def SepP (p : ProgD) : Prop := (∀ a ∈ p.inputs, ∀ b ∈ p.vars, a ≠ b) ∧ (∀ a ∈ p.inputs, ∀ b ∈ p.outputs, a ≠ b) ∧ (∀ a ∈ p.vars, ∀ b ∈ p.outputs, a ≠ b)
theorem swp_inj {p : ProgD} {f t a b : ByteArray} (hg : (t.toList == f.toList) = true ∨ memS (allP p) t = false) (ha : a ∈ allP p) (hb : b ∈ allP p) (hne : a ≠ b) : swp f t a ≠ swp f t b := by
  have e : ∀ x : ByteArray, (x.toList == f.toList) = true ↔ x = f := fun x => by rw [beq_iff_eq, bytes_eq]
  have hm : ∀ x, x ∈ allP p → t = f ∨ t ≠ x := fun x hx => by
    rcases hg with h | h
    · exact .inl ((e t).1 h)
    · right; intro he; subst he
      rw [← Bool.not_eq_true, memS_iff] at h; exact h hx
  unfold swp
  split <;> split
  · rename_i h1 h2; exact fun _ => hne (((e a).1 h1).trans ((e b).1 h2).symm)
  · rename_i h1 h2
    rcases hm b hb with h | h
    · intro he; exact h2 ((e b).2 (he.symm.trans h))
    · exact h
  · rename_i h1 h2
    rcases hm a ha with h | h
    · intro he; exact h1 ((e a).2 (he.trans h))
    · exact fun he => h he.symm
  · exact hne
theorem renR_sep (p : ProgD) (f t : ByteArray) : SepP (renR p f t).1 := by
  rw [renR]; split
  · rename_i h
    rw [renCode] at h
    split at h
    · rename_i hc
      split at h
      · split at h
        · rename_i hg
          have hN : (allP p).Nodup := by
            rw [← twB_nodup]
            rcases Bool.eq_false_or_eq_true (twB (allP p)) with h1 | h1
            · exfalso
              rw [codeR] at hc
              split at hc
              · split at hc
                · rename_i h3; rw [faultS_1 h1] at h3; cases h3
                · cases hc
              · cases hc
            · exact h1
          have mi : ∀ x ∈ p.inputs, x ∈ allP p := fun x hx => by simp [allP, hx]
          have mv : ∀ x ∈ p.vars, x ∈ allP p := fun x hx => by simp [allP, hx]
          have mo : ∀ x ∈ p.outputs, x ∈ allP p := fun x hx => by simp [allP, hx]
          rw [allP, List.append_assoc, List.nodup_append, List.nodup_append] at hN
          obtain ⟨_, ⟨_, _, hvo⟩, hiv⟩ := hN
          refine ⟨fun a ha b hb => ?_, fun a ha b hb => ?_, fun a ha b hb => ?_⟩
          all_goals
            obtain ⟨x, hx, rfl⟩ := List.mem_map.1 ha
            obtain ⟨y, hy, rfl⟩ := List.mem_map.1 hb
          · exact swp_inj hg.2 (mi x hx) (mv y hy) (hiv x hx y (by simp [hy]))
          · exact swp_inj hg.2 (mi x hx) (mo y hy) (hiv x hx y (by simp [hy]))
          · exact swp_inj hg.2 (mv x hx) (mo y hy) (hvo x hx y hy)
        · cases h
      · cases h
    · rename_i hc; exact absurd h hc
  · exact ⟨fun a ha => by simp [noP] at ha, fun a ha => by simp [noP] at ha, fun a ha => by simp [noP] at ha⟩
theorem rows_ne {w : World} {b1 b2 : Nat} {v u : Value} {xs ys : List ByteArray} (h1 : OwnSt w b1 v xs.length xs) (h2 : OwnSt w b2 u ys.length ys) (hs : ∀ a ∈ xs, ∀ b ∈ ys, a ≠ b) : xs ≠ [] → ys ≠ [] → ∀ i j, v.ownBlock = some i → u.ownBlock = some j → i ≠ j := by
  intro hx hy i j hi hj hij
  subst hij
  have g : ∀ {B : Nat} {r : Value} {zs : List ByteArray}, OwnSt w B r zs.length zs → r.ownBlock = some i → (hz : zs ≠ []) → w.cell? ⟨i, 0, none⟩ = some (.string (zs.head hz)) := fun {B} {r} {zs} h hr hz => by
    rcases h.2 with ⟨rfl, _⟩ | ⟨g', cap, cur, rfl, _⟩
    · cases hr
    · cases hr
      have := World.ownsRow.cellAt h 0 (by have := List.length_pos_iff.2 hz; omega)
      rw [this]
      cases zs with
      | nil => exact absurd rfl hz
      | cons a r => rfl
  have := (g h1 hi hx).symm.trans (g h2 hj hy)
  injection this with this
  injection this with this
  exact hs _ (List.head_mem hx) _ (List.head_mem hy) this
theorem ParP.rd {w : World} {B : Nat} {p : ProgD} {iv vv ov lv : Value} (h : ParP w B p iv vv ov lv) : RdP w p iv vv ov lv := by
  obtain ⟨⟨h1, h2, h3⟩, qs, hq, h4, h5, h6⟩ := h
  exact ⟨own_rd h1, own_rd h2, own_rd h3, qs, hq, own_rd h4, fun q hq => by obtain ⟨i, hi, rfl⟩ := List.mem_iff_getElem.1 hq; exact own_rd (h5 i hi)⟩
theorem ParP.new {w w' : World} {B : Nat} {p : ProgD} {iv vv ov lv : Value} (h : ParP w B p iv vv ov lv) (n : New w w') : ParP w' B p iv vv ov lv := by
  obtain ⟨h1, qs, hq, h4, h5⟩ := h
  exact ⟨h1.new n, qs, hq, own_new h4 n, h5.new n⟩
theorem ParP.slices {w : World} {B : Nat} {p : ProgD} {iv vv ov lv : Value} (h : ParP w B p iv vv ov lv) : (∃ a c, iv = .slice a p.inputs.length c) ∧ (∃ a c, vv = .slice a p.vars.length c) ∧ (∃ a c, ov = .slice a p.outputs.length c) ∧ ∃ a c, lv = .slice a p.lines.length c := by
  refine ⟨own_slice h.1.1, own_slice h.1.2.1, own_slice h.1.2.2, ?_⟩
  obtain ⟨_, qs, hq, h4, _⟩ := h
  obtain ⟨a, c, h⟩ := own_slice h4
  exact ⟨a, c, by rw [h, ← hq, List.length_map]⟩
/-- A mark on such a program. -/
theorem Turned.ownRow {B E : Nat} {w w' : World} {base : Nat} {e : TypeId} {sz : Nat} {v : Value} {n : Nat} {cs : List Value} (h : Turned B E w w') (hu : w.ownsRow base e sz v n cs) (hE : ∀ k, v.ownBlock = some k → E ≤ k) : w'.ownsRow base e sz v n cs := by
  refine ⟨hu.1, ?_⟩
  rcases hu.2 with hn | ⟨g, cap, cur, rfl, hg, hgg, rest⟩
  · exact .inl hn
  · exact .inr ⟨g, cap, cur, rfl, hg, (h.2 g (hE g rfl) (Array.getElem?_eq_some_iff.1 hgg).1).trans hgg, rest⟩
theorem ParP.turned {B E B' : Nat} {w w' : World} {p : ProgD} {iv vv ov lv : Value} (h : ParP w B' p iv vv ov lv) (t : Turned B E w w') (hE : E ≤ B') : ParP w' B' p iv vv ov lv := by
  obtain ⟨⟨h1, h2, h3⟩, qs, hq, h4, h5, h6⟩ := h
  exact ⟨⟨t.own h1 hE, t.own h2 hE, t.own h3 hE⟩, qs, hq, t.own h4 hE, fun i hi => t.own (h5 i hi) hE, h6⟩
/-- Such a program, in blocks below E. -/
def ParB (w : World) (B E : Nat) (p : ProgD) (iv vv ov lv : Value) : Prop := RowsS w B p iv vv ov ∧ (∀ k, iv.ownBlock = some k → k < E) ∧ (∀ k, vv.ownBlock = some k → k < E) ∧ (∀ k, ov.ownBlock = some k → k < E) ∧ (∀ k, lv.ownBlock = some k → k < E) ∧
  ∃ qs : List LV, qs.map Prod.fst = p.lines ∧ w.ownsRow B 55 2 lv qs.length (qs.flatMap encLV) ∧ LinesT w B qs ∧ ∀ i (h : i < qs.length) x, (qs[i]).2.ownBlock = some x → x < E
theorem ParP.b {w : World} {B : Nat} {p : ProgD} {iv vv ov lv : Value} (h : ParP w B p iv vv ov lv) : ParB w B w.heap.size p iv vv ov lv := by
  obtain ⟨⟨h1, h2, h3⟩, qs, hq, h4, h5, h6⟩ := h
  exact ⟨⟨h1, h2, h3⟩, fun k hk => (own_block_lt h1 k hk).2, fun k hk => (own_block_lt h2 k hk).2, fun k hk => (own_block_lt h3 k hk).2, fun k hk => (own_block_lt h4 k hk).2, qs, hq, h4, ⟨h5, h6⟩, fun i hi x hx => (own_block_lt (h5 i hi) x hx).2⟩
theorem ParB.p {w : World} {B E : Nat} {p : ProgD} {iv vv ov lv : Value} (h : ParB w B E p iv vv ov lv) : ParP w B p iv vv ov lv := by
  obtain ⟨h1, _, _, _, _, qs, hq, h4, h5, _⟩ := h
  exact ⟨h1, qs, hq, h4, h5⟩
theorem ParB.new {w w' : World} {B E : Nat} {p : ProgD} {iv vv ov lv : Value} (h : ParB w B E p iv vv ov lv) (n : New w w') : ParB w' B E p iv vv ov lv := by
  obtain ⟨h1, a1, a2, a3, a4, qs, hq, h4, h5, h6⟩ := h
  exact ⟨h1.new n, a1, a2, a3, a4, qs, hq, own_new h4 n, h5.new n, h6⟩
theorem ParB.turned {B E B' E' : Nat} {w w' : World} {p : ProgD} {iv vv ov lv : Value} (h : ParB w B' E' p iv vv ov lv) (t : Turned B E w w') (hE : E ≤ B') : ParB w' B' E' p iv vv ov lv := by
  obtain ⟨⟨h1, h2, h3⟩, a1, a2, a3, a4, qs, hq, h4, ⟨h5, h6⟩, h7⟩ := h
  exact ⟨⟨t.own h1 hE, t.own h2 hE, t.own h3 hE⟩, a1, a2, a3, a4, qs, hq, t.own h4 hE, ⟨fun i hi => t.own (h5 i hi) hE, h6⟩, h7⟩
theorem markPar_any (p : ProgD) (iv vv ov lv : Value) (B E : Nat) (w : World) (h : ParB w B E p iv vv ov lv) (hs : SepP p) (hB : B ≤ w.heap.size) (hE : E ≤ w.heap.size) (hf : FitP p) (hc : cntPr p ≤ 8388608) :
    Calls Tryd.prog 11 #[valP p iv vv ov lv, .int .i64 1] w fun e w' => e = .returned (.int .i64 ((1 + cntPr p : Nat) : Int)) ∧ Turned B E w w' ∧ RdP w' (mkP p) iv vv ov lv := by
  obtain ⟨⟨h1, h2, h3⟩, a1, a2, a3, a4, qs, hq, h4, ⟨h5, h6⟩, h7⟩ := h
  exact markProgram3_any p iv vv ov lv qs B E w w hq (OwnC.of h1) (OwnC.of h2) (OwnC.of h3) ⟨h4, h5⟩ ⟨fun i hi x y hx hy => own_ne_ownK h4 (h5 i hi) (by decide) x y hx hy, h6⟩ (rows_ne h1 h2 hs.1) (rows_ne h1 h3 hs.2.1) (rows_ne h2 h3 hs.2.2) hB (New.refl w) hE a1 a2 a3 a4 h7 hf hc
set_option maxHeartbeats 8000000 in
theorem lawRenameIn_any (p : ProgD) (iv vv ov lv : Value) (f t : ByteArray) (w : World) (hk : KW w) (hp : RdP w p iv vv ov lv) (ho : OkP p) :
    Calls Tryd.prog 3 #[valP p iv vv ov lv, .string f, .string t] w fun e w' => e = .returned (.bool true) ∧ New w w' := by
  have HK := Lib.hid hk; clear hk
  have HP := Lib.hid hp; clear hp
  have hbd := szP_bd p 1048576 (by omega)
  by_cases hf1 : (1048576 : Int) < (f.size : Int)
  · go_enter Tryd.func3, Tryd.ntmps3
    go_wp2_with fail
    go_ret
    exact ⟨rfl, (by repeat (first | with_reducible exact New.refl _ | with_reducible assumption | with_reducible refine New.drew ?_ | with_reducible refine New.drewN ?_ _ | with_reducible refine New.alloc ?_ _ | with_reducible refine New.setCell ?_ (by first | (simp; done) | (simp; omega) | omega) _ | with_reducible refine New.trans ?_ (by with_reducible assumption)))⟩
  by_cases ht1 : (1048576 : Int) < (t.size : Int)
  · go_enter Tryd.func3, Tryd.ntmps3
    go_wp2_with fail
    go_ret
    exact ⟨rfl, (by repeat (first | with_reducible exact New.refl _ | with_reducible assumption | with_reducible refine New.drew ?_ | with_reducible refine New.drewN ?_ _ | with_reducible refine New.alloc ?_ _ | with_reducible refine New.setCell ?_ (by first | (simp; done) | (simp; omega) | omega) _ | with_reducible refine New.trans ?_ (by with_reducible assumption)))⟩
  have hts : t.size ≤ 1048576 := by omega
  by_cases hz : szP p 1048576 < 0
  · go_enter Tryd.func3, Tryd.ntmps3
    go_wp2_with fail
    refine (szProgram_any p iv vv ov lv 1048576 _ (HP.out.new (by repeat (first | with_reducible exact New.refl _ | with_reducible assumption | with_reducible refine New.drew ?_ | with_reducible refine New.drewN ?_ _ | with_reducible refine New.alloc ?_ _ | with_reducible refine New.setCell ?_ (by first | (simp; done) | (simp; omega) | omega) _ | with_reducible refine New.trans ?_ (by with_reducible assumption)))) (by omega) (by omega) ho).mono ?_; rintro e w1 ⟨rfl, b1⟩
    try with_reducible replace b1 := New.undrawN b1
    try with_reducible replace b1 := New.undraw b1
    obtain ⟨c1, f1⟩ := b1.rules
    have z1 := b1.size
    try simp only [World.size_alloc, World.size_drew, World.heap_drewN, World.size_setCell] at z1
    have z1_0 : w.heap.size < w1.heap.size := by omega
    go_wp2_with fail
    go_ret
    exact ⟨rfl, (by repeat (first | with_reducible exact New.refl _ | with_reducible assumption | with_reducible refine New.drew ?_ | with_reducible refine New.drewN ?_ _ | with_reducible refine New.alloc ?_ _ | with_reducible refine New.setCell ?_ (by first | (simp; done) | (simp; omega) | omega) _ | with_reducible refine New.trans ?_ (by with_reducible assumption)))⟩
  have hf := szP_fit p 1048576 (by omega) (by omega) (by omega)
  have hcn := szP_cnt p (by omega)
  have HSP := Lib.hid (fun (q r s u : Value) (w0 : World) (h : RdP w0 p q r s u) => sRen_any p q r s u f t w0 h hf hts)
  have HI := Lib.hid (fun (q r s u : Value) (w0 : World) (h : RdP w0 p q r s u) (k : KW w0) => iRen_any p q r s u f t w0 h hf hts k)
  have hDf := renR_fit (f := f) (t := t) (show fitS t from hts) hf
  have hDc := renR_cnt (f := f) (t := t) hcn
  have hDs := renR_sep p f t
  generalize renR p f t = R at HSP HI hDf hDc hDs
  obtain ⟨D, C⟩ := R
  unfold RetRP at HSP
  unfold RetRQ at HI
  dsimp only at HSP HI hDf hDc hDs
  have hCC : (C != C) = false := by simp
  have hqq : (((1 + cntPr D : Nat) : Int) != ((1 + cntPr D : Nat) : Int)) = false := by simp
  replace hDf := Lib.hid hDf
  replace hDs := Lib.hid hDs
  go_enter Tryd.func3, Tryd.ntmps3
  go_wp2_with fail
  refine (szProgram_any p iv vv ov lv 1048576 _ (HP.out.new (by repeat (first | with_reducible exact New.refl _ | with_reducible assumption | with_reducible refine New.drew ?_ | with_reducible refine New.drewN ?_ _ | with_reducible refine New.alloc ?_ _ | with_reducible refine New.setCell ?_ (by first | (simp; done) | (simp; omega) | omega) _ | with_reducible refine New.trans ?_ (by with_reducible assumption)))) (by omega) (by omega) ho).mono ?_; rintro e w1 ⟨rfl, b1⟩
  try with_reducible replace b1 := New.undrawN b1
  try with_reducible replace b1 := New.undraw b1
  obtain ⟨c1, f1⟩ := b1.rules
  have z1 := b1.size
  try simp only [World.size_alloc, World.size_drew, World.heap_drewN, World.size_setCell] at z1
  have z1_0 : w.heap.size < w1.heap.size := by omega
  go_wp2_with fail
  refine (toProgram_any p iv vv ov lv _ (HP.out.new (by repeat (first | with_reducible exact New.refl _ | with_reducible assumption | with_reducible refine New.drew ?_ | with_reducible refine New.drewN ?_ _ | with_reducible refine New.alloc ?_ _ | with_reducible refine New.setCell ?_ (by first | (simp; done) | (simp; omega) | omega) _ | with_reducible refine New.trans ?_ (by with_reducible assumption)))) hf).mono ?_; rintro e w2 ⟨i2, v2, o2, l2, rfl, b2, q2⟩
  obtain ⟨c2, f2⟩ := b2.rules
  have z2 := b2.size
  try simp only [World.size_alloc, World.size_drew, World.heap_drewN, World.size_setCell] at z2
  have z2_0 : w.heap.size < w2.heap.size := by omega
  go_wp2_with fail
  refine (HSP.out i2 v2 o2 l2 _ q2).mono ?_; rintro e w3 ⟨i3, v3, o3, l3, rfl, b3, q3⟩
  obtain ⟨a31, k31, rfl, _⟩ := id q3.ins; obtain ⟨a32, k32, rfl, _⟩ := id q3.vars; obtain ⟨a33, k33, rfl, _⟩ := id q3.outs; obtain ⟨a34, k34, rfl⟩ := id q3.lines.slice; replace q3 := Lib.hid q3
  obtain ⟨c3, f3⟩ := b3.rules
  have z3 := b3.size
  try simp only [World.size_alloc, World.size_drew, World.heap_drewN, World.size_setCell] at z3
  have z3_0 : w.heap.size < w3.heap.size := by omega
  go_wp2_with fail
  refine (toProgramO_any p iv vv ov lv _ (HP.out.new (by repeat (first | with_reducible exact New.refl _ | with_reducible assumption | with_reducible refine New.drew ?_ | with_reducible refine New.drewN ?_ _ | with_reducible refine New.alloc ?_ _ | with_reducible refine New.setCell ?_ (by first | (simp; done) | (simp; omega) | omega) _ | with_reducible refine New.trans ?_ (by with_reducible assumption)))) hf).mono ?_; rintro e w4 ⟨i4, v4, o4, l4, B1, B2, B3, rfl, b4, q4⟩
  obtain ⟨p1, n1, rfl, _⟩ := id q4.rd.ins; obtain ⟨p2, n2, rfl, _⟩ := id q4.rd.vars; obtain ⟨p3, n3, rfl, _⟩ := id q4.rd.outs; obtain ⟨p4, n4, rfl⟩ := id q4.rd.lines.slice
  obtain ⟨c4, f4⟩ := b4.rules
  have z4 := b4.size
  try simp only [World.size_alloc, World.size_drew, World.heap_drewN, World.size_setCell] at z4
  have z4_0 : w.heap.size < w4.heap.size := by omega
  have z4_1 : w3.heap.size < w4.heap.size := by omega
  go_wp2_with fail
  simp only [World.size_alloc, World.size_setCell] at q4
  refine (HI.out _ _ _ _ _ (q4.rd.new (by repeat (first | with_reducible exact New.refl _ | with_reducible assumption | with_reducible refine New.drew ?_ | with_reducible refine New.drewN ?_ _ | with_reducible refine New.alloc ?_ _ | with_reducible refine New.setCell ?_ (by first | (simp; done) | (simp; omega) | omega) _ | with_reducible refine New.trans ?_ (by with_reducible assumption)))) (HK.out.new (by repeat (first | with_reducible exact New.refl _ | with_reducible assumption | with_reducible refine New.drew ?_ | with_reducible refine New.drewN ?_ _ | with_reducible refine New.alloc ?_ _ | with_reducible refine New.setCell ?_ (by first | (simp; done) | (simp; omega) | omega) _ | with_reducible refine New.trans ?_ (by with_reducible assumption))))).mono ?_; rintro e w5 ⟨i5, v5, o5, l5, rfl, b5, q5⟩
  obtain ⟨⟨a51, k51, rfl⟩, ⟨a52, k52, rfl⟩, ⟨a53, k53, rfl⟩, ⟨a54, k54, rfl⟩⟩ := id q5.slices; simp only [World.size_alloc] at q5; replace q5 := Lib.hid q5
  obtain ⟨c5, f5⟩ := b5.rules
  have z5 := b5.size
  try simp only [World.size_alloc, World.size_drew, World.heap_drewN, World.size_setCell] at z5
  have z5_0 : w.heap.size < w5.heap.size := by omega
  have z5_1 : w3.heap.size < w5.heap.size := by omega
  have z5_2 : w4.heap.size < w5.heap.size := by omega
  go_wp2_with fail
  refine (eqProgram_any D _ _ _ _ _ _ _ _ _ (RdP.new q5.out.rd (by repeat (first | with_reducible exact New.refl _ | with_reducible assumption | with_reducible refine New.drew ?_ | with_reducible refine New.drewN ?_ _ | with_reducible refine New.alloc ?_ _ | with_reducible refine New.setCell ?_ (by first | (simp; done) | (simp; omega) | omega) _ | with_reducible refine New.trans ?_ (by with_reducible assumption)))) (RdP.new q3.out (by repeat (first | with_reducible exact New.refl _ | with_reducible assumption | with_reducible refine New.drew ?_ | with_reducible refine New.drewN ?_ _ | with_reducible refine New.alloc ?_ _ | with_reducible refine New.setCell ?_ (by first | (simp; done) | (simp; omega) | omega) _ | with_reducible refine New.trans ?_ (by with_reducible assumption))))).mono ?_; rintro e w6 ⟨rfl, b6⟩
  try with_reducible replace b6 := New.undrawN b6
  try with_reducible replace b6 := New.undraw b6
  obtain ⟨c6, f6⟩ := b6.rules
  have z6 := b6.size
  try simp only [World.size_alloc, World.size_drew, World.heap_drewN, World.size_setCell] at z6
  have z6_0 : w.heap.size < w6.heap.size := by omega
  have z6_1 : w3.heap.size < w6.heap.size := by omega
  have z6_2 : w4.heap.size < w6.heap.size := by omega
  have z6_3 : w5.heap.size < w6.heap.size := by omega
  go_wp2_with fail
  have KX : Blk w6 w.heap.size #[.string p.name, iv, vv, ov, .string p.guard, lv] 25 := (by repeat (first | with_reducible assumption | with_reducible exact Blk.alloc_at (by first | rfl | (simp; done) | (simp; omega)) | with_reducible apply Blk.alloc | with_reducible apply Blk.drew | with_reducible apply Blk.drewN | with_reducible apply Blk.set | ((with_reducible apply Blk.set_ne); rotate_left; (focus omega)) | ((with_reducible apply Blk.dr); rotate_left; (focus (with_reducible assumption)); (focus omega)) | ((with_reducible apply Blk.new); rotate_left; (focus (with_reducible assumption)))))
  have K3 : Blk w6 w3.heap.size #[.string D.name, .slice a31 D.inputs.length k31, .slice a32 D.vars.length k32, .slice a33 D.outputs.length k33, .string D.guard, .slice a34 D.lines.length k34] 29 := (by repeat (first | with_reducible assumption | with_reducible exact Blk.alloc_at (by first | rfl | (simp; done) | (simp; omega)) | with_reducible apply Blk.alloc | with_reducible apply Blk.drew | with_reducible apply Blk.drewN | with_reducible apply Blk.set | ((with_reducible apply Blk.set_ne); rotate_left; (focus omega)) | ((with_reducible apply Blk.dr); rotate_left; (focus (with_reducible assumption)); (focus omega)) | ((with_reducible apply Blk.new); rotate_left; (focus (with_reducible assumption)))))
  have K4 : Blk w6 w4.heap.size #[.string p.name, .slice p1 p.inputs.length n1, .slice p2 p.vars.length n2, .slice p3 p.outputs.length n3, .string p.guard, .slice p4 p.lines.length n4] 29 := (by repeat (first | with_reducible assumption | with_reducible exact Blk.alloc_at (by first | rfl | (simp; done) | (simp; omega)) | with_reducible apply Blk.alloc | with_reducible apply Blk.drew | with_reducible apply Blk.drewN | with_reducible apply Blk.set | ((with_reducible apply Blk.set_ne); rotate_left; (focus omega)) | ((with_reducible apply Blk.dr); rotate_left; (focus (with_reducible assumption)); (focus omega)) | ((with_reducible apply Blk.new); rotate_left; (focus (with_reducible assumption)))))
  have K5 : Blk w6 w5.heap.size #[.string D.name, .slice a51 D.inputs.length k51, .slice a52 D.vars.length k52, .slice a53 D.outputs.length k53, .string D.guard, .slice a54 D.lines.length k54] 29 := (by repeat (first | with_reducible assumption | with_reducible exact Blk.alloc_at (by first | rfl | (simp; done) | (simp; omega)) | with_reducible apply Blk.alloc | with_reducible apply Blk.drew | with_reducible apply Blk.drewN | with_reducible apply Blk.set | ((with_reducible apply Blk.set_ne); rotate_left; (focus omega)) | ((with_reducible apply Blk.dr); rotate_left; (focus (with_reducible assumption)); (focus omega)) | ((with_reducible apply Blk.new); rotate_left; (focus (with_reducible assumption)))))
  have N03 : New w w3 := by exact (by repeat (first | with_reducible exact New.refl _ | with_reducible assumption | with_reducible refine New.drew ?_ | with_reducible refine New.drewN ?_ _ | with_reducible refine New.alloc ?_ _ | with_reducible refine New.setCell ?_ (by first | (simp; done) | (simp; omega) | omega) _ | with_reducible refine New.trans ?_ (by with_reducible assumption)))
  have N56 : New w5 w6 := ((New.refl w5).alloc _).trans b6
  have N4 := b5.trans N56
  have N46 : New w4 w6 := ((New.refl w4).alloc _).trans N4
  have N3 := b4.trans N46
  have N36 : New w3 w6 := ((New.refl w3).alloc _).trans N3
  have N06 := N03.trans N36
  clear c1 c2 c3 c4 c5 c6 f1 f2 f3 f4 f5 f6
  obtain ⟨cX, fX⟩ := KX.rules
  obtain ⟨d4, g4⟩ := K4.rules
  have HQ4 := Lib.hid q4.rd
  refine wp_facts [fun X _ => X = valP p (.slice p1 p.inputs.length n1) (.slice p2 p.vars.length n2) (.slice p3 p.outputs.length n3) (.slice p4 p.lines.length n4), fun X _ => X = valP p iv vv ov lv, fun X W' => ∃ q r s t, X = valP p q r s t ∧ RdP W' p q r s t, fun X _ => X = .bool true, fun X _ => X = .bool false] (by kernel_rfl) (by kernel_rfl) ⟨stable_eq _, stable_eq _, fun X w0 w1 hn ⟨q1, q2, q3', q4', t57, r1⟩ => ⟨q1, q2, q3', q4', t57, r1.new hn⟩, stable_eq _, stable_eq _, trivial⟩ ?_ ?_
  · refine ⟨?_, ?_, ?_, ?_, ?_, trivial⟩
    · intro a w9 hw ho hk
      have t2 := ho 10 rfl
      dsimp at t2
      try with_reducible replace hw := New.undrawN hw
      try with_reducible replace hw := New.undraw hw
      obtain ⟨c, f'⟩ := hw.rules
      go_simp
      exact New.refl _
    · intro a w9 hw ho hk
      have t2 := ho 3 rfl
      dsimp at t2
      try with_reducible replace hw := New.undrawN hw
      try with_reducible replace hw := New.undraw hw
      obtain ⟨c, f'⟩ := hw.rules
      go_simp
      exact New.refl _
    · intro a w9 hw ho hk
      have t56 : a.tmps[56]?.getD undef = valP p iv vv ov lv := hk 1 56 (by kernel_rfl) rfl
      go_simp
      refine (toProgram_any p iv vv ov lv _ (HP.out.new (N06.trans hw)) hf).mono ?_; rintro e w2 ⟨q, r, s, t, rfl, hb, o1⟩
      exact ⟨hb, _, rfl, _, _, _, _, rfl, o1⟩
    · intro a w9 hw ho hk
      have t55 : a.tmps[55]?.getD undef = valP p (.slice p1 p.inputs.length n1) (.slice p2 p.vars.length n2) (.slice p3 p.outputs.length n3) (.slice p4 p.lines.length n4) := hk 0 55 (by kernel_rfl) rfl
      obtain ⟨q1, q2, q3', q4', t57, r1⟩ : ∃ q r s t, (a.tmps[57]?.getD undef) = valP p q r s t ∧ RdP w9 p q r s t := hk 2 57 (by kernel_rfl) rfl
      go_simp
      refine (eqProgram_any p _ _ _ _ _ _ _ _ _ (RdP.new HQ4.out (N46.trans hw)) r1).mono ?_; rintro e w2 ⟨rfl, hb⟩
      first | exact ⟨hb, _, rfl, by simp⟩ | exact ⟨hb, by simp⟩
    · intro a w9 hw ho hk
      have t58 : a.tmps[58]?.getD undef = .bool true := hk 3 58 (by kernel_rfl) rfl
      go_simp
      exact New.refl _
  intro w7 b7 x0 h0 x1 h1 x2 h2 x3 h3 x4 h4
  subst h0 h1 h3 h4
  clear cX fX d4 g4
  try with_reducible replace b7 := New.undrawN b7
  try with_reducible replace b7 := New.undraw b7
  obtain ⟨c7, f7⟩ := b7.rules
  have z7 := b7.size
  try simp only [World.size_alloc, World.size_drew, World.heap_drewN, World.size_setCell] at z7
  have z7_0 : w.heap.size < w7.heap.size := by omega
  have z7_1 : w3.heap.size < w7.heap.size := by omega
  have z7_2 : w4.heap.size < w7.heap.size := by omega
  have z7_3 : w5.heap.size < w7.heap.size := by omega
  clear c7 f7
  replace KX := KX.new b7
  replace K3 := K3.new b7
  replace K4 := K4.new b7
  replace K5 := K5.new b7
  have N07 := N06.trans b7
  have N37 := N3.trans b7
  obtain ⟨c4, f4⟩ := K4.rules
  simp only [EndAll, List.nil_append, List.cons_append, List.length_cons, List.length_nil, Nat.zero_add, Nat.reduceAdd, List.take_succ_cons, List.take_zero, List.drop_succ_cons, List.drop_zero, putAll, Act.put, List.setIfInBounds_toArray, List.set_cons_succ, List.set_cons_zero]
  go_wp2_with fail
  have o57 := Lib.hid (q5.out.b.new (N56.trans b7))
  refine (markProgram_any p _ _ _ _ (w3.heap.size + 1) B1 B2 B3 w4 _ q4 (N46.trans b7) hf hcn).mono ?_
  rintro e w8 ⟨rfl, t8⟩
  have N38 := t8.new N37 (by simp)
  have N38' : New w3 w8 := ((New.refl w3).alloc _).trans N38
  have N08 := t8.new N07 (by omega)
  have z8 := Below.size t8.1
  replace KX := blk_turnedQ KX t8 (.inl (by omega))
  replace K3 := blk_turnedQ K3 t8 (.inl (by omega))
  replace K5 := blk_turnedQ K5 t8 (.inr (by omega))
  have o58 := Lib.hid (o57.out.turned t8 (by omega))
  clear c4 f4 K4 t8 N37 N07 o57 b7 N3 N4
  obtain ⟨cX, fX⟩ := KX.rules
  obtain ⟨d3, g3⟩ := K3.rules
  obtain ⟨d5, g5⟩ := K5.rules
  have y8_0 : w.heap.size < w8.heap.size := by omega
  have y8_1 : w3.heap.size < w8.heap.size := by omega
  have y8_2 : w5.heap.size < w8.heap.size := by omega
  go_wp2_with fail
  refine (eqProgram_any D _ _ _ _ _ _ _ _ _ o58.out.p.rd (RdP.new q3.out N38')).mono ?_; rintro e w9 ⟨rfl, b9⟩
  try with_reducible replace b9 := New.undrawN b9
  try with_reducible replace b9 := New.undraw b9
  obtain ⟨c9, f9⟩ := b9.rules
  have z9 := b9.size
  try simp only [World.size_alloc, World.size_drew, World.heap_drewN, World.size_setCell] at z9
  have z9_0 : w.heap.size < w9.heap.size := by omega
  have z9_1 : w3.heap.size < w9.heap.size := by omega
  have z9_2 : w5.heap.size < w9.heap.size := by omega
  go_wp2_with fail
  have N39 := N38'.trans b9
  have hw5 : w4.heap.size + 1 ≤ w5.heap.size := by omega
  refine (markPar_any D _ _ _ _ (w4.heap.size + 1) w5.heap.size _ (o58.out.new b9) hDs.out (by omega) (by omega) hDf.out hDc).mono ?_
  rintro e w10 ⟨rfl, t10, m10⟩
  have z10 := Below.size t10.1
  replace KX := blk_turnedQ (KX.new b9) t10 (.inl (by omega))
  replace K3 := blk_turnedQ (K3.new b9) t10 (.inl (by omega))
  replace K5 := blk_turnedQ (K5.new b9) t10 (.inr (by omega))
  have N010 := t10.new (N08.trans b9) (by omega)
  have N310 := t10.new N39 (by omega)
  clear cX fX d3 g3 d5 g5 c9 f9 t10 o58
  obtain ⟨cX, fX⟩ := KX.rules
  obtain ⟨d3, g3⟩ := K3.rules
  obtain ⟨d5, g5⟩ := K5.rules
  have y10_0 : w.heap.size < w10.heap.size := by omega
  have y10_1 : w3.heap.size < w10.heap.size := by omega
  have y10_2 : w5.heap.size < w10.heap.size := by omega
  have M10 := Lib.hid m10
  clear m10
  go_wp2_with fail
  refine (heldProgram_any D _ _ _ _ _ M10.out hDf.out hDc).mono ?_; rintro e w11 ⟨rfl, b11⟩
  try with_reducible replace b11 := New.undrawN b11
  try with_reducible replace b11 := New.undraw b11
  obtain ⟨c11, f11⟩ := b11.rules
  have z11 := b11.size
  try simp only [World.size_alloc, World.size_drew, World.heap_drewN, World.size_setCell] at z11
  have z11_0 : w.heap.size < w11.heap.size := by omega
  have z11_1 : w3.heap.size < w11.heap.size := by omega
  have z11_2 : w5.heap.size < w11.heap.size := by omega
  go_wp2_with fail
  have N011 := N010.trans b11
  have N311 := N310.trans b11
  refine (toProgram_any p iv vv ov lv _ (HP.out.new N011) hf).mono ?_; rintro e w12 ⟨i12, v12, o12, l12, rfl, b12, q12⟩
  obtain ⟨c12, f12⟩ := b12.rules
  have z12 := b12.size
  try simp only [World.size_alloc, World.size_drew, World.heap_drewN, World.size_setCell] at z12
  have z12_0 : w.heap.size < w12.heap.size := by omega
  have z12_1 : w3.heap.size < w12.heap.size := by omega
  have z12_2 : w5.heap.size < w12.heap.size := by omega
  go_wp2_with fail
  refine (HI.out _ _ _ _ _ q12 (HK.out.new (N011.trans b12))).mono ?_; rintro e w13 ⟨i13, v13, o13, l13, rfl, b13, q13⟩
  obtain ⟨⟨a61, k61, rfl⟩, ⟨a62, k62, rfl⟩, ⟨a63, k63, rfl⟩, ⟨a64, k64, rfl⟩⟩ := id q13.slices; replace q13 := Lib.hid q13
  obtain ⟨c13, f13⟩ := b13.rules
  have z13 := b13.size
  try simp only [World.size_alloc, World.size_drew, World.heap_drewN, World.size_setCell] at z13
  have z13_0 : w.heap.size < w13.heap.size := by omega
  have z13_1 : w3.heap.size < w13.heap.size := by omega
  have z13_2 : w5.heap.size < w13.heap.size := by omega
  go_wp2_with fail
  have N313 := N311.trans (b12.trans b13)
  refine (eqProgram_any D _ _ _ _ _ _ _ _ _ (RdP.new q13.out.rd (by repeat (first | with_reducible exact New.refl _ | with_reducible assumption | with_reducible refine New.drew ?_ | with_reducible refine New.drewN ?_ _ | with_reducible refine New.alloc ?_ _ | with_reducible refine New.setCell ?_ (by first | (simp; done) | (simp; omega) | omega) _ | with_reducible refine New.trans ?_ (by with_reducible assumption)))) (RdP.new q3.out (N313.alloc _))).mono ?_; rintro e w14 ⟨rfl, b14⟩
  try with_reducible replace b14 := New.undrawN b14
  try with_reducible replace b14 := New.undraw b14
  obtain ⟨c14, f14⟩ := b14.rules
  have z14 := b14.size
  try simp only [World.size_alloc, World.size_drew, World.heap_drewN, World.size_setCell] at z14
  have z14_0 : w.heap.size < w14.heap.size := by omega
  have z14_1 : w3.heap.size < w14.heap.size := by omega
  have z14_2 : w5.heap.size < w14.heap.size := by omega
  go_wp2_with fail
  have N1014 : New w10 w14 := b11.trans (b12.trans (b13.trans (((New.refl w13).alloc _).trans b14)))
  refine (heldProgram_any D _ _ _ _ _ (RdP.new M10.out N1014) hDf.out hDc).mono ?_; rintro e w15 ⟨rfl, b15⟩
  try with_reducible replace b15 := New.undrawN b15
  try with_reducible replace b15 := New.undraw b15
  obtain ⟨c15, f15⟩ := b15.rules
  have z15 := b15.size
  try simp only [World.size_alloc, World.size_drew, World.heap_drewN, World.size_setCell] at z15
  have z15_0 : w.heap.size < w15.heap.size := by omega
  have z15_1 : w3.heap.size < w15.heap.size := by omega
  have z15_2 : w5.heap.size < w15.heap.size := by omega
  go_wp2_with fail
  go_ret
  exact ⟨rfl, (N010.trans N1014).trans b15⟩
namespace fnExactRenameIn
theorem own : ownKnob Tryd.prog.godebug = none := by kernel_rfl
theorem reads : (Tryd.f3.params.toList.all fun t => Tryd.prog.readableRec t && decide (t < Tryd.prog.types.size)) = true := by kernel_rfl
set_option maxRecDepth 100000 in
noncomputable def laidWorld (os : Os) : World :=
  { World.holding Tryd.prog os ⟨#[], #[], []⟩ with heap := (World.holding Tryd.prog os ⟨#[], #[], []⟩).heap.modify 0 fun
      | .cells _ t frozen => .cells (keyData.map fun z => Value.string (kw z)).toArray t frozen
      | o => o }
theorem laid_met (os : Os) : laidMet Tryd.prog Rows.fnExactRenameInRow.laid ((laidWorld os).forCall (fun _ _ => 0) ⟨#[], #[.agg #[.string ⟨#[]⟩, .slice none 0 0, .slice none 0 0, .slice none 0 0, .string ⟨#[]⟩, .slice none 0 0], .string ⟨#[]⟩, .string ⟨#[]⟩], []⟩).memory :=
  laidMet_of_run' 8 (by kernel_rfl) (by kernel_rfl)
theorem reading (os : Os) {H : Type} (enc : TypeId × Value → H) : ∃ x, DataW.whole enc Tryd.prog ((laidWorld os).forCall (fun _ _ => 0) ⟨#[], #[.agg #[.string ⟨#[]⟩, .slice none 0 0, .slice none 0 0, .slice none 0 0, .string ⟨#[]⟩, .slice none 0 0], .string ⟨#[]⟩, .string ⟨#[]⟩], []⟩).memory Tryd.f3.params.toList Rows.fnExactRenameInSpec.vars false (#[.agg #[.string ⟨#[]⟩, .slice none 0 0, .slice none 0 0, .slice none 0 0, .string ⟨#[]⟩, .slice none 0 0], .string ⟨#[]⟩, .string ⟨#[]⟩] : Array Value).toList 8 = some x :=
  Option.isSome_iff_exists.1 (by kernel_rfl)
theorem lifted (os : Os) (started : os.Started) (H : Type) (enc : TypeId × Value → H) (F : Stop.Interp) :
    ReturnsInHanded {} Tryd.checked os 3 .any ((OpenSpec.ofChange Rows.fnExactRenameInSpec).preRow enc Tryd.prog Tryd.f3 Rows.fnExactRenameInRow.domain false Rows.fnExactRenameInRow.laid) (((OpenSpec.ofChange Rows.fnExactRenameInSpec).at F).post enc Tryd.prog Tryd.f3 false true false false) := by
  obtain ⟨x, hx⟩ := reading os enc
  refine returnsInHanded_of_row (C := Tryd.checked) (s := OpenSpec.ofChange Rows.fnExactRenameInSpec) own started (by kernel_rfl) Tryd.func3
    (witness_row_at (enc := enc) (C := Tryd.checked) false (laidWorld os) #[.agg #[.string ⟨#[]⟩, .slice none 0 0, .slice none 0 0, .slice none 0 0, .string ⟨#[]⟩, .slice none 0 0], .string ⟨#[]⟩, .string ⟨#[]⟩] rfl (by kernel_rfl) (by kernel_rfl) (by kernel_rfl)
      (OpenSpec.preRow_of_cond 8 hx (by first | rfl | kernel_rfl) (fun k hk => by cases hk) (by kernel_rfl) (laid_met os))) ?_
  intro W base args ds gs before hval0 hW _ _ _ hL _ _
  have hkw : KW W := keys_of_laid hL
  have hval : ∀ (j : Nat) t v, Tryd.f3.params[j]? = some t → args[j]? = some v → Value.okWide Tryd.prog W .any base t v := hval0
  have hW' := hW
  obtain ⟨p, q, hA0, hV, rfl, hfz, hnd⟩ := hW
  have hA : DataW.TrodAll enc Tryd.prog W 0 (fun _ => true) true Tryd.f3.params.toList args.toList ds p := hA0
  rw [Tryd.params3] at hA hval
  obtain ⟨v0, vs0, d0, ds0, p0, q0, hargs, rfl, rfl, h0, r0⟩ := trodAll_cons hA
  obtain ⟨v1, vs1, d1, ds1, p1, q1, rfl, rfl, rfl, h1, r1⟩ := trodAll_cons r0
  obtain ⟨v2, vs2, d2, ds2, p2, q2, rfl, rfl, rfl, h2, r2⟩ := trodAll_cons r1
  obtain ⟨rfl, rfl, rfl⟩ := trodAll_nil r2
  obtain rfl : args = #[v0, v1, v2] := by cases args; simp_all
  have o0 := hval 0 25 v0 rfl rfl
  have o1 := hval 1 9 v1 rfl rfl
  have o2 := hval 2 9 v2 rfl rfl
  clear hA0 hval hval0
  obtain ⟨_, _, _, _, gd, _, rfl, _, _, _, _, rfl⟩ := trodVars_one hV
  have walk : Calls Tryd.prog 3 #[v0, v1, v2] W fun e w' => e = .returned (.bool true) ∧ New W w' := by
    obtain ⟨p, iv, vv, ov, lv, rfl, hp, ho⟩ := openProgram h0 o0
    obtain ⟨f, rfl, _⟩ := openStr h1 o1
    obtain ⟨t, rfl, _⟩ := openStr h2 o2
    exact lawRenameIn_any p iv vv ov lv f t W hkw hp ho
  refine walk.mono fun e W' ⟨he, hg⟩ => ?_
  subst he
  exact ⟨_, rfl, law_post laidOut (fun t ht => reads_of reads t ht) (fun n hn g t hg ht => by
    obtain rfl : n = "loop.example/g00916/impl.keywords" := List.mem_singleton.1 hn
    obtain rfl : 0 = g := Option.some.inj ((show Tryd.prog.globalNamed "loop.example/g00916/impl.keywords" = some 0 by kernel_rfl).symm.trans hg)
    obtain rfl : 121 = t := Option.some.inj ((show (Tryd.prog.globals[0]?).map (·.type) = some 121 by kernel_rfl).symm.trans ht)
    exact ⟨by kernel_rfl, of_decide_eq_true (by kernel_rfl)⟩) rfl Tryd.underlying4 hW' rfl hg⟩
theorem said : Rows.FnExactRenameInSaid :=
  OpenClaim.holds_of_cond 3 Tryd.f3 rfl rfl rfl rfl rfl rfl rfl ⟨rfl, rfl, rfl, rfl, rfl⟩ rfl rfl rfl rfl rfl (by kernel_rfl) Tryd.func3 (by kernel_rfl)
    (of_decide_eq_true (by kernel_rfl)) (by unfold Func.isWrapper; first | (rw [if_pos (by decide +kernel)]; kernel_rfl) | (rw [if_neg (by decide +kernel)]; exact ⟨rfl, rfl⟩))
    (fun os started H enc _ F => by rw [OpenClaim.pre_eq_preRow]; exact lifted os started H enc F)
theorem plain (f : FuncId) (fn : Func) (hf : Tryd.pinned.checked.prog.funcNamed "loop.example/g00916/laws.FnExactRenameIn" = some f) (hfn : Tryd.pinned.checked.prog.funcs[f]? = some fn) :
    false = Tryd.pinned.checked.prog.looks [] ∧ ∀ (j : Nat) t, fn.params[j]? = some t → Tryd.pinned.checked.prog.wantsStandIn t = false := by
  obtain rfl : f = 3 := Option.some.inj ((show Tryd.prog.funcNamed "loop.example/g00916/laws.FnExactRenameIn" = some 3 by kernel_rfl).symm.trans hf) |>.symm
  obtain rfl : fn = Tryd.f3 := (Option.some.inj (Tryd.func3.symm.trans hfn)).symm
  refine ⟨by kernel_rfl, fun j t ht => ?_⟩
  rw [Tryd.params3] at ht
  have hm : t ∈ ([25, 9, 9] : List TypeId) := by simpa using Array.mem_of_getElem? ht
  have all : (([25, 9, 9] : List TypeId).all fun t => !Tryd.prog.wantsStandIn t) = true := by kernel_rfl
  have := List.all_eq_true.1 all t hm
  show Tryd.prog.wantsStandIn t = false
  exact (Bool.not_eq_true _).mp (fun h => by rw [h] at this; cases this)
theorem card : Rows.FnExactRenameInCardSaid :=
  Claim7.holds_tied_plain_at .later [] _ _ _ _ said (fun _ h => by cases h) (by kernel_rfl) (fun _ h => by cases h) fnExactRenameIn_row_tie rfl ⟨rfl, rfl⟩ (by kernel_rfl) rfl plain (by kernel_rfl)
#print axioms card
end fnExactRenameIn
end Go.Proofs.YtadoocadohdfcaaDoor
