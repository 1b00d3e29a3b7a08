/- Contracts: traffics drawn from a code. -/
import Derived.WalkSpells
import Derived.Test.YtommolbkcjpjhaaDoorProg
import Derived.Test.YtommolbkcjpjhaaDoorDraw1
import Derived.Test.YtommolbkcjpjhaaDoorInts
namespace Go.Proofs.YtommolbkcjpjhaaDoor
open Go Go.Proofs Go.RowKit
set_option linter.unusedVariables false
set_option linter.unusedSimpArgs false
set_option maxRecDepth 100000
/-- A slice of numbers that lies in blocks from M on. -/
def RdF (M : Nat) (w : World) (v : Value) (xs : List Int) : Prop := RdI w v xs ∧ ∀ b o n c, v = .slice (some ⟨b, o, none⟩) n c → M ≤ b
theorem RdF.kept {M : Nat} {w w' : World} {v : Value} {xs : List Int} (h : RdF M w v xs) (hz : w.heap.size ≤ w'.heap.size) (hb : ∀ k, M ≤ k → k < w.heap.size → w'.heap[k]? = w.heap[k]?) : RdF M w' v xs := by
  obtain ⟨⟨a, cap, rfl, hn, h0, hc⟩, hS⟩ := h
  refine ⟨⟨a, cap, rfl, hn, h0, fun j u hu => ?_⟩, hS⟩
  obtain ⟨b', o, ha, hlt, hcell⟩ := hc j u hu
  subst ha
  exact ⟨b', o, rfl, Nat.lt_of_lt_of_le hlt hz, (World.cell?_of_block (hb _ (hS _ _ _ _ rfl) hlt)).trans hcell⟩
theorem RdF.dr {S M : Nat} {w w' : World} {v : Value} {xs : List Int} (h : RdF M w v xs) (hb : Dr S w w') (hS : S < M) : RdF M w' v xs := h.kept hb.size (fun k h1 h2 => hb.o.other k h2 (by omega))
theorem RdF.new {M : Nat} {w w' : World} {v : Value} {xs : List Int} (h : RdF M w v xs) (hb : New w w') : RdF M w' v xs := h.kept hb.size (fun k h1 h2 => hb.block k h2)
theorem RdF.set {M : Nat} {w : World} {v : Value} {xs : List Int} (h : RdF M w v xs) {p : Addr} (hp : p.block < M) (u : Value) : RdF M (w.setCell p u) v xs := h.kept (by simp [World.setCell]) (fun k h1 h2 => Below.heap_setCell _ _ _ _ (by omega))
theorem RdF.mono {M M' : Nat} {w : World} {v : Value} {xs : List Int} (h : RdF M w v xs) (hM : M' ≤ M) : RdF M' w v xs := ⟨h.1, fun b o n c e => Nat.le_trans hM (h.2 b o n c e)⟩
theorem own_rdF {base : Nat} {w : World} {e : TypeId} {v : Value} {xs : List Int} (h : w.ownsRow base e 1 v xs.length (xs.map (Value.int .i64))) : RdF base w v xs :=
  ⟨own_rd h, fun b o n c e => by
    subst e
    exact (own_block_lt h b (by rcases h.2 with ⟨h1, _⟩ | ⟨g, cap, cur, h1, _⟩ <;> cases h1; rfl)).1⟩
def DrawTr (S : Nat) (w : World) (e : Ending) (w' : World) : Prop := ∃ (n : Int) (v : Value) (xs : List Int), e = .returned (.agg #[.int .i64 n, v]) ∧ RdF w.heap.size w' v xs ∧ Dr S w w'
theorem infoI10 : (Tryd.prog.info? 2).map (fun i => (i.zero, i.size, i.bytes)) = some (some (.int .i64 0), 1, 8) := by kernel_rfl
theorem ret_tr {fn : Func} {S : Nat} {w0 w : World} {a : Act} {n : Int} {v : Value} {xs : List Int} (hd : a.defers = []) (hR : Dr S w0 w) (hx : RdF w0.heap.size w v xs) (hr : (results fn a.tmps).run Tryd.prog w = .ok (.agg #[.int .i64 n, v]) w) : bodyPost Tryd.prog fn (DrawTr S w0) .ret a w := ⟨hd, _, hr, n, v, xs, rfl, hx, hR⟩
set_option maxHeartbeats 4000000 in
theorem l10Draw_any {B : Nat} (S : Nat) (w : World) (hs : Src B S w) : Calls Tryd.prog 16 #[.pointer (some ⟨S, 0, none⟩)] w (DrawTr S w) := by
  obtain ⟨i0, hi, hz0, hz1, hz2⟩ := info_parts infoI10
  have hS := hs.lt
  have HS := Lib.hid hs; clear hs
  go_enter Tryd.func16, Tryd.ntmps16
  go_wp2_with fail
  refine (l01Next_any S _ _ (Dr.src ?hs5 HS.out)).mono ?_
  case hs5 => exact (by repeat (first | with_reducible refine Dr.setCell ?_ (by first | (simp; done) | (simp; omega) | omega) _ | with_reducible refine Dr.alloc ?_ _ | with_reducible exact Dr.refl _ _ | with_reducible assumption | with_reducible refine Dr.trans ?_ (by with_reducible assumption) | with_reducible refine Dr.trans ?_ (Dr.of_new (by with_reducible assumption)) | with_reducible refine Dr.drewN ?_ _ | with_reducible refine Dr.drew ?_))
  rintro e w1 ⟨r1, rfl, p1, q1, b1⟩
  have z1 := b1.size
  try simp only [World.size_alloc, World.size_drew, World.heap_drewN, World.size_setCell] at z1
  have z1_0 : w.heap.size < w1.heap.size := by omega
  apply Blk.use (w := w1) (b := w.heap.size)
  · repeat (first | with_reducible assumption | with_reducible exact Blk.alloc_at (by first | rfl | (simp; done) | (simp; omega)) | with_reducible apply Blk.alloc | with_reducible apply Blk.drew | with_reducible apply Blk.drewN | with_reducible apply Blk.set | ((with_reducible apply Blk.set_ne); rotate_left; (focus omega)) | ((with_reducible apply Blk.dr); rotate_left; (focus (with_reducible assumption)); (focus omega)) | ((with_reducible apply Blk.new); rotate_left; (focus (with_reducible assumption))))
  intro K1_0
  try simp only [List.setIfInBounds_toArray, List.set_cons_succ, List.set_cons_zero] at K1_0
  obtain ⟨c1_0, f1_0⟩ := K1_0.rules
  have y1 : S < w1.heap.size := by omega
  go_wp2_with fail
  refine (l01Next_n S _ _ (Dr.src ?hs6 HS.out)).mono ?_
  case hs6 => exact (by repeat (first | with_reducible refine Dr.setCell ?_ (by first | (simp; done) | (simp; omega) | omega) _ | with_reducible refine Dr.alloc ?_ _ | with_reducible exact Dr.refl _ _ | with_reducible assumption | with_reducible refine Dr.trans ?_ (by with_reducible assumption) | with_reducible refine Dr.trans ?_ (Dr.of_new (by with_reducible assumption)) | with_reducible refine Dr.drewN ?_ _ | with_reducible refine Dr.drew ?_))
  rintro e w2 ⟨r2, rfl, b2⟩
  have z2 := b2.size
  try simp only [World.size_alloc, World.size_drew, World.heap_drewN, World.size_setCell] at z2
  have z2_0 : w.heap.size < w2.heap.size := by omega
  apply Blk.use (w := w2) (b := w.heap.size)
  · repeat (first | with_reducible assumption | with_reducible exact Blk.alloc_at (by first | rfl | (simp; done) | (simp; omega)) | with_reducible apply Blk.alloc | with_reducible apply Blk.drew | with_reducible apply Blk.drewN | with_reducible apply Blk.set | ((with_reducible apply Blk.set_ne); rotate_left; (focus omega)) | ((with_reducible apply Blk.dr); rotate_left; (focus (with_reducible assumption)); (focus omega)) | ((with_reducible apply Blk.new); rotate_left; (focus (with_reducible assumption))))
  intro K2_0
  try simp only [List.setIfInBounds_toArray, List.set_cons_succ, List.set_cons_zero] at K2_0
  obtain ⟨c2_0, f2_0⟩ := K2_0.rules
  try clear c1_0 f1_0 K1_0
  try clear c1_1 f1_1 K1_1
  try clear c1_2 f1_2 K1_2
  try clear c1_3 f1_3 K1_3
  try clear c1_4 f1_4 K1_4
  try clear c1_5 f1_5 K1_5
  have y2 : S < w2.heap.size := by omega
  go_wp2_with fail
  all_goals
    have c20 := c2_0
    refine (l01Next_any S _ _ (Dr.src ?hs7 HS.out)).mono ?_
    case hs7 => exact (by repeat (first | with_reducible refine Dr.setCell ?_ (by first | (simp; done) | (simp; omega) | omega) _ | with_reducible refine Dr.alloc ?_ _ | with_reducible exact Dr.refl _ _ | with_reducible assumption | with_reducible refine Dr.trans ?_ (by with_reducible assumption) | with_reducible refine Dr.trans ?_ (Dr.of_new (by with_reducible assumption)) | with_reducible refine Dr.drewN ?_ _ | with_reducible refine Dr.drew ?_))
    rintro e w3 ⟨r3, rfl, p3, q3, b3⟩
    replace q3 : r3 ≤ 3 := (by omega)
    have z3 := b3.size
    try simp only [World.size_alloc, World.size_drew, World.heap_drewN, World.size_setCell] at z3
    have z3_0 : w.heap.size < w3.heap.size := by omega
    apply Blk.use (w := w3) (b := w.heap.size)
    · repeat (first | with_reducible assumption | with_reducible exact Blk.alloc_at (by first | rfl | (simp; done) | (simp; omega)) | with_reducible apply Blk.alloc | with_reducible apply Blk.drew | with_reducible apply Blk.drewN | with_reducible apply Blk.set | ((with_reducible apply Blk.set_ne); rotate_left; (focus omega)) | ((with_reducible apply Blk.dr); rotate_left; (focus (with_reducible assumption)); (focus omega)) | ((with_reducible apply Blk.new); rotate_left; (focus (with_reducible assumption))))
    intro K3_0
    try simp only [List.setIfInBounds_toArray, List.set_cons_succ, List.set_cons_zero] at K3_0
    obtain ⟨c3_0, f3_0⟩ := K3_0.rules
    try clear c2_0 f2_0 K2_0
    try clear c2_1 f2_1 K2_1
    try clear c2_2 f2_2 K2_2
    try clear c2_3 f2_3 K2_3
    try clear c2_4 f2_4 K2_4
    try clear c2_5 f2_5 K2_5
    try clear c1_0 f1_0 K1_0
    try clear c1_1 f1_1 K1_1
    try clear c1_2 f1_2 K1_2
    try clear c1_3 f1_3 K1_3
    try clear c1_4 f1_4 K1_4
    try clear c1_5 f1_5 K1_5
    have y3 : S < w3.heap.size := by omega
    go_wp2_with fail
    have own3 : w3.ownsRow (w.heap.size + 1) 2 1 (.slice (some ⟨w1.heap.size, 0, none⟩) 0 0) 0 [] := own_dr (w := w1.alloc (.cells #[] 2)) (own_empty (by omega)) (by repeat (first | with_reducible refine Dr.setCell ?_ (by first | (simp; done) | (simp; omega) | omega) _ | with_reducible refine Dr.alloc ?_ _ | with_reducible exact Dr.refl _ _ | with_reducible assumption | with_reducible refine Dr.trans ?_ (by with_reducible assumption) | with_reducible refine Dr.trans ?_ (Dr.of_new (by with_reducible assumption)) | with_reducible refine Dr.drewN ?_ _ | with_reducible refine Dr.drew ?_)) (by omega)
    have D3 : Dr S (w.alloc (.cells #[.int .i64 0, .slice none 0 0] 26)) w3 := (by repeat (first | with_reducible refine Dr.setCell ?_ (by first | (simp; done) | (simp; omega) | omega) _ | with_reducible refine Dr.alloc ?_ _ | with_reducible exact Dr.refl _ _ | with_reducible assumption | with_reducible refine Dr.trans ?_ (by with_reducible assumption) | with_reducible refine Dr.trans ?_ (Dr.of_new (by with_reducible assumption)) | with_reducible refine Dr.drewN ?_ _ | with_reducible refine Dr.drew ?_))
    have hw3 : w1.heap.size < w3.heap.size := by omega
    replace own3 := Lib.hid own3
    clear c20 c3_0 f3_0 K3_0 b2 b3
    go_loopw [4, 5, 6] (fun o at' k wr => ∃ (xs : List Int) (p kk : Int), at' = .int .i64 p ∧ k = .int .i64 kk ∧ 0 ≤ kk ∧ (xs.length : Int) + kk = 1 + r3 ∧ wr.ownsRow (w.heap.size + 1) 2 1 o xs.length (xs.map (Value.int .i64)) ∧ Dr S (w.alloc (.cells #[.int .i64 0, .slice none 0 0] 26)) wr) (fun _ _ k _ => (intOf k).toNat)
    case atStart => exact ⟨[], r2, 1 + r3, rfl, rfl, by omega, by simp, own3.out, D3⟩
    case round =>
      obtain ⟨xs, p, kk, rfl, rfl, hk0, hlen, hown, hb⟩ := hrel
      clear own3 D3
      have hbz := hb.size
      simp only [World.size_alloc] at hbz
      by_cases hk : 0 < kk
      · go_wp2_with fail
        refine (l01PickL_n S [0, 1, 1, 2] _ _ (Dr.src ?hs8 HS.out)).mono ?_
        case hs8 => exact (by repeat (first | with_reducible refine Dr.setCell ?_ (by first | (simp; done) | (simp; omega) | omega) _ | with_reducible refine Dr.alloc ?_ _ | with_reducible exact Dr.refl _ _ | with_reducible assumption | with_reducible refine Dr.trans ?_ (by with_reducible assumption) | with_reducible refine Dr.trans ?_ (Dr.of_new (by with_reducible assumption)) | with_reducible refine Dr.drewN ?_ _ | with_reducible refine Dr.drew ?_))
        rintro e w4 ⟨ph, rfl, b4⟩
        have z4 := b4.size
        try simp only [World.size_alloc, World.size_drew, World.heap_drewN, World.size_setCell] at z4
        try clear c3_0 f3_0 K3_0
        try clear c3_1 f3_1 K3_1
        try clear c3_2 f3_2 K3_2
        try clear c3_3 f3_3 K3_3
        try clear c3_4 f3_4 K3_4
        try clear c3_5 f3_5 K3_5
        try clear c2_0 f2_0 K2_0
        try clear c2_1 f2_1 K2_1
        try clear c2_2 f2_2 K2_2
        try clear c2_3 f2_3 K2_3
        try clear c2_4 f2_4 K2_4
        try clear c2_5 f2_5 K2_5
        try clear c1_0 f1_0 K1_0
        try clear c1_1 f1_1 K1_1
        try clear c1_2 f1_2 K1_2
        try clear c1_3 f1_3 K1_3
        try clear c1_4 f1_4 K1_4
        try clear c1_5 f1_5 K1_5
        have y4 : S < w4.heap.size := by omega
        go_wp2_with (first | (at_builtin; refine wpList_append_own _ rfl _ _ 24 rfl (w.heap.size + 1) 2 i0 (.int .i64 0) 1 8 Tryd.underlying24 hi hz0 hz1 hz2 rfl (by decide) _ _ _ rfl ((own_dr (hown.alloc _) b4 (by omega)).alloc _) ⟨w4.heap.size, 0, none⟩ 1 1 [.int .i64 ((wrap64 (wrap64 (3 * p.tmod (2 + r1)) + ph)))] rfl rfl (by intro j u hj; match j, hj with | 0, hj => simp at hj; subst hj; first | (simp [Addr.add]; done) | exact alloc_one rfl) (by intro u hu; simp at hu; subst hu; rfl) (by unfold maxLen; omega) (by omega) (by first | (simp; done) | (simp; omega) | omega) ?_; intro va wa howna hgra _))
        have ba : Dr S (w.alloc (.cells #[.int .i64 0, .slice none 0 0] 26)) wa := Dr.grown (show Dr S (w.alloc (.cells #[.int .i64 0, .slice none 0 0] 26)) _ from by exact (by repeat (first | with_reducible refine Dr.setCell ?_ (by first | (simp; done) | (simp; omega) | omega) _ | with_reducible refine Dr.alloc ?_ _ | with_reducible exact Dr.refl _ _ | with_reducible assumption | with_reducible refine Dr.trans ?_ (by with_reducible assumption) | with_reducible refine Dr.trans ?_ (Dr.of_new (by with_reducible assumption)) | with_reducible refine Dr.drewN ?_ _ | with_reducible refine Dr.drew ?_))) hgra (fun q hq => by have := (own_block_lt (own_dr (hown.alloc _) b4 (by omega)) q hq).1; simpa using this)
        have baz := ba.size
        simp only [World.size_alloc] at baz
        refine (l01Next_n S _ _ (Dr.src ?hs9 HS.out)).mono ?_
        case hs9 => exact (by repeat (first | with_reducible refine Dr.setCell ?_ (by first | (simp; done) | (simp; omega) | omega) _ | with_reducible refine Dr.alloc ?_ _ | with_reducible exact Dr.refl _ _ | with_reducible assumption | with_reducible refine Dr.trans ?_ (by with_reducible assumption) | with_reducible refine Dr.trans ?_ (Dr.of_new (by with_reducible assumption)) | with_reducible refine Dr.drewN ?_ _ | with_reducible refine Dr.drew ?_))
        rintro e w5 ⟨r5, rfl, b5⟩
        have z5 := b5.size
        try simp only [World.size_alloc, World.size_drew, World.heap_drewN, World.size_setCell] at z5
        try clear c4_0 f4_0 K4_0
        try clear c4_1 f4_1 K4_1
        try clear c4_2 f4_2 K4_2
        try clear c4_3 f4_3 K4_3
        try clear c4_4 f4_4 K4_4
        try clear c4_5 f4_5 K4_5
        try clear c3_0 f3_0 K3_0
        try clear c3_1 f3_1 K3_1
        try clear c3_2 f3_2 K3_2
        try clear c3_3 f3_3 K3_3
        try clear c3_4 f3_4 K3_4
        try clear c3_5 f3_5 K3_5
        try clear c2_0 f2_0 K2_0
        try clear c2_1 f2_1 K2_1
        try clear c2_2 f2_2 K2_2
        try clear c2_3 f2_3 K2_3
        try clear c2_4 f2_4 K2_4
        try clear c2_5 f2_5 K2_5
        have y5 : S < w5.heap.size := by omega
        go_wp2_with fail
        go_roundw
        case rel => exact ⟨xs ++ [(wrap64 (wrap64 (3 * p.tmod (2 + r1)) + ph))], _, kk - 1, rfl, rfl, by omega, by simp; omega, by simpa using own_dr howna b5 (by omega), (by repeat (first | with_reducible refine Dr.setCell ?_ (by first | (simp; done) | (simp; omega) | omega) _ | with_reducible refine Dr.alloc ?_ _ | with_reducible exact Dr.refl _ _ | with_reducible assumption | with_reducible refine Dr.trans ?_ (by with_reducible assumption) | with_reducible refine Dr.trans ?_ (Dr.of_new (by with_reducible assumption)) | with_reducible refine Dr.drewN ?_ _ | with_reducible refine Dr.drew ?_))⟩
        case measure => simp [intOf]; omega
      · have hk0' : kk = 0 := by omega
        subst hk0'
        have hx1 : 1 ≤ xs.length := by omega
        have hx4 : xs.length ≤ 4 := by omega
        have K0 : Blk wr w.heap.size #[.int .i64 0, .slice none 0 0] 26 := (Blk.alloc_at rfl).dr hb (by omega)
        have hwr : w.heap.size < wr.heap.size := by omega
        obtain ⟨oa, oc, rfl⟩ := own_slice hown
        replace hown := Lib.hid hown
        go_wp2_with fail
        refine (l01Next_n S _ _ (Dr.src ?hs10 HS.out)).mono ?_
        case hs10 => exact (by repeat (first | with_reducible refine Dr.setCell ?_ (by first | (simp; done) | (simp; omega) | omega) _ | with_reducible refine Dr.alloc ?_ _ | with_reducible exact Dr.refl _ _ | with_reducible assumption | with_reducible refine Dr.trans ?_ (by with_reducible assumption) | with_reducible refine Dr.trans ?_ (Dr.of_new (by with_reducible assumption)) | with_reducible refine Dr.drewN ?_ _ | with_reducible refine Dr.drew ?_))
        rintro e w4 ⟨r4, rfl, b4⟩
        have z4 := b4.size
        try simp only [World.size_alloc, World.size_drew, World.heap_drewN, World.size_setCell] at z4
        have z4_0 : w.heap.size < w4.heap.size := by omega
        apply Blk.use (w := w4) (b := w.heap.size)
        · repeat (first | with_reducible assumption | with_reducible exact Blk.alloc_at (by first | rfl | (simp; done) | (simp; omega)) | with_reducible apply Blk.alloc | with_reducible apply Blk.drew | with_reducible apply Blk.drewN | with_reducible apply Blk.set | ((with_reducible apply Blk.set_ne); rotate_left; (focus omega)) | ((with_reducible apply Blk.dr); rotate_left; (focus (with_reducible assumption)); (focus omega)) | ((with_reducible apply Blk.new); rotate_left; (focus (with_reducible assumption))))
        intro K4_0
        try simp only [List.setIfInBounds_toArray, List.set_cons_succ, List.set_cons_zero] at K4_0
        obtain ⟨c4_0, f4_0⟩ := K4_0.rules
        try clear c3_0 f3_0 K3_0
        try clear c3_1 f3_1 K3_1
        try clear c3_2 f3_2 K3_2
        try clear c3_3 f3_3 K3_3
        try clear c3_4 f3_4 K3_4
        try clear c3_5 f3_5 K3_5
        try clear c2_0 f2_0 K2_0
        try clear c2_1 f2_1 K2_1
        try clear c2_2 f2_2 K2_2
        try clear c2_3 f2_3 K2_3
        try clear c2_4 f2_4 K2_4
        try clear c2_5 f2_5 K2_5
        try clear c1_0 f1_0 K1_0
        try clear c1_1 f1_1 K1_1
        try clear c1_2 f1_2 K1_2
        try clear c1_3 f1_3 K1_3
        try clear c1_4 f1_4 K1_4
        try clear c1_5 f1_5 K1_5
        have y4 : S < w4.heap.size := by omega
        go_wp2_with fail
        all_goals have own4 := Lib.hid (own_dr hown.out b4 (by omega))
        · skip
          refine (l01PickL_n S [1, 8, 9] _ _ (Dr.src ?hs11 HS.out)).mono ?_
          case hs11 => exact (by repeat (first | with_reducible refine Dr.setCell ?_ (by first | (simp; done) | (simp; omega) | omega) _ | with_reducible refine Dr.alloc ?_ _ | with_reducible exact Dr.refl _ _ | with_reducible assumption | with_reducible refine Dr.trans ?_ (by with_reducible assumption) | with_reducible refine Dr.trans ?_ (Dr.of_new (by with_reducible assumption)) | with_reducible refine Dr.drewN ?_ _ | with_reducible refine Dr.drew ?_))
          rintro e w5 ⟨r5, rfl, b5⟩
          have z5 := b5.size
          try simp only [World.size_alloc, World.size_drew, World.heap_drewN, World.size_setCell] at z5
          have z5_0 : w.heap.size < w5.heap.size := by omega
          apply Blk.use (w := w5) (b := w.heap.size)
          · repeat (first | with_reducible assumption | with_reducible exact Blk.alloc_at (by first | rfl | (simp; done) | (simp; omega)) | with_reducible apply Blk.alloc | with_reducible apply Blk.drew | with_reducible apply Blk.drewN | with_reducible apply Blk.set | ((with_reducible apply Blk.set_ne); rotate_left; (focus omega)) | ((with_reducible apply Blk.dr); rotate_left; (focus (with_reducible assumption)); (focus omega)) | ((with_reducible apply Blk.new); rotate_left; (focus (with_reducible assumption))))
          intro K5_0
          try simp only [List.setIfInBounds_toArray, List.set_cons_succ, List.set_cons_zero] at K5_0
          obtain ⟨c5_0, f5_0⟩ := K5_0.rules
          try clear c4_0 f4_0 K4_0
          try clear c4_1 f4_1 K4_1
          try clear c4_2 f4_2 K4_2
          try clear c4_3 f4_3 K4_3
          try clear c4_4 f4_4 K4_4
          try clear c4_5 f4_5 K4_5
          try clear c3_0 f3_0 K3_0
          try clear c3_1 f3_1 K3_1
          try clear c3_2 f3_2 K3_2
          try clear c3_3 f3_3 K3_3
          try clear c3_4 f3_4 K3_4
          try clear c3_5 f3_5 K3_5
          try clear c2_0 f2_0 K2_0
          try clear c2_1 f2_1 K2_1
          try clear c2_2 f2_2 K2_2
          try clear c2_3 f2_3 K2_3
          try clear c2_4 f2_4 K2_4
          try clear c2_5 f2_5 K2_5
          have y5 : S < w5.heap.size := by omega
          go_wp2_with fail
          have own5 := own_dr (own4.out.alloc _) b5 (by omega)
          apply ret_tr (xs := xs) rfl (by repeat (first | with_reducible refine Dr.setCell ?_ (by first | (simp; done) | (simp; omega) | omega) _ | with_reducible refine Dr.alloc ?_ _ | with_reducible exact Dr.refl _ _ | with_reducible assumption | with_reducible refine Dr.trans ?_ (by with_reducible assumption) | with_reducible refine Dr.trans ?_ (Dr.of_new (by with_reducible assumption)) | with_reducible refine Dr.drewN ?_ _ | with_reducible refine Dr.drew ?_)) (RdF.mono (own_rdF (base := w.heap.size + 1) (by (repeat (first | with_reducible exact own5 | with_reducible apply ownsRow_setCell_below)); all_goals (first | (simp; done) | (simp; omega) | omega))) (by omega))
          simp [results, Tryd.results16, go_sem, c5_0]
          first | exact ⟨rfl, rfl⟩ | exact rfl
        · obtain ⟨g, rfl⟩ : ∃ g, oa = some ⟨g, 0, none⟩ := by
            rcases own4.out.2 with ⟨h, h'⟩ | ⟨g, cap, cur, h, _⟩
            · omega
            · cases h; exact ⟨g, rfl⟩
          have hg := own_block_lt own4.out g rfl
          have hne : g ≠ w.heap.size := by omega
          have hne' : ¬ w.heap.size = g := by omega
          refine (l01PickL_n S [_, _, _] _ _ (Dr.src ?hs12 HS.out)).mono ?_
          case hs12 => exact (by repeat (first | with_reducible refine Dr.setCell ?_ (by first | (simp; done) | (simp; omega) | omega) _ | with_reducible refine Dr.alloc ?_ _ | with_reducible exact Dr.refl _ _ | with_reducible assumption | with_reducible refine Dr.trans ?_ (by with_reducible assumption) | with_reducible refine Dr.trans ?_ (Dr.of_new (by with_reducible assumption)) | with_reducible refine Dr.drewN ?_ _ | with_reducible refine Dr.drew ?_))
          rintro e w5 ⟨r5, rfl, b5⟩
          have z5 := b5.size
          try simp only [World.size_alloc, World.size_drew, World.heap_drewN, World.size_setCell] at z5
          have z5_0 : w.heap.size < w5.heap.size := by omega
          apply Blk.use (w := w5) (b := w.heap.size)
          · repeat (first | with_reducible assumption | with_reducible exact Blk.alloc_at (by first | rfl | (simp; done) | (simp; omega)) | with_reducible apply Blk.alloc | with_reducible apply Blk.drew | with_reducible apply Blk.drewN | with_reducible apply Blk.set | ((with_reducible apply Blk.set_ne); rotate_left; (focus omega)) | ((with_reducible apply Blk.dr); rotate_left; (focus (with_reducible assumption)); (focus omega)) | ((with_reducible apply Blk.new); rotate_left; (focus (with_reducible assumption))))
          intro K5_0
          try simp only [List.setIfInBounds_toArray, List.set_cons_succ, List.set_cons_zero] at K5_0
          obtain ⟨c5_0, f5_0⟩ := K5_0.rules
          try clear c4_0 f4_0 K4_0
          try clear c4_1 f4_1 K4_1
          try clear c4_2 f4_2 K4_2
          try clear c4_3 f4_3 K4_3
          try clear c4_4 f4_4 K4_4
          try clear c4_5 f4_5 K4_5
          try clear c3_0 f3_0 K3_0
          try clear c3_1 f3_1 K3_1
          try clear c3_2 f3_2 K3_2
          try clear c3_3 f3_3 K3_3
          try clear c3_4 f3_4 K3_4
          try clear c3_5 f3_5 K3_5
          try clear c2_0 f2_0 K2_0
          try clear c2_1 f2_1 K2_1
          try clear c2_2 f2_2 K2_2
          try clear c2_3 f2_3 K2_3
          try clear c2_4 f2_4 K2_4
          try clear c2_5 f2_5 K2_5
          have y5 : S < w5.heap.size := by omega
          have own5 := own_dr (own4.out.alloc (.cells #[.int .i64 (-1), .int .i64 (3 * (2 + r1) - 1), .int .i64 (3 * (2 + r1))] 2)) b5 (by omega)
          have hc5 : w5.cell? ⟨g, 0, none⟩ = some (.int .i64 (xs[0]'(by omega))) := by rw [own5.cellAt 0 (by omega)]; simp
          have hf5 := own5.frozenAt 0
          have hst := Lib.hid (own5.stored 0 (.int .i64 r5)).1
          have e5 : (xs.map (Value.int .i64)).set 0 (.int .i64 r5) = (xs.set 0 r5).map (Value.int .i64) := by rw [List.map_set]
          have hst2 : (w5.setCell ⟨g, 0, none⟩ (.int .i64 r5)).ownsRow (w.heap.size + 1) 2 1 (.slice (some ⟨g, 0, none⟩) xs.length oc) (xs.set 0 r5).length ((xs.set 0 r5).map (Value.int .i64)) := by
            have h := hst.out
            rw [e5] at h
            rw [List.length_set]; exact h
          replace hst2 := Lib.hid hst2
          clear hst e5
          replace own5 := Lib.hid own5
          go_wp2_with fail
          apply ret_tr (xs := xs.set 0 r5) rfl (by repeat (first | with_reducible refine Dr.setCell ?_ (by first | (simp; done) | (simp; omega) | omega) _ | with_reducible refine Dr.alloc ?_ _ | with_reducible exact Dr.refl _ _ | with_reducible assumption | with_reducible refine Dr.trans ?_ (by with_reducible assumption) | with_reducible refine Dr.trans ?_ (Dr.of_new (by with_reducible assumption)) | with_reducible refine Dr.drewN ?_ _ | with_reducible refine Dr.drew ?_)) (RdF.mono (own_rdF (base := w.heap.size + 1) (by (repeat (first | with_reducible exact hst2.out | with_reducible apply ownsRow_setCell_below)); all_goals (first | (simp; done) | (simp; omega) | omega))) (by omega))
          simp [results, Tryd.results16, go_sem, c5_0, hne, hne']
          first | exact ⟨rfl, rfl⟩ | exact rfl
        · skip
          refine (l01Next_any S _ _ (Dr.src ?hs13 HS.out)).mono ?_
          case hs13 => exact (by repeat (first | with_reducible refine Dr.setCell ?_ (by first | (simp; done) | (simp; omega) | omega) _ | with_reducible refine Dr.alloc ?_ _ | with_reducible exact Dr.refl _ _ | with_reducible assumption | with_reducible refine Dr.trans ?_ (by with_reducible assumption) | with_reducible refine Dr.trans ?_ (Dr.of_new (by with_reducible assumption)) | with_reducible refine Dr.drewN ?_ _ | with_reducible refine Dr.drew ?_))
          rintro e w5 ⟨r5, rfl, p5, q5, b5⟩
          have z5 := b5.size
          try simp only [World.size_alloc, World.size_drew, World.heap_drewN, World.size_setCell] at z5
          have z5_0 : w.heap.size < w5.heap.size := by omega
          apply Blk.use (w := w5) (b := w.heap.size)
          · repeat (first | with_reducible assumption | with_reducible exact Blk.alloc_at (by first | rfl | (simp; done) | (simp; omega)) | with_reducible apply Blk.alloc | with_reducible apply Blk.drew | with_reducible apply Blk.drewN | with_reducible apply Blk.set | ((with_reducible apply Blk.set_ne); rotate_left; (focus omega)) | ((with_reducible apply Blk.dr); rotate_left; (focus (with_reducible assumption)); (focus omega)) | ((with_reducible apply Blk.new); rotate_left; (focus (with_reducible assumption))))
          intro K5_0
          try simp only [List.setIfInBounds_toArray, List.set_cons_succ, List.set_cons_zero] at K5_0
          obtain ⟨c5_0, f5_0⟩ := K5_0.rules
          try clear c4_0 f4_0 K4_0
          try clear c4_1 f4_1 K4_1
          try clear c4_2 f4_2 K4_2
          try clear c4_3 f4_3 K4_3
          try clear c4_4 f4_4 K4_4
          try clear c4_5 f4_5 K4_5
          try clear c3_0 f3_0 K3_0
          try clear c3_1 f3_1 K3_1
          try clear c3_2 f3_2 K3_2
          try clear c3_3 f3_3 K3_3
          try clear c3_4 f3_4 K3_4
          try clear c3_5 f3_5 K3_5
          try clear c2_0 f2_0 K2_0
          try clear c2_1 f2_1 K2_1
          try clear c2_2 f2_2 K2_2
          try clear c2_3 f2_3 K2_3
          try clear c2_4 f2_4 K2_4
          try clear c2_5 f2_5 K2_5
          have y5 : S < w5.heap.size := by omega
          obtain ⟨q, rfl⟩ := Int.eq_ofNat_of_zero_le p5
          have hq1 : q ≤ 1 := by omega
          clear q5
          go_wp2_with (at_make; refine wpList_make_full _ rfl _ _ 24 rfl (w.heap.size + 1) 2 i0 (.int .i64 0) 1 Tryd.underlying24 hi hz0 hz1 .i64 .i64 _ _ (4 + q) rfl rfl rfl rfl (by rw [hz2]; omega) (by unfold maxLen; omega) (by first | omega | (simp; omega)) ?_; intro w6 hown6 hgr; have b6 : Dr S w5 w6 := Dr.of_new ((New.refl _).grown hgr (fun k hk => by cases hk)); have K6 := (show Blk w5 w.heap.size #[.int .i64 0, .slice none 0 0] 26 from K5_0).dr b6 (by omega); obtain ⟨c6_0, f6_0⟩ := K6.rules; clear c5_0 f5_0)
          have own6 : w6.ownsRow (w.heap.size + 1) 2 1 (.slice (some ⟨w5.heap.size, 0, none⟩) (4 + q) (4 + q)) (List.replicate (4 + q) (0 : Int)).length ((List.replicate (4 + q) (0 : Int)).map (Value.int .i64)) := by
            have e : (madeCells (Value.int .i64 0).cells ((4 + q) * 1)).toList = (List.replicate (4 + q) (0 : Int)).map (Value.int .i64) := by
              rw [show (Value.int .i64 0).cells = #[.int .i64 0] from rfl, toList_madeCells_one]; simp
            rw [← e, List.length_replicate]; exact hown6
          apply ret_tr (xs := List.replicate (4 + q) 0) rfl (by repeat (first | with_reducible refine Dr.setCell ?_ (by first | (simp; done) | (simp; omega) | omega) _ | with_reducible refine Dr.alloc ?_ _ | with_reducible exact Dr.refl _ _ | with_reducible assumption | with_reducible refine Dr.trans ?_ (by with_reducible assumption) | with_reducible refine Dr.trans ?_ (Dr.of_new (by with_reducible assumption)) | with_reducible refine Dr.drewN ?_ _ | with_reducible refine Dr.drew ?_)) (RdF.mono (own_rdF (base := w.heap.size + 1) (by (repeat (first | with_reducible exact own6 | with_reducible apply ownsRow_setCell_below)); all_goals (first | (simp; done) | (simp; omega) | omega))) (by omega))
          simp [results, Tryd.results16, go_sem, c6_0]
          first | exact ⟨rfl, rfl⟩ | exact rfl
        · apply ret_tr (xs := []) rfl (by repeat (first | with_reducible refine Dr.setCell ?_ (by first | (simp; done) | (simp; omega) | omega) _ | with_reducible refine Dr.alloc ?_ _ | with_reducible exact Dr.refl _ _ | with_reducible assumption | with_reducible refine Dr.trans ?_ (by with_reducible assumption) | with_reducible refine Dr.trans ?_ (Dr.of_new (by with_reducible assumption)) | with_reducible refine Dr.drewN ?_ _ | with_reducible refine Dr.drew ?_)) ⟨⟨none, 0, rfl, by simp, ⟨fun _ => rfl, by simp⟩, fun j u hu => by simp at hu⟩, fun b o n c e => by cases e⟩
          simp [results, Tryd.results16, go_sem, c4_0]
          first | exact ⟨rfl, rfl⟩ | exact rfl
        · skip
          apply ret_tr (xs := xs) rfl (by repeat (first | with_reducible refine Dr.setCell ?_ (by first | (simp; done) | (simp; omega) | omega) _ | with_reducible refine Dr.alloc ?_ _ | with_reducible exact Dr.refl _ _ | with_reducible assumption | with_reducible refine Dr.trans ?_ (by with_reducible assumption) | with_reducible refine Dr.trans ?_ (Dr.of_new (by with_reducible assumption)) | with_reducible refine Dr.drewN ?_ _ | with_reducible refine Dr.drew ?_)) (RdF.mono (own_rdF (base := w.heap.size + 1) (by (repeat (first | with_reducible exact own4.out | with_reducible apply ownsRow_setCell_below)); all_goals (first | (simp; done) | (simp; omega) | omega))) (by omega))
          simp [results, Tryd.results16, go_sem, c4_0]
          first | exact ⟨rfl, rfl⟩ | exact rfl
def DrawTrN (w : World) (e : Ending) (w' : World) : Prop := ∃ (n : Int) (v : Value) (xs : List Int), e = .returned (.agg #[.int .i64 n, v]) ∧ RdI w' v xs ∧ New w w'
theorem rdB_new {w w' : World} {v : Value} {n : Nat} {cs : List Value} (h : Rd w v n cs) (hn : New w w') : RdB w.heap.size w' v n cs := (Rd.toB h).same hn.block
theorem ret_trn {fn : Func} {w0 w : World} {a : Act} {n : Int} {v : Value} {xs : List Int} (hd : a.defers = []) (hR : New w0 w) (hx : RdI w v xs) (hr : (results fn a.tmps).run Tryd.prog w = .ok (.agg #[.int .i64 n, v]) w) : bodyPost Tryd.prog fn (DrawTrN w0) .ret a w := ⟨hd, _, hr, n, v, xs, rfl, hx, hR⟩
end Go.Proofs.YtommolbkcjpjhaaDoor
