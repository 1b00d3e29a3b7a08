/- Contracts: programs drawn that need not be written. -/
import Derived.WalkSpells
import Derived.IntWalk
import Derived.Test.YteielmihlfakgaaDoorProg
import Derived.Test.YteielmihlfakgaaDoorDrPg
import Derived.Test.YteielmihlfakgaaDoorDecS
import Derived.Test.YteielmihlfakgaaDoorStrs
import Derived.Test.YteielmihlfakgaaDoorApp2
namespace Go.Proofs.YteielmihlfakgaaDoor
open Go Go.Proofs Go.RowKit
set_option linter.unusedVariables false
set_option linter.unusedSimpArgs false
set_option maxRecDepth 100000
theorem flat_set {α : Type} (enc : α → List Value) (sz : Nat) (hs : ∀ x, (enc x).length = sz) (xs : List α) (k : Nat) (hk : k < xs.length) (i : Nat) (hi : i < sz) (y : α) (v : Value) (he : enc y = (enc xs[k]).set i v) :
    (xs.flatMap enc).set (k * sz + i) v = (xs.set k y).flatMap enc := by
  have h1 : xs = xs.take k ++ xs[k] :: xs.drop (k + 1) := by simp
  have h2 : xs.set k y = xs.take k ++ y :: xs.drop (k + 1) := List.set_eq_take_append_cons_drop.trans (by rw [if_pos hk])
  have h3 : ((xs.take k).flatMap enc).length = k * sz := by rw [flat_length enc sz hs]; simp; rw [Nat.min_eq_left (by omega)]
  rw [h2]
  conv => lhs; rw [h1]
  rw [List.flatMap_append, List.flatMap_cons, List.flatMap_append, List.flatMap_cons, List.set_append, if_neg (by omega), h3, Nat.add_sub_cancel_left, List.set_append, if_pos (by rw [hs]; exact hi), he]
/-- A store into a row of terms. -/
theorem ownT_set {w : World} {base g cap j : Nat} {xs ys : List ETerm} {T : TypeId} {u : Value} (h : w.ownsRow base T 3 (.slice (some ⟨g, 0, none⟩) xs.length cap) xs.length (xs.flatMap encTerm)) (he : (xs.flatMap encTerm).set j u = ys.flatMap encTerm) (hl : ys.length = xs.length) :
    (w.setCell ⟨g, j, none⟩ u).ownsRow base T 3 (.slice (some ⟨g, 0, none⟩) xs.length cap) ys.length (ys.flatMap encTerm) := by
  have := (h.stored j u).1
  rw [he] at this
  rw [hl]; exact this
theorem own_takeT {w : World} {base g n cap k : Nat} {e : TypeId} {xs : List ETerm} (h : w.ownsRow base e 3 (.slice (some ⟨g, 0, none⟩) n cap) n (xs.flatMap encTerm)) (hl : xs.length = n) (hk : k ≤ n) : w.ownsRow base e 3 (.slice (some ⟨g, 0, none⟩) k cap) (xs.take k).length ((xs.take k).flatMap encTerm) := by
  have ht : (xs.take k).length = k := by simp; omega
  rw [ht]
  rcases h.2 with ⟨h', _⟩ | ⟨g', cap', cur, h', hb, hg, hn, hm, hs, htk⟩
  · cases h'
  · cases h'
    refine ⟨by rw [flat_length encTerm 3 encTerm_len, ht], .inr ⟨g, cap, cur, rfl, hb, hg, by omega, hm, hs, ?_⟩⟩
    rw [← flat_take encTerm 3 encTerm_len xs k (by omega), ← htk, List.take_take, Nat.min_eq_left (by omega)]
/-- A list of terms of the call's own, drawn; it may be empty. -/
def DrawX (S : Nat) (w : World) (e : Ending) (w' : World) : Prop := ∃ (v : Value) (ts : List ETerm), e = .returned v ∧ Dr S w w' ∧ w'.ownsRow w.heap.size 43 3 v ts.length (ts.flatMap encTerm) ∧ ts.length ≤ 50 ∧ ∀ x ∈ ts, fitTerm x
theorem fit_set {ts : List ETerm} {k : Nat} {y : ETerm} (h : ∀ x ∈ ts, fitTerm x) (hy : fitTerm y) : ∀ x ∈ ts.set k y, fitTerm x := fun x hx => by
  rcases List.mem_or_eq_of_mem_set hx with h1 | h1
  · exact h x h1
  · rw [h1]; exact hy
theorem own_snocS {w : World} {base : Nat} {v : Value} {T : TypeId} {L : List ByteArray} {s : ByteArray} (h : w.ownsRow base T 1 v (L.length + 1) (L.map Value.string ++ [.string s])) : w.ownsRow base T 1 v (L ++ [s]).length ((L ++ [s]).map Value.string) := by
  simpa using h
theorem ownsRow_setCell_above {w : World} {base n sz : Nat} {e : TypeId} {v : Value} {cs : List Value} (h : w.ownsRow base e sz v n cs) {a : Addr} (ha : a.block < base) (u : Value) : (w.setCell a u).ownsRow base e sz v n cs := ownsRow_setCell_below h ha u
theorem smW : ∀ x ∈ ([⟨#[]⟩, ⟨#[97, 110, 100]⟩, ⟨#[120]⟩, ⟨#[89]⟩] : List ByteArray), x.size ≤ 100 := fun x hx => by simp at hx; rcases hx with rfl | rfl | rfl | rfl <;> decide
set_option maxHeartbeats 4000000 in
theorem drExp_any {B : Nat} (S : Nat) (w : World) (hs : Src B S w) : Calls Tryd.prog 96 #[.pointer (some ⟨S, 0, none⟩)] w (DrawX S w) := by
  obtain ⟨i0, hi, hz0, hz1, hz2⟩ := info_parts infoTerm
  have hS := hs.lt
  have HS := Lib.hid hs; clear hs
  have oN := own_litS (w := w) (b := w.heap.size) (base := w.heap.size) (n := 3) (T := 9) [⟨#[97]⟩, ⟨#[98]⟩, ⟨#[103, 97, 116, 101]⟩] (Nat.le_refl _) rfl rfl (by simp)
  go_enter Tryd.func96, Tryd.ntmps96
  go_wp2_with fail
  refine (l01Next_any S 4 _ (Dr.src ?hs2 HS.out)).mono ?_
  case hs2 => exact (by repeat (first | with_reducible refine Dr.setCell ?_ (by first | (simp; done) | (simp; omega) | omega) _ | with_reducible refine Dr.alloc ?_ _ | with_reducible exact Dr.refl _ _ | with_reducible assumption | with_reducible refine Dr.trans ?_ (by with_reducible assumption) | with_reducible refine Dr.trans ?_ (Dr.of_new (by with_reducible assumption)) | with_reducible refine Dr.drewN ?_ _ | with_reducible refine Dr.drew ?_))
  rintro e w1 ⟨r1, rfl, p1, q1, b1⟩
  obtain ⟨d, rfl⟩ := Int.eq_ofNat_of_zero_le p1; replace q1 : d ≤ 3 := (by omega)
  have z1 := b1.size
  try simp only [World.size_alloc, World.size_drew, World.heap_drewN, World.size_setCell] at z1
  have y1 : S < w1.heap.size := by omega
  have D1 : Dr S w w1 := (by repeat (first | with_reducible refine Dr.setCell ?_ (by first | (simp; done) | (simp; omega) | omega) _ | with_reducible refine Dr.alloc ?_ _ | with_reducible exact Dr.refl _ _ | with_reducible assumption | with_reducible refine Dr.trans ?_ (by with_reducible assumption) | with_reducible refine Dr.trans ?_ (Dr.of_new (by with_reducible assumption)) | with_reducible refine Dr.drewN ?_ _ | with_reducible refine Dr.drew ?_))
  have HN := own_rdX (own_dr oN b1 (by omega)) hS
  go_wp2_with fail
  refine (drTerms_any S d (by omega) _ [⟨#[97]⟩, ⟨#[98]⟩, ⟨#[103, 97, 116, 101]⟩] _ (D1.src HS.out) HN (by simp) (by simp) (fun x hx => by simp at hx; rcases hx with rfl | rfl | rfl <;> decide)).mono ?_
  rintro e w2 ⟨v2, ts, rfl, b2, o2, h2a, h2b, h2f⟩
  have D2 := D1.trans b2
  have z2 := D2.size
  have own2 := own_base (base' := w.heap.size) o2 D1.size
  have hpw := Nat.pow_le_pow_right (show 0 < 2 by omega) (show d + 1 ≤ 4 by omega)
  have hl15 : ts.length ≤ 15 := by omega
  have F2 := Lib.hid h2f
  clear b1 b2 o2 oN HN h2b hpw h2f D1
  obtain ⟨g, cap, rfl⟩ := own_form own2 (by omega)
  replace own2 := Lib.hid own2
  go_wp2_with fail
  refine (l01Next_any S ts.length _ (D2.src HS.out)).mono ?_
  rintro e w3 ⟨r3, rfl, p3, q3, b3⟩
  obtain ⟨k, rfl⟩ := Int.eq_ofNat_of_zero_le p3; replace q3 : k < ts.length := (by omega)
  have z3 := b3.size
  try simp only [World.size_alloc, World.size_drew, World.heap_drewN, World.size_setCell] at z3
  try clear c2_0 f2_0 K2_0
  try clear c2_1 f2_1 K2_1
  try clear c2_2 f2_2 K2_2
  try clear c2_3 f2_3 K2_3
  try clear c2_4 f2_4 K2_4
  try clear c2_5 f2_5 K2_5
  try clear c1_0 f1_0 K1_0
  try clear c1_1 f1_1 K1_1
  try clear c1_2 f1_2 K1_2
  try clear c1_3 f1_3 K1_3
  try clear c1_4 f1_4 K1_4
  try clear c1_5 f1_5 K1_5
  have y3 : S < w3.heap.size := by omega
  have D3 := D2.trans b3
  have own3 := Lib.hid (own_dr own2.out b3 (by omega))
  clear own2 b3 D2
  go_wp2_with fail
  refine (l01Next_any S 24 _ (D3.src HS.out)).mono ?_
  rintro e w4 ⟨r4, rfl, p4, q4, b4⟩
  have z4 := b4.size
  try simp only [World.size_alloc, World.size_drew, World.heap_drewN, World.size_setCell] at z4
  try clear c3_0 f3_0 K3_0
  try clear c3_1 f3_1 K3_1
  try clear c3_2 f3_2 K3_2
  try clear c3_3 f3_3 K3_3
  try clear c3_4 f3_4 K3_4
  try clear c3_5 f3_5 K3_5
  try clear c2_0 f2_0 K2_0
  try clear c2_1 f2_1 K2_1
  try clear c2_2 f2_2 K2_2
  try clear c2_3 f2_3 K2_3
  try clear c2_4 f2_4 K2_4
  try clear c2_5 f2_5 K2_5
  try clear c1_0 f1_0 K1_0
  try clear c1_1 f1_1 K1_1
  try clear c1_2 f1_2 K1_2
  try clear c1_3 f1_3 K1_3
  try clear c1_4 f1_4 K1_4
  try clear c1_5 f1_5 K1_5
  have y4 : S < w4.heap.size := by omega
  have D4 := D3.trans b4
  have own4 := Lib.hid (own_dr own3.out b4 (by omega))
  clear own3 b4 D3
  have z4 := D4.size
  rcases (by omega : r4 = 0 ∨ r4 = 1 ∨ r4 = 2 ∨ r4 = 3 ∨ r4 = 4 ∨ 5 ≤ r4) with rfl | rfl | rfl | rfl | rfl | h5
  · go_wp2_with fail
    refine (l01PickL_n S [0, 4, 5, 13] _ _ (D4.src HS.out)).mono ?_
    rintro e w5 ⟨r5, rfl, b5⟩
    have z5 := b5.size
    try simp only [World.size_alloc, World.size_drew, World.heap_drewN, World.size_setCell] at z5
    try clear c4_0 f4_0 K4_0
    try clear c4_1 f4_1 K4_1
    try clear c4_2 f4_2 K4_2
    try clear c4_3 f4_3 K4_3
    try clear c4_4 f4_4 K4_4
    try clear c4_5 f4_5 K4_5
    try clear c3_0 f3_0 K3_0
    try clear c3_1 f3_1 K3_1
    try clear c3_2 f3_2 K3_2
    try clear c3_3 f3_3 K3_3
    try clear c3_4 f3_4 K3_4
    try clear c3_5 f3_5 K3_5
    try clear c2_0 f2_0 K2_0
    try clear c2_1 f2_1 K2_1
    try clear c2_2 f2_2 K2_2
    try clear c2_3 f2_3 K2_3
    try clear c2_4 f2_4 K2_4
    try clear c2_5 f2_5 K2_5
    have y5 : S < w5.heap.size := by omega
    have own5 := own_dr (own4.out.alloc (.cells (([0, 4, 5, 13] : List Int).map (Value.int .i64)).toArray 2)) b5 (by omega)
    have D5 := (D4.alloc (.cells (([0, 4, 5, 13] : List Int).map (Value.int .i64)).toArray 2)).trans b5
    have hg := own_block_lt own5 g rfl
    have hcx : w5.cell? ⟨g, k * 3, none⟩ = some (Value.int .i64 ts[k].kind) := by
      rw [own5.cellAt (k * 3) (by omega)]
      exact flat_at encTerm 3 encTerm_len ts k q3 0 (by omega)
    have hfx := own5.frozenAt (k * 3)
    have oL := Lib.hid (ownT_set own5 (flat_set encTerm 3 encTerm_len ts k q3 0 (by omega) ⟨r5, ts[k].name, ts[k].num⟩ (.int .i64 r5) rfl) (by simp))
    have DE := D5.setCell (p := ⟨g, k * 3, none⟩) hg.1 (.int .i64 r5)
    have hll : (ts.set k ⟨r5, ts[k].name, ts[k].num⟩).length = ts.length := by simp
    clear own5
    go_wp2_with fail
    go_ret
    exact ⟨_, ts.set k ⟨r5, ts[k].name, ts[k].num⟩, rfl, DE, oL.out, by rw [hll]; omega, fun x hx => fit_set (y := ⟨r5, ts[k].name, ts[k].num⟩) F2.out (F2.out ts[k] (List.getElem_mem q3) : ts[k].name.size ≤ 1048576) x hx⟩
  · go_wp2_with fail
    have oX := own_litS (w := w4) (b := w4.heap.size) (base := w4.heap.size) (n := 4) (T := 9) [⟨#[]⟩, ⟨#[97, 110, 100]⟩, ⟨#[120]⟩, ⟨#[89]⟩] (Nat.le_refl _) rfl rfl (by simp)
    refine (l01Next_any S 4 _ ((D4.alloc _).src HS.out)).mono ?_
    rintro e w5 ⟨r5, rfl, p5, q5, b5⟩
    obtain ⟨n5, rfl⟩ := Int.eq_ofNat_of_zero_le p5; replace q5 : n5 < 4 := (by omega)
    have z5 := b5.size
    try simp only [World.size_alloc, World.size_drew, World.heap_drewN, World.size_setCell] at z5
    try clear c4_0 f4_0 K4_0
    try clear c4_1 f4_1 K4_1
    try clear c4_2 f4_2 K4_2
    try clear c4_3 f4_3 K4_3
    try clear c4_4 f4_4 K4_4
    try clear c4_5 f4_5 K4_5
    try clear c3_0 f3_0 K3_0
    try clear c3_1 f3_1 K3_1
    try clear c3_2 f3_2 K3_2
    try clear c3_3 f3_3 K3_3
    try clear c3_4 f3_4 K3_4
    try clear c3_5 f3_5 K3_5
    try clear c2_0 f2_0 K2_0
    try clear c2_1 f2_1 K2_1
    try clear c2_2 f2_2 K2_2
    try clear c2_3 f2_3 K2_3
    try clear c2_4 f2_4 K2_4
    try clear c2_5 f2_5 K2_5
    have y5 : S < w5.heap.size := by omega
    have own5 := own_dr (own4.out.alloc (.cells (([⟨#[]⟩, ⟨#[97, 110, 100]⟩, ⟨#[120]⟩, ⟨#[89]⟩] : List ByteArray).map Value.string).toArray 9)) b5 (by omega)
    have D5 := (D4.alloc (.cells (([⟨#[]⟩, ⟨#[97, 110, 100]⟩, ⟨#[120]⟩, ⟨#[89]⟩] : List ByteArray).map Value.string).toArray 9)).trans b5
    have hg := own_block_lt own5 g rfl
    obtain ⟨xb, xo, hxe, hxb, hxc⟩ := rd_atS (own_rd (own_dr oX b5 (by omega))) (show n5 < ([⟨#[]⟩, ⟨#[97, 110, 100]⟩, ⟨#[120]⟩, ⟨#[89]⟩] : List ByteArray).length from q5)
    cases hxe
    have hfs : (([⟨#[]⟩, ⟨#[97, 110, 100]⟩, ⟨#[120]⟩, ⟨#[89]⟩] : List ByteArray)[n5]'q5).size ≤ 100 := smW _ (List.getElem_mem q5)
    generalize ([⟨#[]⟩, ⟨#[97, 110, 100]⟩, ⟨#[120]⟩, ⟨#[89]⟩] : List ByteArray)[n5]'q5 = nm at hxc hfs
    rw [Nat.zero_add] at hxc
    have hcx : w5.cell? ⟨g, k * 3 + 1, none⟩ = some (.string ts[k].name) := by
      rw [own5.cellAt (k * 3 + 1) (by omega)]
      exact flat_at encTerm 3 encTerm_len ts k q3 1 (by omega)
    have hfx := own5.frozenAt (k * 3 + 1)
    have oL := Lib.hid (ownT_set own5 (flat_set encTerm 3 encTerm_len ts k q3 1 (by omega) ⟨ts[k].kind, nm, ts[k].num⟩ (.string nm) rfl) (by simp))
    have DE := D5.setCell (p := ⟨g, k * 3 + 1, none⟩) hg.1 (.string nm)
    have hll : (ts.set k ⟨ts[k].kind, nm, ts[k].num⟩).length = ts.length := by simp
    clear own5 oX
    go_wp2_with fail
    go_ret
    exact ⟨_, ts.set k ⟨ts[k].kind, nm, ts[k].num⟩, rfl, DE, oL.out, by rw [hll]; omega, fun x hx => fit_set (y := ⟨ts[k].kind, nm, ts[k].num⟩) F2.out (show nm.size ≤ 1048576 by omega) x hx⟩
  · go_wp2_with fail
    refine (l01PickL_n S [-1, 1, 9999, 10000] _ _ (D4.src HS.out)).mono ?_
    rintro e w5 ⟨r5, rfl, b5⟩
    have z5 := b5.size
    try simp only [World.size_alloc, World.size_drew, World.heap_drewN, World.size_setCell] at z5
    try clear c4_0 f4_0 K4_0
    try clear c4_1 f4_1 K4_1
    try clear c4_2 f4_2 K4_2
    try clear c4_3 f4_3 K4_3
    try clear c4_4 f4_4 K4_4
    try clear c4_5 f4_5 K4_5
    try clear c3_0 f3_0 K3_0
    try clear c3_1 f3_1 K3_1
    try clear c3_2 f3_2 K3_2
    try clear c3_3 f3_3 K3_3
    try clear c3_4 f3_4 K3_4
    try clear c3_5 f3_5 K3_5
    try clear c2_0 f2_0 K2_0
    try clear c2_1 f2_1 K2_1
    try clear c2_2 f2_2 K2_2
    try clear c2_3 f2_3 K2_3
    try clear c2_4 f2_4 K2_4
    try clear c2_5 f2_5 K2_5
    have y5 : S < w5.heap.size := by omega
    have own5 := own_dr (own4.out.alloc (.cells (([-1, 1, 9999, 10000] : List Int).map (Value.int .i64)).toArray 2)) b5 (by omega)
    have D5 := (D4.alloc (.cells (([-1, 1, 9999, 10000] : List Int).map (Value.int .i64)).toArray 2)).trans b5
    have hg := own_block_lt own5 g rfl
    have hcx : w5.cell? ⟨g, k * 3 + 2, none⟩ = some (Value.int .i64 ts[k].num) := by
      rw [own5.cellAt (k * 3 + 2) (by omega)]
      exact flat_at encTerm 3 encTerm_len ts k q3 2 (by omega)
    have hfx := own5.frozenAt (k * 3 + 2)
    have oL := Lib.hid (ownT_set own5 (flat_set encTerm 3 encTerm_len ts k q3 2 (by omega) ⟨ts[k].kind, ts[k].name, r5⟩ (.int .i64 r5) rfl) (by simp))
    have DE := D5.setCell (p := ⟨g, k * 3 + 2, none⟩) hg.1 (.int .i64 r5)
    have hll : (ts.set k ⟨ts[k].kind, ts[k].name, r5⟩).length = ts.length := by simp
    clear own5
    go_wp2_with fail
    go_ret
    exact ⟨_, ts.set k ⟨ts[k].kind, ts[k].name, r5⟩, rfl, DE, oL.out, by rw [hll]; omega, fun x hx => fit_set (y := ⟨ts[k].kind, ts[k].name, r5⟩) F2.out (F2.out ts[k] (List.getElem_mem q3) : ts[k].name.size ≤ 1048576) x hx⟩
  · have hcap := Rd.cap (own_rd own4.out)
    have hk4 : k ≤ cap := by omega
    have htl : (ts.take k).length ≤ 50 := by simp; omega
    go_wp2_with fail
    go_ret
    exact ⟨_, ts.take k, rfl, D4, own_takeT own4.out rfl (by omega), htl, fun x hx => F2.out x (List.mem_of_mem_take hx)⟩
  · go_wp2_with fail
    go_loopw [3] (fun v wr => ∃ L : List ETerm, wr.ownsRow w.heap.size 43 3 v L.length (L.flatMap encTerm) ∧ L.length ≤ 41 ∧ Hid (∀ x ∈ L, fitTerm x) ∧ Dr S w wr) (fun v _ => 41 - slen v)
    case atStart => exact ⟨ts, own4.out, by omega, F2, D4⟩
    case round =>
      obtain ⟨L, hown, hL, hLf, hb⟩ := hrel
      have hbz := hb.size
      obtain ⟨xa, xc, rfl⟩ := own_slice hown
      replace hown := Lib.hid hown
      go_wp2_with fail
      refine (l01Next_any S 2 _ (hb.src HS.out)).mono ?_
      rintro e w6 ⟨r6, rfl, p6, q6, b6⟩
      replace q6 : r6 ≤ 1 := (by omega)
      have z6 := b6.size
      try simp only [World.size_alloc, World.size_drew, World.heap_drewN, World.size_setCell] at z6
      try clear c5_0 f5_0 K5_0
      try clear c5_1 f5_1 K5_1
      try clear c5_2 f5_2 K5_2
      try clear c5_3 f5_3 K5_3
      try clear c5_4 f5_4 K5_4
      try clear c5_5 f5_5 K5_5
      try clear c4_0 f4_0 K4_0
      try clear c4_1 f4_1 K4_1
      try clear c4_2 f4_2 K4_2
      try clear c4_3 f4_3 K4_3
      try clear c4_4 f4_4 K4_4
      try clear c4_5 f4_5 K4_5
      try clear c3_0 f3_0 K3_0
      try clear c3_1 f3_1 K3_1
      try clear c3_2 f3_2 K3_2
      try clear c3_3 f3_3 K3_3
      try clear c3_4 f3_4 K3_4
      try clear c3_5 f3_5 K3_5
      have y6 : S < w6.heap.size := by omega
      have D6 := hb.trans b6
      have own6 := own_dr hown.out b6 (by omega)
      have z6' := D6.size
      clear b6 hown
      by_cases hlt : (L.length : Int) < 40 + r6
      · go_wp2_with (first | (at_builtin; refine wpList_append_own _ rfl _ _ 36 rfl (w.heap.size) 43 i0 (Value.agg #[.int .i64 0, .string ⟨#[]⟩, .int .i64 0]) 3 32 Tryd.underlying36 hi hz0 hz1 hz2 rfl (by decide) _ _ _ rfl (own6.alloc _) ⟨w6.heap.size, 0, none⟩ 1 1 [.int .i64 4, .string ⟨#[]⟩, .int .i64 0] rfl rfl (fun j u hj => alloc_row (by first | rfl | simp) j u hj) (by intro u hu; simp at hu; rcases hu with rfl | rfl | rfl <;> rfl) (by unfold maxLen; omega) (by omega) (by first | (simp; done) | (simp; omega) | omega) ?_; intro va wa howna hgra _))
        have DA := Dr.grown (D6.alloc _) hgra (fun q hq => (own_block_lt own6 q hq).1)
        have oA := own_snocT howna
        obtain ⟨ya, yc, rfl⟩ := own_slice oA
        have hln : (L ++ [(⟨4, ⟨#[]⟩, 0⟩ : ETerm)]).length = L.length + 1 := by simp
        go_roundw
        case rel => exact ⟨L ++ [⟨4, ⟨#[]⟩, 0⟩], oA, by omega, Lib.hid (fun x hx => by rcases List.mem_append.1 hx with h | h; exact hLf.out x h; obtain rfl := List.mem_singleton.1 h; exact (show (0 : Nat) ≤ 1048576 by omega)), DA⟩
        case measure => simp only [slen, hln]; omega
      · replace own6 := Lib.hid own6
        go_wp2_with fail
        go_ret
        exact ⟨_, L, rfl, D6, own6.out, by omega, hLf.out⟩
  · have e0 : (r4 == 0) = false := by simp; omega
    have e1 : (r4 == 1) = false := by simp; omega
    have e2 : (r4 == 2) = false := by simp; omega
    have e3 : (r4 == 3) = false := by simp; omega
    have e4 : (r4 == 4) = false := by simp; omega
    go_wp2_with fail
    go_ret
    exact ⟨_, ts, rfl, D4, own4.out, by omega, F2.out⟩
theorem smW0 : ∀ x ∈ ([⟨#[]⟩, ⟨#[101, 110, 100]⟩, ⟨#[82, 105, 100, 101]⟩] : List ByteArray), x.size ≤ 100 := fun x hx => by simp at hx; rcases hx with rfl | rfl | rfl <;> decide
theorem smW2 : ∀ x ∈ ([⟨#[97, 110, 100]⟩, ⟨#[120]⟩, ⟨#[110, 111, 119, 104, 101, 114, 101]⟩] : List ByteArray), x.size ≤ 100 := fun x hx => by simp at hx; rcases hx with rfl | rfl | rfl <;> decide
theorem smW3 : ∀ x ∈ ([⟨#[]⟩, ⟨#[111, 114]⟩, ⟨#[97]⟩, ⟨#[113]⟩] : List ByteArray), x.size ≤ 100 := fun x hx => by simp at hx; rcases hx with rfl | rfl | rfl | rfl <;> decide
theorem smW7 : ∀ x ∈ ([⟨#[97]⟩, ⟨#[113]⟩, ⟨#[119]⟩, ⟨#[111, 110]⟩] : List ByteArray), x.size ≤ 100 := fun x hx => by simp at hx; rcases hx with rfl | rfl | rfl | rfl <;> decide
theorem sm_name {p : ProgD} {s : ByteArray} (h : SmP p) (hs : s.size ≤ 100) : SmP { p with name := s } := ⟨hs, h.ins, h.vars, h.outs, h.guard, h.insl, h.varsl, h.outsl, h.lines1, h.linesl, h.tgts, h.terms⟩
theorem sm_guard {p : ProgD} {s : ByteArray} (h : SmP p) (hs : s.size ≤ 100) : SmP { p with guard := s } := ⟨h.name, h.ins, h.vars, h.outs, hs, h.insl, h.varsl, h.outsl, h.lines1, h.linesl, h.tgts, h.terms⟩
theorem sm_noin {p : ProgD} (h : SmP p) : SmP { p with inputs := [], guard := ⟨#[]⟩ } := ⟨h.name, (fun x hx => by cases hx), h.vars, h.outs, show (0 : Nat) ≤ 100 by omega, show (0 : Nat) ≤ 100 by omega, h.varsl, h.outsl, h.lines1, h.linesl, h.tgts, h.terms⟩
theorem sm_ins {p : ProgD} {L : List ByteArray} (h : SmP p) (h1 : ∀ x ∈ L, x.size ≤ 100) (h2 : L.length ≤ 100) : SmP { p with inputs := L } := ⟨h.name, h1, h.vars, h.outs, h.guard, h2, h.varsl, h.outsl, h.lines1, h.linesl, h.tgts, h.terms⟩
theorem sm_vars {p : ProgD} {L : List ByteArray} (h : SmP p) (h1 : ∀ x ∈ L, x.size ≤ 100) (h2 : L.length ≤ 100) : SmP { p with vars := L } := ⟨h.name, h.ins, h1, h.outs, h.guard, h.insl, h2, h.outsl, h.lines1, h.linesl, h.tgts, h.terms⟩
theorem sm_lines {p : ProgD} {L : List LineD} (h : SmP p) (h1 : ∀ l ∈ L, l.target.size ≤ 100 ∧ l.terms.length ≤ 100 ∧ ∀ x ∈ l.terms, fitTerm x) (h2 : L.length ≤ 100) (h3 : 1 ≤ L.length) : SmP { p with lines := L } := ⟨h.name, h.ins, h.vars, h.outs, h.guard, h.insl, h.varsl, h.outsl, h3, h2, fun l hl => (h1 l hl).1, fun l hl => (h1 l hl).2⟩
theorem ls_ne {w : World} {base g cap n : Nat} {ps : List LV} {o : Value} {e : TypeId} {sz m : Nat} {cs : List Value} (h : OwnLs w base (.slice (some ⟨g, 0, none⟩) n cap) ps) (ho : w.ownsRow base e sz o m cs) (he : 45 ≠ e) : some g ≠ o.ownBlock := by
  intro hh
  exact own_ne_ownK h.row ho he g g rfl hh.symm rfl
theorem OwnLs.set0 {w : World} {base g cap k : Nat} {ps : List LV} {s : ByteArray} (h : OwnLs w base (.slice (some ⟨g, 0, none⟩) ps.length cap) ps) (hk : k < ps.length) :
    OwnLs (w.setCell ⟨g, k * 2, none⟩ (.string s)) base (.slice (some ⟨g, 0, none⟩) ps.length cap) (ps.set k ((⟨s, ps[k].1.terms⟩ : LineD), ps[k].2)) := by
  have hr := (h.row.stored (k * 2) (.string s)).1
  rw [show k * 2 = k * 2 + 0 by omega, flat_set encLV 2 encLV_len ps k hk 0 (by omega) ((⟨s, ps[k].1.terms⟩ : LineD), ps[k].2) (.string s) rfl] at hr
  refine ⟨by rw [List.length_set]; exact hr, fun p hp => ?_⟩
  have ht : ∀ q ∈ ps, (w.setCell ⟨g, k * 2, none⟩ (.string s)).ownsRow base 43 3 q.2 q.1.terms.length (q.1.terms.flatMap encTerm) := fun q hq => own_setK (h.terms q hq) (ls_ne h (h.terms q hq) (by decide)) _
  rcases List.mem_or_eq_of_mem_set hp with h1 | h1
  · exact ht p h1
  · rw [h1]; exact ht ps[k] (List.getElem_mem hk)
theorem OwnLs.set1 {w : World} {base g cap k : Nat} {ps : List LV} {s : List ETerm} {tv : Value} (h : OwnLs w base (.slice (some ⟨g, 0, none⟩) ps.length cap) ps) (hk : k < ps.length) (ho : w.ownsRow base 43 3 tv s.length (s.flatMap encTerm)) :
    OwnLs (w.setCell ⟨g, k * 2 + 1, none⟩ tv) base (.slice (some ⟨g, 0, none⟩) ps.length cap) (ps.set k ((⟨ps[k].1.target, s⟩ : LineD), tv)) := by
  have hr := (h.row.stored (k * 2 + 1) tv).1
  rw [flat_set encLV 2 encLV_len ps k hk 1 (by omega) ((⟨ps[k].1.target, s⟩ : LineD), tv) tv rfl] at hr
  refine ⟨by rw [List.length_set]; exact hr, fun p hp => ?_⟩
  rcases List.mem_or_eq_of_mem_set hp with h1 | h1
  · exact own_setK (h.terms p h1) (ls_ne h (h.terms p h1) (by decide)) _
  · rw [h1]; exact own_setK ho (ls_ne h ho (by decide)) _
theorem OwnPg.setLines {w : World} {base g cap n o : Nat} {p : ProgD} {iv vv ov lv u : Value} {ps ps' : List LV} (h : OwnPg w base p iv vv ov lv) (hl : OwnLs w base (.slice (some ⟨g, 0, none⟩) n cap) ps) (hl' : OwnLs (w.setCell ⟨g, o, none⟩ u) base (.slice (some ⟨g, 0, none⟩) n cap) ps') :
    OwnPg (w.setCell ⟨g, o, none⟩ u) base { p with lines := ps'.map Prod.fst } iv vv ov (.slice (some ⟨g, 0, none⟩) n cap) :=
  ⟨own_setK h.ins (ls_ne hl h.ins (by decide)) _, own_setK h.vars (ls_ne hl h.vars (by decide)) _, own_setK h.outs (ls_ne hl h.outs (by decide)) _, ps', rfl, hl'⟩
theorem sm_at {p : ProgD} {ps : List LV} {k : Nat} (h : SmP p) (hps : ps.map Prod.fst = p.lines) (hk : k < ps.length) : ps[k].1.target.size ≤ 100 ∧ ps[k].1.terms.length ≤ 100 ∧ ∀ x ∈ ps[k].1.terms, fitTerm x := by
  have hm : ps[k].1 ∈ p.lines := by rw [← hps]; exact List.mem_map_of_mem (List.getElem_mem hk)
  exact ⟨h.tgts _ hm, h.terms _ hm⟩
theorem sm_set {p : ProgD} {ps : List LV} {k : Nat} {q : LV} (h : SmP p) (hps : ps.map Prod.fst = p.lines) (hq : q.1.target.size ≤ 100 ∧ q.1.terms.length ≤ 100 ∧ ∀ x ∈ q.1.terms, fitTerm x) : SmP { p with lines := (ps.set k q).map Prod.fst } := by
  have hl : p.lines.length = ps.length := by rw [← hps, List.length_map]
  refine sm_lines h (fun l hl' => ?_) (by rw [List.length_map, List.length_set]; have := h.linesl; omega) (by rw [List.length_map, List.length_set]; have := h.lines1; omega)
  obtain ⟨x, hx, rfl⟩ := List.mem_map.1 hl'
  rcases List.mem_or_eq_of_mem_set hx with h1 | h1
  · have hm : x.1 ∈ p.lines := by rw [← hps]; exact List.mem_map_of_mem h1
    exact ⟨h.tgts _ hm, h.terms _ hm⟩
  · rw [h1]; exact hq
/-- The state while inputs are appended. -/
structure InsAt (S : Nat) (w wr : World) (p : ProgD) (pc : Array Value) (pb : Nat) (v vv ov lv : Value) (L : List ByteArray) : Prop where
  row : wr.ownsRow (w.heap.size + 1) 9 1 v L.length (L.map Value.string)
  vars : wr.ownsRow (w.heap.size + 1) 9 1 vv p.vars.length (p.vars.map Value.string)
  outs : wr.ownsRow (w.heap.size + 1) 9 1 ov p.outputs.length (p.outputs.map Value.string)
  lines : ∃ ps : List LV, ps.map Prod.fst = p.lines ∧ OwnLs wr (w.heap.size + 1) lv ps
  apV : Sep v vv
  apO : Sep v ov
  len : L.length ≤ 100
  small : ∀ x ∈ L, x.size ≤ 100
  dr : Dr S w wr
  res : Blk wr w.heap.size #[.string ⟨#[]⟩, .slice none 0 0, .slice none 0 0, .slice none 0 0, .string ⟨#[]⟩, .slice none 0 0] 27
  box : Blk wr pb pc 27
theorem InsAt.dr' {S : Nat} {w wr w' : World} {p : ProgD} {pc : Array Value} {pb : Nat} {v vv ov lv : Value} {L : List ByteArray} (h : InsAt S w wr p pc pb v vv ov lv L) (hb : Dr S wr w') (hS : S < w.heap.size) (hp : pb ≠ S) : InsAt S w w' p pc pb v vv ov lv L := by
  obtain ⟨ps, e, hl⟩ := h.lines
  exact ⟨own_dr h.row hb (by omega), own_dr h.vars hb (by omega), own_dr h.outs hb (by omega), ⟨ps, e, hl.dr hb (by omega)⟩, h.apV, h.apO, h.len, h.small, h.dr.trans hb, h.res.dr hb (by omega), h.box.dr hb hp⟩
theorem OwnLs.gr {w w' : World} {base : Nat} {v u : Value} {n : Nat} {cs : List Value} {ps : List LV} (h : OwnLs w base v ps) (hu : w.ownsRow base 9 1 u n cs) (hg : w.grownBy w' u.ownBlock) : OwnLs w' base v ps :=
  ⟨own_grK h.row hg (own_ne_ownK hu h.row (by decide)), fun p hp => own_grK (h.terms p hp) hg (own_ne_ownK hu (h.terms p hp) (by decide))⟩
theorem InsAt.app {S : Nat} {w wr wa : World} {p : ProgD} {pc : Array Value} {pb : Nat} {v v' vv ov lv : Value} {L : List ByteArray} {s : ByteArray} (h : InsAt S w wr p pc pb v vv ov lv L) (hg : wr.grownBy wa v.ownBlock)
    (ho : wa.ownsRow (w.heap.size + 1) 9 1 v' (L.length + 1) (L.map Value.string ++ [.string s])) (hk : ∀ k, v'.ownBlock = some k → v.ownBlock = some k ∨ wr.heap.size ≤ k) (hs : s.size ≤ 100) (hl : L.length < 100) : InsAt S w wa p pc pb v' vv ov lv (L ++ [s]) := by
  obtain ⟨ps, e, hls⟩ := h.lines
  have hb := own_block_lt h.row
  refine ⟨own_snocS ho, own_sep h.vars hg h.apV, own_sep h.outs hg h.apO, ⟨ps, e, hls.gr h.row hg⟩, h.apV.grown hk (fun k hk => (own_block_lt h.vars k hk).2), h.apO.grown hk (fun k hk => (own_block_lt h.outs k hk).2), by rw [List.length_append]; simp; omega, fun x hx => ?_, h.dr.grown hg (fun k hk => by have := (hb k hk).1; omega), h.res.grown hg (fun e => by have := (hb _ e.symm).1; omega), h.box.grown hg (blk_ne_ownK h.box h.row (by decide))⟩
  rcases List.mem_append.1 hx with h1 | h1
  · exact h.small x h1
  · obtain rfl := List.mem_singleton.1 h1; exact hs
theorem OwnPg.setBlk {w : World} {base b o : Nat} {cs : Array Value} {p : ProgD} {iv vv ov lv u : Value} (h : OwnPg w base p iv vv ov lv) (hb : Blk w b cs 27) : OwnPg (w.setCell ⟨b, o, none⟩ u) base p iv vv ov lv := by
  obtain ⟨ps, e, hl⟩ := h.lines
  exact ⟨own_setK h.ins (blk_ne_ownK hb h.ins (by decide)) _, own_setK h.vars (blk_ne_ownK hb h.vars (by decide)) _, own_setK h.outs (blk_ne_ownK hb h.outs (by decide)) _, ps, e, own_setK hl.row (blk_ne_ownK hb hl.row (by decide)) _, fun q hq => own_setK (hl.terms q hq) (blk_ne_ownK hb (hl.terms q hq) (by decide)) _⟩
theorem InsAt.pg {S : Nat} {w wr : World} {p : ProgD} {pc : Array Value} {pb : Nat} {v vv ov lv : Value} {L : List ByteArray} (h : InsAt S w wr p pc pb v vv ov lv L) : OwnPg wr (w.heap.size + 1) { p with inputs := L } v vv ov lv := ⟨h.row, h.vars, h.outs, h.lines⟩
/-- The state while lines are appended. -/
structure LnsAt (S : Nat) (w wr : World) (p : ProgD) (pc : Array Value) (pb : Nat) (v iv vv ov : Value) (qs : List LV) : Prop where
  row : OwnLs wr (w.heap.size + 1) v qs
  ins : wr.ownsRow (w.heap.size + 1) 9 1 iv p.inputs.length (p.inputs.map Value.string)
  vars : wr.ownsRow (w.heap.size + 1) 9 1 vv p.vars.length (p.vars.map Value.string)
  outs : wr.ownsRow (w.heap.size + 1) 9 1 ov p.outputs.length (p.outputs.map Value.string)
  len1 : 1 ≤ qs.length
  len : qs.length ≤ 100
  small : ∀ q ∈ qs, q.1.target.size ≤ 100 ∧ q.1.terms.length ≤ 100 ∧ ∀ x ∈ q.1.terms, fitTerm x
  dr : Dr S w wr
  res : Blk wr w.heap.size #[.string ⟨#[]⟩, .slice none 0 0, .slice none 0 0, .slice none 0 0, .string ⟨#[]⟩, .slice none 0 0] 27
  box : Blk wr pb pc 27
theorem LnsAt.dr' {S : Nat} {w wr w' : World} {p : ProgD} {pc : Array Value} {pb : Nat} {v iv vv ov : Value} {qs : List LV} (h : LnsAt S w wr p pc pb v iv vv ov qs) (hb : Dr S wr w') (hS : S < w.heap.size) (hp : pb ≠ S) : LnsAt S w w' p pc pb v iv vv ov qs :=
  ⟨h.row.dr hb (by omega), own_dr h.ins hb (by omega), own_dr h.vars hb (by omega), own_dr h.outs hb (by omega), h.len1, h.len, h.small, h.dr.trans hb, h.res.dr hb (by omega), h.box.dr hb hp⟩
theorem LnsAt.app {S : Nat} {w wr wa : World} {p : ProgD} {pc : Array Value} {pb : Nat} {v v' iv vv ov : Value} {qs : List LV} {q : LV} (h : LnsAt S w wr p pc pb v iv vv ov qs) (hq : q ∈ qs) (hg : wr.grownBy wa v.ownBlock)
    (ho : wa.ownsRow (w.heap.size + 1) 45 2 v' (qs.length + 1) (qs.flatMap encLV ++ encLV q)) (hl : qs.length < 100) : LnsAt S w wa p pc pb v' iv vv ov (qs ++ [q]) := by
  have hb := own_block_lt h.row.row
  refine ⟨h.row.app (h.row.terms q hq) hg ho, own_grK h.ins hg (own_ne_ownK h.row.row h.ins (by decide)), own_grK h.vars hg (own_ne_ownK h.row.row h.vars (by decide)), own_grK h.outs hg (own_ne_ownK h.row.row h.outs (by decide)), by rw [List.length_append]; simp, by rw [List.length_append]; simp; omega, fun x hx => ?_, h.dr.grown hg (fun k hk => by have := (hb k hk).1; omega), h.res.grown hg (fun e => by have := (hb _ e.symm).1; omega), h.box.grown hg (blk_ne_ownK h.box h.row.row (by decide))⟩
  rcases List.mem_append.1 hx with h1 | h1
  · exact h.small x h1
  · obtain rfl := List.mem_singleton.1 h1; exact h.small _ hq
theorem LnsAt.pg {S : Nat} {w wr : World} {p : ProgD} {pc : Array Value} {pb : Nat} {v iv vv ov : Value} {qs : List LV} (h : LnsAt S w wr p pc pb v iv vv ov qs) : OwnPg wr (w.heap.size + 1) { p with lines := qs.map Prod.fst } iv vv ov v := ⟨h.ins, h.vars, h.outs, qs, rfl, h.row⟩
set_option maxHeartbeats 8000000 in
theorem drAny_any {B : Nat} (S : Nat) (w : World) (hs : Src B S w) : Calls Tryd.prog 52 #[.pointer (some ⟨S, 0, none⟩)] w (DrawPg S (fun _ _ _ _ => True) w) := by
  obtain ⟨i0, hi, hz0, hz1, hz2⟩ := info_parts infoStrC
  have hS := hs.lt
  have HS := Lib.hid hs; clear hs
  go_enter Tryd.func52, Tryd.ntmps52
  go_wp2_with fail
  refine (drPg_any S _ (Dr.src ?hs3 HS.out)).mono ?_
  case hs3 => exact (by repeat (first | with_reducible refine Dr.setCell ?_ (by first | (simp; done) | (simp; omega) | omega) _ | with_reducible refine Dr.alloc ?_ _ | with_reducible exact Dr.refl _ _ | with_reducible assumption | with_reducible refine Dr.trans ?_ (by with_reducible assumption) | with_reducible refine Dr.trans ?_ (Dr.of_new (by with_reducible assumption)) | with_reducible refine Dr.drewN ?_ _ | with_reducible refine Dr.drew ?_))
  rintro e w1 ⟨p, iv, vv, ov, lv, rfl, b1, OP, hsm, _, ⟨hv10, hi10⟩, hApV, hApO⟩
  have z1 := b1.size
  try simp only [World.size_alloc, World.size_drew, World.heap_drewN, World.size_setCell] at z1
  have y1 : S < w1.heap.size := by omega
  have D1 : Dr S w w1 := (by repeat (first | with_reducible refine Dr.setCell ?_ (by first | (simp; done) | (simp; omega) | omega) _ | with_reducible refine Dr.alloc ?_ _ | with_reducible exact Dr.refl _ _ | with_reducible assumption | with_reducible refine Dr.trans ?_ (by with_reducible assumption) | with_reducible refine Dr.trans ?_ (Dr.of_new (by with_reducible assumption)) | with_reducible refine Dr.drewN ?_ _ | with_reducible refine Dr.drew ?_))
  have KR1 := (Blk.alloc_at (w := w) (cs := #[.string ⟨#[]⟩, .slice none 0 0, .slice none 0 0, .slice none 0 0, .string ⟨#[]⟩, .slice none 0 0]) (T := 27) rfl).dr b1 (by omega)
  have zB1 := b1.size
  simp only [World.size_alloc] at zB1 OP
  clear b1
  obtain ⟨ia, ic, rfl⟩ := own_slice OP.ins
  obtain ⟨vz, vc, rfl⟩ := own_slice OP.vars
  obtain ⟨oa, oc, rfl⟩ := own_slice OP.outs
  obtain ⟨ps, hps, OL⟩ := OP.lines
  have hpl : p.lines.length = ps.length := by rw [← hps, List.length_map]
  obtain ⟨g, cap, hlv⟩ := own_form OL.row (by have := hsm.lines1; omega)
  subst hlv
  replace hpl := Lib.hid hpl
  go_wp2_with fail
  refine (l01Next_any S ps.length _ ((D1.alloc _).src HS.out)).mono ?_
  rintro e w2 ⟨r2, rfl, p2, q2, b2⟩
  obtain ⟨k, rfl⟩ := Int.eq_ofNat_of_zero_le p2; replace q2 : k < ps.length := (by have := hsm.lines1; have := hpl.out; omega)
  have z2 := b2.size
  try simp only [World.size_alloc, World.size_drew, World.heap_drewN, World.size_setCell] at z2
  try clear c1_0 f1_0 K1_0
  try clear c1_1 f1_1 K1_1
  try clear c1_2 f1_2 K1_2
  try clear c1_3 f1_3 K1_3
  try clear c1_4 f1_4 K1_4
  try clear c1_5 f1_5 K1_5
  have y2 : S < w2.heap.size := by omega
  have DQ2 := ((Dr.refl S w1).alloc (.cells #[.string p.name, .slice ia p.inputs.length ic, .slice vz p.vars.length vc, .slice oa p.outputs.length oc, .string p.guard, .slice (some ⟨g, 0, none⟩) ps.length cap] 27)).trans b2
  have KR2 := (KR1.alloc (.cells #[.string p.name, .slice ia p.inputs.length ic, .slice vz p.vars.length vc, .slice oa p.outputs.length oc, .string p.guard, .slice (some ⟨g, 0, none⟩) ps.length cap] 27)).dr b2 (by omega)
  have KP2 := (Blk.alloc_at (w := w1) (cs := #[.string p.name, .slice ia p.inputs.length ic, .slice vz p.vars.length vc, .slice oa p.outputs.length oc, .string p.guard, .slice (some ⟨g, 0, none⟩) ps.length cap]) (T := 27) rfl).dr b2 (by omega)
  clear b2 KR1
  go_wp2_with fail
  refine (l01Next_any S 30 _ ((D1.trans DQ2).src HS.out)).mono ?_
  rintro e w3 ⟨r3, rfl, p3, q3, b3⟩
  have z3 := b3.size
  try simp only [World.size_alloc, World.size_drew, World.heap_drewN, World.size_setCell] at z3
  try clear c2_0 f2_0 K2_0
  try clear c2_1 f2_1 K2_1
  try clear c2_2 f2_2 K2_2
  try clear c2_3 f2_3 K2_3
  try clear c2_4 f2_4 K2_4
  try clear c2_5 f2_5 K2_5
  try clear c1_0 f1_0 K1_0
  try clear c1_1 f1_1 K1_1
  try clear c1_2 f1_2 K1_2
  try clear c1_3 f1_3 K1_3
  try clear c1_4 f1_4 K1_4
  try clear c1_5 f1_5 K1_5
  have y3 : S < w3.heap.size := by omega
  have DQ3 := DQ2.trans b3
  have KR3 := KR2.dr b3 (by omega)
  have KP3 := KP2.dr b3 (by omega)
  clear b3 KR2 KP2 DQ2
  have hR3 := KR3.lt
  have hP3 := KP3.lt
  obtain ⟨cR, fR⟩ := KR3.rules
  obtain ⟨cP, fP⟩ := KP3.rules
  have zQ3 := DQ3.size
  have hRP : w.heap.size ≠ w1.heap.size := by omega
  have hPR : w1.heap.size ≠ w.heap.size := by omega
  rcases (by omega : r3 = 0 ∨ r3 = 1 ∨ r3 = 2 ∨ r3 = 3 ∨ r3 = 4 ∨ r3 = 5 ∨ r3 = 6 ∨ r3 = 7 ∨ 8 ≤ r3) with rfl | rfl | rfl | rfl | rfl | rfl | rfl | rfl | h8
  · skip
    go_wp2_with fail
    have oX := own_litS (w := w3) (b := w3.heap.size) (base := w3.heap.size) (n := 3) (T := 9) ([⟨#[]⟩, ⟨#[101, 110, 100]⟩, ⟨#[82, 105, 100, 101]⟩] : List ByteArray) (Nat.le_refl _) rfl rfl (by simp)
    refine (l01Next_any S 3 _ (((D1.trans DQ3).alloc _).src HS.out)).mono ?_
    rintro e w4 ⟨r4, rfl, p4, q4, b4⟩
    obtain ⟨n4, rfl⟩ := Int.eq_ofNat_of_zero_le p4; replace q4 : n4 < 3 := (by omega)
    have z4 := b4.size
    try simp only [World.size_alloc, World.size_drew, World.heap_drewN, World.size_setCell] at z4
    try clear c3_0 f3_0 K3_0
    try clear c3_1 f3_1 K3_1
    try clear c3_2 f3_2 K3_2
    try clear c3_3 f3_3 K3_3
    try clear c3_4 f3_4 K3_4
    try clear c3_5 f3_5 K3_5
    try clear c2_0 f2_0 K2_0
    try clear c2_1 f2_1 K2_1
    try clear c2_2 f2_2 K2_2
    try clear c2_3 f2_3 K2_3
    try clear c2_4 f2_4 K2_4
    try clear c2_5 f2_5 K2_5
    try clear c1_0 f1_0 K1_0
    try clear c1_1 f1_1 K1_1
    try clear c1_2 f1_2 K1_2
    try clear c1_3 f1_3 K1_3
    try clear c1_4 f1_4 K1_4
    try clear c1_5 f1_5 K1_5
    have y4 : S < w4.heap.size := by omega
    have DQ4 := (DQ3.alloc (.cells (([⟨#[]⟩, ⟨#[101, 110, 100]⟩, ⟨#[82, 105, 100, 101]⟩] : List ByteArray).map Value.string).toArray 9)).trans b4
    obtain ⟨xb, xo, hxe, hxb, hxc⟩ := rd_atS (own_rd (own_dr oX b4 (by omega))) (show n4 < ([⟨#[]⟩, ⟨#[101, 110, 100]⟩, ⟨#[82, 105, 100, 101]⟩] : List ByteArray).length from q4)
    cases hxe
    have hfs : (([⟨#[]⟩, ⟨#[101, 110, 100]⟩, ⟨#[82, 105, 100, 101]⟩] : List ByteArray)[n4]'q4).size ≤ 100 := smW0 _ (List.getElem_mem q4)
    generalize ([⟨#[]⟩, ⟨#[101, 110, 100]⟩, ⟨#[82, 105, 100, 101]⟩] : List ByteArray)[n4]'q4 = nm at hxc hfs
    rw [Nat.zero_add] at hxc
    have KR4 := (KR3.alloc (.cells (([⟨#[]⟩, ⟨#[101, 110, 100]⟩, ⟨#[82, 105, 100, 101]⟩] : List ByteArray).map Value.string).toArray 9)).dr b4 (by omega)
    have KP4 := (KP3.alloc (.cells (([⟨#[]⟩, ⟨#[101, 110, 100]⟩, ⟨#[82, 105, 100, 101]⟩] : List ByteArray).map Value.string).toArray 9)).dr b4 (by omega)
    clear oX b4 cR fR cP fP KR3 KP3 hR3 hP3
    have hR4 := KR4.lt
    have hP4 := KP4.lt
    obtain ⟨cR, fR⟩ := KR4.rules
    obtain ⟨cP, fP⟩ := KP4.rules
    have DE := DQ4.setCell (p := ⟨w1.heap.size, 0, none⟩) (Nat.le_refl _) (.string nm)
    have OE := OP.dr DE (by omega)
    go_wp2_with fail
    exact ret_pg rfl ((D1.trans DE).set6 (b := w.heap.size) (Nat.le_refl _) (.string nm) (.slice ia p.inputs.length ic) (.slice vz p.vars.length vc) (.slice oa p.outputs.length oc) (.string p.guard) (.slice (some ⟨g, 0, none⟩) ps.length cap)) (by omega) (((⟨OE.ins, OE.vars, OE.outs, OE.lines⟩ : OwnPg _ (w.heap.size + 1) { p with name := nm } _ _ _ _)).set6 (b := w.heap.size) (by omega) (.string nm) (.slice ia p.inputs.length ic) (.slice vz p.vars.length vc) (.slice oa p.outputs.length oc) (.string p.guard) (.slice (some ⟨g, 0, none⟩) ps.length cap)) (sm_name hsm hfs) trivial (by simp [results, Tryd.results52, go_sem, cR, fR, hR4, hP4, hRP, hPR, cP])
  · have OE := OP.dr DQ3 (by omega)
    go_wp2_with fail
    exact ret_pg rfl ((D1.trans DQ3).set6 (b := w.heap.size) (Nat.le_refl _) (.string p.name) (.slice none 0 0) (.slice vz p.vars.length vc) (.slice oa p.outputs.length oc) (.string ⟨#[]⟩) (.slice (some ⟨g, 0, none⟩) ps.length cap)) (by omega) (((⟨World.ownsRow_nil _ _ _ _, OE.vars, OE.outs, OE.lines⟩ : OwnPg _ (w.heap.size + 1) { p with inputs := [], guard := ⟨#[]⟩ } _ _ _ _)).set6 (b := w.heap.size) (by omega) (.string p.name) (.slice none 0 0) (.slice vz p.vars.length vc) (.slice oa p.outputs.length oc) (.string ⟨#[]⟩) (.slice (some ⟨g, 0, none⟩) ps.length cap)) (sm_noin hsm) trivial (by simp [results, Tryd.results52, go_sem, cR, fR, hR3])
  · skip
    go_wp2_with fail
    have oX := own_litS (w := w3) (b := w3.heap.size) (base := w3.heap.size) (n := 3) (T := 9) ([⟨#[97, 110, 100]⟩, ⟨#[120]⟩, ⟨#[110, 111, 119, 104, 101, 114, 101]⟩] : List ByteArray) (Nat.le_refl _) rfl rfl (by simp)
    refine (l01Next_any S 3 _ (((D1.trans DQ3).alloc _).src HS.out)).mono ?_
    rintro e w4 ⟨r4, rfl, p4, q4, b4⟩
    obtain ⟨n4, rfl⟩ := Int.eq_ofNat_of_zero_le p4; replace q4 : n4 < 3 := (by omega)
    have z4 := b4.size
    try simp only [World.size_alloc, World.size_drew, World.heap_drewN, World.size_setCell] at z4
    try clear c3_0 f3_0 K3_0
    try clear c3_1 f3_1 K3_1
    try clear c3_2 f3_2 K3_2
    try clear c3_3 f3_3 K3_3
    try clear c3_4 f3_4 K3_4
    try clear c3_5 f3_5 K3_5
    try clear c2_0 f2_0 K2_0
    try clear c2_1 f2_1 K2_1
    try clear c2_2 f2_2 K2_2
    try clear c2_3 f2_3 K2_3
    try clear c2_4 f2_4 K2_4
    try clear c2_5 f2_5 K2_5
    try clear c1_0 f1_0 K1_0
    try clear c1_1 f1_1 K1_1
    try clear c1_2 f1_2 K1_2
    try clear c1_3 f1_3 K1_3
    try clear c1_4 f1_4 K1_4
    try clear c1_5 f1_5 K1_5
    have y4 : S < w4.heap.size := by omega
    have DQ4 := (DQ3.alloc (.cells (([⟨#[97, 110, 100]⟩, ⟨#[120]⟩, ⟨#[110, 111, 119, 104, 101, 114, 101]⟩] : List ByteArray).map Value.string).toArray 9)).trans b4
    obtain ⟨xb, xo, hxe, hxb, hxc⟩ := rd_atS (own_rd (own_dr oX b4 (by omega))) (show n4 < ([⟨#[97, 110, 100]⟩, ⟨#[120]⟩, ⟨#[110, 111, 119, 104, 101, 114, 101]⟩] : List ByteArray).length from q4)
    cases hxe
    have hfs : (([⟨#[97, 110, 100]⟩, ⟨#[120]⟩, ⟨#[110, 111, 119, 104, 101, 114, 101]⟩] : List ByteArray)[n4]'q4).size ≤ 100 := smW2 _ (List.getElem_mem q4)
    generalize ([⟨#[97, 110, 100]⟩, ⟨#[120]⟩, ⟨#[110, 111, 119, 104, 101, 114, 101]⟩] : List ByteArray)[n4]'q4 = nm at hxc hfs
    rw [Nat.zero_add] at hxc
    have KR4 := (KR3.alloc (.cells (([⟨#[97, 110, 100]⟩, ⟨#[120]⟩, ⟨#[110, 111, 119, 104, 101, 114, 101]⟩] : List ByteArray).map Value.string).toArray 9)).dr b4 (by omega)
    have KP4 := (KP3.alloc (.cells (([⟨#[97, 110, 100]⟩, ⟨#[120]⟩, ⟨#[110, 111, 119, 104, 101, 114, 101]⟩] : List ByteArray).map Value.string).toArray 9)).dr b4 (by omega)
    clear oX b4 cR fR cP fP KR3 KP3 hR3 hP3
    have hR4 := KR4.lt
    have hP4 := KP4.lt
    obtain ⟨cR, fR⟩ := KR4.rules
    obtain ⟨cP, fP⟩ := KP4.rules
    have DE := DQ4.setCell (p := ⟨w1.heap.size, 4, none⟩) (Nat.le_refl _) (.string nm)
    have OE := OP.dr DE (by omega)
    go_wp2_with fail
    exact ret_pg rfl ((D1.trans DE).set6 (b := w.heap.size) (Nat.le_refl _) (.string p.name) (.slice ia p.inputs.length ic) (.slice vz p.vars.length vc) (.slice oa p.outputs.length oc) (.string nm) (.slice (some ⟨g, 0, none⟩) ps.length cap)) (by omega) (((⟨OE.ins, OE.vars, OE.outs, OE.lines⟩ : OwnPg _ (w.heap.size + 1) { p with guard := nm } _ _ _ _)).set6 (b := w.heap.size) (by omega) (.string p.name) (.slice ia p.inputs.length ic) (.slice vz p.vars.length vc) (.slice oa p.outputs.length oc) (.string nm) (.slice (some ⟨g, 0, none⟩) ps.length cap)) (sm_guard hsm hfs) trivial (by simp [results, Tryd.results52, go_sem, cR, fR, hR4, hP4, hRP, hPR, cP])
  case inr.inr.inr.inr.inr.inr.inr.inr =>
    have e0 : (r3 == 0) = false := by simp; omega
    have e1 : (r3 == 1) = false := by simp; omega
    have e2 : (r3 == 2) = false := by simp; omega
    have e3 : (r3 == 3) = false := by simp; omega
    have e4 : (r3 == 4) = false := by simp; omega
    have e5 : (r3 == 5) = false := by simp; omega
    have e6 : (r3 == 6) = false := by simp; omega
    have e7 : (r3 == 7) = false := by simp; omega
    have OE := OP.dr DQ3 (by omega)
    go_wp2_with fail
    exact ret_pg rfl ((D1.trans DQ3).set6 (b := w.heap.size) (Nat.le_refl _) (.string p.name) (.slice ia p.inputs.length ic) (.slice vz p.vars.length vc) (.slice oa p.outputs.length oc) (.string p.guard) (.slice (some ⟨g, 0, none⟩) ps.length cap)) (by omega) ((OE).set6 (b := w.heap.size) (by omega) (.string p.name) (.slice ia p.inputs.length ic) (.slice vz p.vars.length vc) (.slice oa p.outputs.length oc) (.string p.guard) (.slice (some ⟨g, 0, none⟩) ps.length cap)) hsm trivial (by simp [results, Tryd.results52, go_sem, cR, fR, hR3])
  case inr.inr.inr.inr.inr.inr.inr.inl =>
    have OP3 := OP.dr DQ3 (by omega)
    have RV := Lib.hid (own_rd OP3.vars)
    have hvl := hsm.varsl
    have own0 : (w3.alloc (.cells #[] 9)).ownsRow w3.heap.size 9 1 (.slice (some ⟨w3.heap.size, 0, none⟩) 0 0) 0 [] := own_empty (Nat.le_refl _)
    go_wp2_with (first | ((at_builtin; refine wpList_append_rd rfl _ _ 24 rfl (w3.heap.size) 9 i0 (.string ⟨#[]⟩) 1 16 Tryd.underlying24 hi hz0 hz1 hz2 rfl (by decide) _ _ _ rfl (own0) _ (p.vars.length) (p.vars.map Value.string) rfl (Rd.new RV.out (by repeat (first | with_reducible exact New.refl _ | with_reducible assumption | with_reducible refine New.drew ?_ | with_reducible refine New.drewN ?_ _ | with_reducible refine New.alloc ?_ _ | with_reducible refine New.setCell ?_ (by first | (simp; done) | (simp; omega) | omega) _ | with_reducible refine New.trans ?_ (by with_reducible assumption)))) (by simp) (by intro u hu; obtain ⟨y, _, rfl⟩ := List.mem_map.1 hu; rfl) (by unfold maxLen; omega) (by omega) (by first | (simp; done) | (simp; omega) | omega) ?_; intro va wa howna hgra); have n4 : New w3 wa := New.grown ((New.refl w3).alloc _) hgra (fun q hq => (own_block_lt own0 q hq).1); have oV : wa.ownsRow w3.heap.size 9 1 va p.vars.length (p.vars.map Value.string) := (by simpa using howna); clear howna hgra own0; rename Value => v4; rename World => w4))
    have zn4 := n4.size
    have oX := own_litS (w := w4) (b := w4.heap.size) (base := w4.heap.size) (n := 4) (T := 9) ([⟨#[97]⟩, ⟨#[113]⟩, ⟨#[119]⟩, ⟨#[111, 110]⟩] : List ByteArray) (Nat.le_refl _) rfl rfl (by simp)
    have DQ4 := DQ3.trans (Dr.of_new n4)
    have KR4 := KR3.new n4
    have KP4 := KP3.new n4
    clear cR fR cP fP KR3 KP3 hR3 hP3
    refine (l01Next_any S 4 _ (((D1.trans DQ4).alloc _).src HS.out)).mono ?_
    rintro e w5 ⟨r5, rfl, p5, q5, b5⟩
    obtain ⟨n5, rfl⟩ := Int.eq_ofNat_of_zero_le p5; replace q5 : n5 < 4 := (by omega)
    have z5 := b5.size
    try simp only [World.size_alloc, World.size_drew, World.heap_drewN, World.size_setCell] at z5
    try clear c4_0 f4_0 K4_0
    try clear c4_1 f4_1 K4_1
    try clear c4_2 f4_2 K4_2
    try clear c4_3 f4_3 K4_3
    try clear c4_4 f4_4 K4_4
    try clear c4_5 f4_5 K4_5
    try clear c3_0 f3_0 K3_0
    try clear c3_1 f3_1 K3_1
    try clear c3_2 f3_2 K3_2
    try clear c3_3 f3_3 K3_3
    try clear c3_4 f3_4 K3_4
    try clear c3_5 f3_5 K3_5
    try clear c2_0 f2_0 K2_0
    try clear c2_1 f2_1 K2_1
    try clear c2_2 f2_2 K2_2
    try clear c2_3 f2_3 K2_3
    try clear c2_4 f2_4 K2_4
    try clear c2_5 f2_5 K2_5
    have y5 : S < w5.heap.size := by omega
    have DQ5 := (DQ4.alloc (.cells (([⟨#[97]⟩, ⟨#[113]⟩, ⟨#[119]⟩, ⟨#[111, 110]⟩] : List ByteArray).map Value.string).toArray 9)).trans b5
    obtain ⟨xb, xo, hxe, hxb, hxc⟩ := rd_atS (own_rd (own_dr oX b5 (by omega))) (show n5 < ([⟨#[97]⟩, ⟨#[113]⟩, ⟨#[119]⟩, ⟨#[111, 110]⟩] : List ByteArray).length from q5)
    cases hxe
    have hfs : (([⟨#[97]⟩, ⟨#[113]⟩, ⟨#[119]⟩, ⟨#[111, 110]⟩] : List ByteArray)[n5]'q5).size ≤ 100 := smW7 _ (List.getElem_mem q5)
    generalize ([⟨#[97]⟩, ⟨#[113]⟩, ⟨#[119]⟩, ⟨#[111, 110]⟩] : List ByteArray)[n5]'q5 = nm at hxc hfs
    rw [Nat.zero_add] at hxc
    have oV5 := own_dr (oV.alloc (.cells (([⟨#[97]⟩, ⟨#[113]⟩, ⟨#[119]⟩, ⟨#[111, 110]⟩] : List ByteArray).map Value.string).toArray 9)) b5 (by omega)
    have KR5 := (KR4.alloc (.cells (([⟨#[97]⟩, ⟨#[113]⟩, ⟨#[119]⟩, ⟨#[111, 110]⟩] : List ByteArray).map Value.string).toArray 9)).dr b5 (by omega)
    have KP5 := (KP4.alloc (.cells (([⟨#[97]⟩, ⟨#[113]⟩, ⟨#[119]⟩, ⟨#[111, 110]⟩] : List ByteArray).map Value.string).toArray 9)).dr b5 (by omega)
    clear oX b5 oV KR4 KP4 DQ4
    have hR5 := KR5.lt
    have hP5 := KP5.lt
    have zQ5 := DQ5.size
    go_wp2_with (first | ((at_builtin; refine wpList_append_own _ rfl _ _ 24 rfl (w3.heap.size) 9 i0 (.string ⟨#[]⟩) 1 16 Tryd.underlying24 hi hz0 hz1 hz2 rfl (by decide) _ _ _ rfl (oV5.alloc _) ⟨w5.heap.size, 0, none⟩ 1 1 [.string (nm)] rfl rfl (by intro j u hj; match j, hj with | 0, hj => simp at hj; subst hj; first | (simp [Addr.add]; done) | exact alloc_one rfl) (by intro u hu; simp at hu; subst hu; rfl) (by unfold maxLen; omega) (by omega) (by first | (simp; done) | (simp; omega) | omega) ?_; intro va wa howna hgra _); have nG := Below.grown ((Below.refl w3.heap.size w5).alloc (by omega) (.cells #[.string nm] 9)) hgra (by simp; omega) (fun q hq => by have := (own_block_lt oV5 q hq).1; exact this); have oW := own_snocS howna; obtain ⟨ya, yc, rfl⟩ := own_slice oW; have KR6 : Blk wa w.heap.size _ _ := (nG.block w.heap.size (by omega)).trans KR5; have KP6 : Blk wa w1.heap.size _ _ := (nG.block w1.heap.size (by omega)).trans KP5; have hR6 := KR6.lt; have hP6 := KP6.lt; obtain ⟨cR, fR⟩ := KR6.rules; obtain ⟨cP, fP⟩ := KP6.rules; clear hgra howna))
    have hql : (p.vars ++ [nm]).length = p.vars.length + 1 := by simp
    have DE := (DQ5.below (show Below w1.heap.size w5 _ from Below.mono nG (by omega))).setCell (p := ⟨w1.heap.size, 2, none⟩) (Nat.le_refl _) (.slice ya (p.vars.length + 1) yc)
    have OE := OP.dr DE (by omega)
    have oW9 := own_base (base' := w.heap.size + 1) (own_val (v' := .slice ya (p.vars.length + 1) yc) (ownsRow_setCell_above oW (a := ⟨w1.heap.size, 2, none⟩) (by dsimp only; omega) (.slice ya (p.vars.length + 1) yc)) (by rw [hql])) (by omega)
    exact ret_pg rfl ((D1.trans DE).set6 (b := w.heap.size) (Nat.le_refl _) (.string p.name) (.slice ia p.inputs.length ic) (.slice ya (p.vars.length + 1) yc) (.slice oa p.outputs.length oc) (.string p.guard) (.slice (some ⟨g, 0, none⟩) ps.length cap)) (by omega) (((⟨OE.ins, oW9, OE.outs, OE.lines⟩ : OwnPg _ (w.heap.size + 1) { p with vars := p.vars ++ [nm] } _ _ _ _)).set6 (b := w.heap.size) (by omega) (.string p.name) (.slice ia p.inputs.length ic) (.slice ya (p.vars.length + 1) yc) (.slice oa p.outputs.length oc) (.string p.guard) (.slice (some ⟨g, 0, none⟩) ps.length cap)) (sm_vars hsm (fun x hx => by rcases List.mem_append.1 hx with h | h; exact hsm.vars x h; obtain rfl := List.mem_singleton.1 h; exact hfs) (by rw [hql]; omega)) trivial (by simp [results, Tryd.results52, go_sem, cR, fR, hR6, hP6, hRP, hPR, cP])
  case inr.inr.inr.inl =>
    have HSR := Lib.hid ((D1.trans DQ3).src HS.out)
    have OP3 := OP.dr DQ3 (by omega)
    have OL3 := OL.dr DQ3 (by omega)
    have hgz := own_block_lt OL3.row g rfl
    have hcx : w3.cell? ⟨g, k * 2, none⟩ = some (.string ps[k].1.target) := by
      rw [OL3.row.cellAt (k * 2) (by omega)]
      exact flat_at encLV 2 encLV_len ps k q2 0 (by omega)
    have hSg : S < g := by omega
    have hSP : S < w1.heap.size := by omega
    go_wp2_with fail
    refine RD.wp_facts (S := S) [fun X _ => X = .pointer (some ⟨w1.heap.size, 5, none⟩), fun X _ => X = .slice (some ⟨g, 0, none⟩) ps.length cap, fun X _ => X = .int .i64 (k : Int), fun X W' => ∃ z, X = .slice (some ⟨z, 0, none⟩) 4 4 ∧ w3.heap.size ≤ z ∧ Blk W' z #[.string ⟨#[]⟩, .string ⟨#[111, 114]⟩, .string ⟨#[97]⟩, .string ⟨#[113]⟩] 9, fun X _ => X = .pointer (some ⟨S, 0, none⟩), fun X W' => ∃ r : Nat, X = .int .i64 (r : Int) ∧ r < 4, fun X W' => ∃ (z : Nat) (r : Nat), X = .pointer (some ⟨z, r, none⟩) ∧ w3.heap.size ≤ z ∧ r < 4 ∧ Blk W' z #[.string ⟨#[]⟩, .string ⟨#[111, 114]⟩, .string ⟨#[97]⟩, .string ⟨#[113]⟩] 9, fun X W' => ∃ s : ByteArray, X = .string s ∧ s.size ≤ 100, fun X _ => X = .pointer (some ⟨g, k * 2, none⟩), fun X _ => X = .pointer (some ⟨g, k * 2, none⟩)] (by kernel_rfl) (by kernel_rfl) ⟨RD.stable_eq _, RD.stable_eq _, RD.stable_eq _, fun X w0 w1 hn ⟨z48, t48, y48, k48⟩ => ⟨z48, t48, y48, k48.dr hn (by omega)⟩, RD.stable_eq _, fun X w0 w1 hn ⟨r50, t50, p50⟩ => ⟨r50, t50, p50⟩, fun X w0 w1 hn ⟨z51, r51, t51, y51, p51, k51⟩ => ⟨z51, r51, t51, y51, p51, k51.dr hn (by omega)⟩, fun X w0 w1 hn ⟨s52, t52, p52⟩ => ⟨s52, t52, p52⟩, RD.stable_eq _, RD.stable_eq _, trivial⟩ ?_ ?_
    · refine ⟨?_, ?_, ?_, ?_, ?_, ?_, ?_, ?_, ?_, ?_, trivial⟩
      · intro a w9 hw ho hk
        refine .inl ⟨by rfl, ?_⟩
        have t2 := ho 3 rfl
        dsimp at t2
        try with_reducible replace hw := Dr.undrawN hw
        try with_reducible replace hw := Dr.undraw hw
        obtain ⟨c, d, f', g'⟩ := hw.rules
        go_simp
        exact Dr.refl _ _
      · intro a w9 hw ho hk
        refine .inl ⟨by rfl, ?_⟩
        have t45 : a.tmps[45]?.getD undef = .pointer (some ⟨w1.heap.size, 5, none⟩) := hk 0 45 (by kernel_rfl) rfl
        try with_reducible replace hw := Dr.undrawN hw
        try with_reducible replace hw := Dr.undraw hw
        obtain ⟨c, d, f', g'⟩ := hw.rules
        go_simp
        exact Dr.refl _ _
      · intro a w9 hw ho hk
        refine .inl ⟨by rfl, ?_⟩
        have t2 := ho 4 rfl
        dsimp at t2
        try with_reducible replace hw := Dr.undrawN hw
        try with_reducible replace hw := Dr.undraw hw
        obtain ⟨c, d, f', g'⟩ := hw.rules
        go_simp
        exact Dr.refl _ _
      · intro a w9 hw ho hk
        refine .inl ⟨by rfl, ?_⟩
        have hz9 := hw.size; go_simp; first | exact ⟨(Dr.refl _ _).alloc _, _, rfl, _, rfl, hz9, Blk.alloc_at rfl⟩ | exact ⟨(Dr.refl _ _).alloc _, _, by simp, hz9, Blk.alloc_at rfl⟩
      · intro a w9 hw ho hk
        refine .inl ⟨by rfl, ?_⟩
        have t2 := ho 0 rfl
        dsimp at t2
        try with_reducible replace hw := Dr.undrawN hw
        try with_reducible replace hw := Dr.undraw hw
        obtain ⟨c, d, f', g'⟩ := hw.rules
        go_simp
        exact Dr.refl _ _
      · intro a w9 hw ho hk
        refine .inl ⟨by rfl, ?_⟩
        have t49 : a.tmps[49]?.getD undef = .pointer (some ⟨S, 0, none⟩) := hk 4 49 (by kernel_rfl) rfl
        go_simp
        refine (l01Next_any S 4 _ (hw.src HSR.out)).mono ?_; rintro e w2 ⟨r, rfl, h0, h1, hb⟩
        obtain ⟨q, rfl⟩ := Int.eq_ofNat_of_zero_le h0; first | exact ⟨hb, _, rfl, q, rfl, by omega⟩ | exact ⟨hb, q, by simp, by omega⟩
      · intro a w9 hw ho hk
        refine .inl ⟨by rfl, ?_⟩
        obtain ⟨z48, t48, y48, k48⟩ : ∃ z, (a.tmps[48]?.getD undef) = .slice (some ⟨z, 0, none⟩) 4 4 ∧ w3.heap.size ≤ z ∧ Blk w9 z #[.string ⟨#[]⟩, .string ⟨#[111, 114]⟩, .string ⟨#[97]⟩, .string ⟨#[113]⟩] 9 := hk 3 48 (by kernel_rfl) rfl
        obtain ⟨r50, t50, p50⟩ : ∃ r : Nat, (a.tmps[50]?.getD undef) = .int .i64 (r : Int) ∧ r < 4 := hk 5 50 (by kernel_rfl) rfl
        have p9 : (r50 : Int) < 4 := (by omega); go_simp; first | exact ⟨Dr.refl _ _, _, rfl, z48, r50, rfl, y48, p50, k48⟩ | exact ⟨Dr.refl _ _, z48, r50, by simp, y48, p50, k48⟩
      · intro a w9 hw ho hk
        refine .inl ⟨by rfl, ?_⟩
        obtain ⟨z51, r51, t51, y51, p51, k51⟩ : ∃ (z : Nat) (r : Nat), (a.tmps[51]?.getD undef) = .pointer (some ⟨z, r, none⟩) ∧ w3.heap.size ≤ z ∧ r < 4 ∧ Blk w9 z #[.string ⟨#[]⟩, .string ⟨#[111, 114]⟩, .string ⟨#[97]⟩, .string ⟨#[113]⟩] 9 := hk 6 51 (by kernel_rfl) rfl
        obtain ⟨c9, f9⟩ := k51.rules; rcases (by omega : r51 = 0 ∨ r51 = 1 ∨ r51 = 2 ∨ r51 = 3) with rfl | rfl | rfl | rfl <;> (go_simp; first | exact ⟨Dr.refl _ _, _, rfl, _, rfl, by decide⟩ | exact ⟨Dr.refl _ _, _, by simp, by decide⟩)
      · intro a w9 hw ho hk
        refine .inl ⟨by rfl, ?_⟩
        have t46 : a.tmps[46]?.getD undef = .slice (some ⟨g, 0, none⟩) ps.length cap := hk 1 46 (by kernel_rfl) rfl
        have t47 : a.tmps[47]?.getD undef = .int .i64 (k : Int) := hk 2 47 (by kernel_rfl) rfl
        go_simp
        exact Dr.refl _ _
      · intro a w9 hw ho hk
        refine .inl ⟨by rfl, ?_⟩
        have t53 : a.tmps[53]?.getD undef = .pointer (some ⟨g, k * 2, none⟩) := hk 8 53 (by kernel_rfl) rfl
        go_simp
        exact Dr.refl _ _
    intro w6 b6
    rintro _ rfl
    rintro _ rfl
    rintro _ rfl
    rintro _ ⟨z48, rfl, y48, k48⟩
    rintro _ rfl
    rintro _ ⟨r50, rfl, p50⟩
    rintro _ ⟨z51, r51, rfl, y51, p51, k51⟩
    rintro _ ⟨s52, rfl, p52⟩
    rintro _ rfl
    rintro _ rfl
    have z6 := b6.size
    try simp only [World.size_alloc, World.size_drew, World.heap_drewN, World.size_setCell] at z6
    try clear c5_0 f5_0 K5_0
    try clear c5_1 f5_1 K5_1
    try clear c5_2 f5_2 K5_2
    try clear c5_3 f5_3 K5_3
    try clear c5_4 f5_4 K5_4
    try clear c5_5 f5_5 K5_5
    try clear c4_0 f4_0 K4_0
    try clear c4_1 f4_1 K4_1
    try clear c4_2 f4_2 K4_2
    try clear c4_3 f4_3 K4_3
    try clear c4_4 f4_4 K4_4
    try clear c4_5 f4_5 K4_5
    try clear c3_0 f3_0 K3_0
    try clear c3_1 f3_1 K3_1
    try clear c3_2 f3_2 K3_2
    try clear c3_3 f3_3 K3_3
    try clear c3_4 f3_4 K3_4
    try clear c3_5 f3_5 K3_5
    have y6 : S < w6.heap.size := by omega
    simp only [RD.EndAll, List.nil_append, List.cons_append, List.length_cons, List.length_nil, Nat.zero_add, Nat.reduceAdd, List.take_succ_cons, List.take_zero, List.drop_succ_cons, List.drop_zero, RD.putAll, Act.put, List.setIfInBounds_toArray, List.set_cons_succ, List.set_cons_zero]
    have DQ6 := DQ3.trans b6
    have OP6 := OP.dr DQ6 (by omega)
    have OL6 := OL.dr DQ6 (by omega)
    have hcx6 : w6.cell? ⟨g, k * 2, none⟩ = some (.string ps[k].1.target) := by
      rw [OL6.row.cellAt (k * 2) (by omega)]
      exact flat_at encLV 2 encLV_len ps k q2 0 (by omega)
    have hfx6 := OL6.row.frozenAt (k * 2)
    have OL7 := OL6.set0 (s := s52) q2
    have OE := OP6.setLines OL6 OL7
    have hgz6 := own_block_lt OL6.row g rfl
    have hlen : (ps.set k ((⟨s52, ps[k].1.terms⟩ : LineD), ps[k].2)).length = ps.length := by simp
    have KR6 := KR3.dr b6 (by omega)
    have KP6 := KP3.dr b6 (by omega)
    clear cR fR cP fP KR3 KP3 hR3 hP3 b6 hcx OP3 OL3
    have hR6 := KR6.lt
    have hP6 := KP6.lt
    obtain ⟨cR, fR⟩ := KR6.rules
    obtain ⟨cP, fP⟩ := KP6.rules
    have zQ6 := DQ6.size
    have hgP : g ≠ w1.heap.size := by have := (own_block_lt OL.row g rfl).2; omega
    have hPg : w1.heap.size ≠ g := fun e => hgP e.symm
    have hgR : g ≠ w.heap.size := by omega
    have hRg : w.heap.size ≠ g := by omega
    have DE := (D1.trans DQ6).setCell (p := ⟨g, k * 2, none⟩) (by dsimp only; omega) (.string s52)
    clear OL7 OL6
    go_wp2_with fail
    exact ret_pg rfl ((DE).set6 (b := w.heap.size) (Nat.le_refl _) (.string p.name) (.slice ia p.inputs.length ic) (.slice vz p.vars.length vc) (.slice oa p.outputs.length oc) (.string p.guard) (.slice (some ⟨g, 0, none⟩) ps.length cap)) (by omega) ((OE).set6 (b := w.heap.size) (by omega) (.string p.name) (.slice ia p.inputs.length ic) (.slice vz p.vars.length vc) (.slice oa p.outputs.length oc) (.string p.guard) (.slice (some ⟨g, 0, none⟩) ps.length cap)) (sm_set hsm hps ⟨p52, (sm_at hsm hps q2).2⟩) trivial (by simp [results, Tryd.results52, go_sem, cR, fR, hR6, hP6, hRP, hPR, hgR, hRg, hgP, hPg, cP])
  case inr.inr.inr.inr.inl =>
    have HSR := Lib.hid ((D1.trans DQ3).src HS.out)
    have OP3 := OP.dr DQ3 (by omega)
    have OL3 := OL.dr DQ3 (by omega)
    have hgz := own_block_lt OL3.row g rfl
    have hcx : w3.cell? ⟨g, k * 2 + 1, none⟩ = some ps[k].2 := by
      rw [OL3.row.cellAt (k * 2 + 1) (by omega)]
      exact flat_at encLV 2 encLV_len ps k q2 1 (by omega)
    have hSg : S < g := by omega
    have hSP : S < w1.heap.size := by omega
    go_wp2_with fail
    refine RD.wp_facts (S := S) [fun X _ => X = .pointer (some ⟨w1.heap.size, 5, none⟩), fun X _ => X = .slice (some ⟨g, 0, none⟩) ps.length cap, fun X _ => X = .int .i64 (k : Int), fun X _ => X = .pointer (some ⟨S, 0, none⟩), fun X W' => ∃ (ad : Option Addr) (c : Nat) (s : List ETerm), X = .slice ad s.length c ∧ W'.ownsRow w3.heap.size 43 3 (.slice ad s.length c) s.length (s.flatMap encTerm) ∧ s.length ≤ 50 ∧ ∀ x ∈ s, fitTerm x, fun X _ => X = .pointer (some ⟨g, k * 2, none⟩), fun X _ => X = .pointer (some ⟨g, k * 2 + 1, none⟩)] (by kernel_rfl) (by kernel_rfl) ⟨RD.stable_eq _, RD.stable_eq _, RD.stable_eq _, RD.stable_eq _, fun X w0 w1 hn ⟨d61, c61, s61, t61, o61, l61, q61⟩ => ⟨d61, c61, s61, t61, own_dr o61 hn (by omega), l61, q61⟩, RD.stable_eq _, RD.stable_eq _, trivial⟩ ?_ ?_
    · refine ⟨?_, ?_, ?_, ?_, ?_, ?_, ?_, trivial⟩
      · intro a w9 hw ho hk
        refine .inl ⟨by rfl, ?_⟩
        have t2 := ho 3 rfl
        dsimp at t2
        try with_reducible replace hw := Dr.undrawN hw
        try with_reducible replace hw := Dr.undraw hw
        obtain ⟨c, d, f', g'⟩ := hw.rules
        go_simp
        exact Dr.refl _ _
      · intro a w9 hw ho hk
        refine .inl ⟨by rfl, ?_⟩
        have t57 : a.tmps[57]?.getD undef = .pointer (some ⟨w1.heap.size, 5, none⟩) := hk 0 57 (by kernel_rfl) rfl
        try with_reducible replace hw := Dr.undrawN hw
        try with_reducible replace hw := Dr.undraw hw
        obtain ⟨c, d, f', g'⟩ := hw.rules
        go_simp
        exact Dr.refl _ _
      · intro a w9 hw ho hk
        refine .inl ⟨by rfl, ?_⟩
        have t2 := ho 4 rfl
        dsimp at t2
        try with_reducible replace hw := Dr.undrawN hw
        try with_reducible replace hw := Dr.undraw hw
        obtain ⟨c, d, f', g'⟩ := hw.rules
        go_simp
        exact Dr.refl _ _
      · intro a w9 hw ho hk
        refine .inl ⟨by rfl, ?_⟩
        have t2 := ho 0 rfl
        dsimp at t2
        try with_reducible replace hw := Dr.undrawN hw
        try with_reducible replace hw := Dr.undraw hw
        obtain ⟨c, d, f', g'⟩ := hw.rules
        go_simp
        exact Dr.refl _ _
      · intro a w9 hw ho hk
        refine .inl ⟨by rfl, ?_⟩
        have t60 : a.tmps[60]?.getD undef = .pointer (some ⟨S, 0, none⟩) := hk 3 60 (by kernel_rfl) rfl
        go_simp
        refine (drExp_any S _ (hw.src HSR.out)).mono ?_; rintro e w2 ⟨v, s, rfl, hb, o, l, q⟩
        have hz9 := hw.size; obtain ⟨a9, c9, rfl⟩ := own_slice o; first | exact ⟨hb, _, rfl, a9, c9, s, rfl, own_base o hz9, l, q⟩ | exact ⟨hb, a9, c9, s, by simp, own_base o hz9, l, q⟩
      · intro a w9 hw ho hk
        refine .inl ⟨by rfl, ?_⟩
        have t58 : a.tmps[58]?.getD undef = .slice (some ⟨g, 0, none⟩) ps.length cap := hk 1 58 (by kernel_rfl) rfl
        have t59 : a.tmps[59]?.getD undef = .int .i64 (k : Int) := hk 2 59 (by kernel_rfl) rfl
        go_simp
        exact Dr.refl _ _
      · intro a w9 hw ho hk
        refine .inl ⟨by rfl, ?_⟩
        have t62 : a.tmps[62]?.getD undef = .pointer (some ⟨g, k * 2, none⟩) := hk 5 62 (by kernel_rfl) rfl
        go_simp
        exact Dr.refl _ _
    intro w6 b6
    rintro _ rfl
    rintro _ rfl
    rintro _ rfl
    rintro _ rfl
    rintro _ ⟨d61, c61, s61, rfl, o61, l61, q61⟩
    rintro _ rfl
    rintro _ rfl
    have z6 := b6.size
    try simp only [World.size_alloc, World.size_drew, World.heap_drewN, World.size_setCell] at z6
    try clear c5_0 f5_0 K5_0
    try clear c5_1 f5_1 K5_1
    try clear c5_2 f5_2 K5_2
    try clear c5_3 f5_3 K5_3
    try clear c5_4 f5_4 K5_4
    try clear c5_5 f5_5 K5_5
    try clear c4_0 f4_0 K4_0
    try clear c4_1 f4_1 K4_1
    try clear c4_2 f4_2 K4_2
    try clear c4_3 f4_3 K4_3
    try clear c4_4 f4_4 K4_4
    try clear c4_5 f4_5 K4_5
    try clear c3_0 f3_0 K3_0
    try clear c3_1 f3_1 K3_1
    try clear c3_2 f3_2 K3_2
    try clear c3_3 f3_3 K3_3
    try clear c3_4 f3_4 K3_4
    try clear c3_5 f3_5 K3_5
    have y6 : S < w6.heap.size := by omega
    simp only [RD.EndAll, List.nil_append, List.cons_append, List.length_cons, List.length_nil, Nat.zero_add, Nat.reduceAdd, List.take_succ_cons, List.take_zero, List.drop_succ_cons, List.drop_zero, RD.putAll, Act.put, List.setIfInBounds_toArray, List.set_cons_succ, List.set_cons_zero]
    have DQ6 := DQ3.trans b6
    have OP6 := OP.dr DQ6 (by omega)
    have OL6 := OL.dr DQ6 (by omega)
    have hcx6 : w6.cell? ⟨g, k * 2 + 1, none⟩ = some (ps[k].2) := by
      rw [OL6.row.cellAt (k * 2 + 1) (by omega)]
      exact flat_at encLV 2 encLV_len ps k q2 1 (by omega)
    have hfx6 := OL6.row.frozenAt (k * 2 + 1)
    have OL7 := OL6.set1 (s := s61) q2 (own_base o61 (by omega))
    have OE := OP6.setLines OL6 OL7
    have hgz6 := own_block_lt OL6.row g rfl
    have hlen : (ps.set k ((⟨ps[k].1.target, s61⟩ : LineD), Value.slice d61 s61.length c61)).length = ps.length := by simp
    have KR6 := KR3.dr b6 (by omega)
    have KP6 := KP3.dr b6 (by omega)
    clear cR fR cP fP KR3 KP3 hR3 hP3 b6 hcx OP3 OL3
    have hR6 := KR6.lt
    have hP6 := KP6.lt
    obtain ⟨cR, fR⟩ := KR6.rules
    obtain ⟨cP, fP⟩ := KP6.rules
    have zQ6 := DQ6.size
    have hgP : g ≠ w1.heap.size := by have := (own_block_lt OL.row g rfl).2; omega
    have hPg : w1.heap.size ≠ g := fun e => hgP e.symm
    have hgR : g ≠ w.heap.size := by omega
    have hRg : w.heap.size ≠ g := by omega
    have DE := (D1.trans DQ6).setCell (p := ⟨g, k * 2 + 1, none⟩) (by dsimp only; omega) (.slice d61 s61.length c61)
    clear OL7 OL6
    go_wp2_with fail
    exact ret_pg rfl ((DE).set6 (b := w.heap.size) (Nat.le_refl _) (.string p.name) (.slice ia p.inputs.length ic) (.slice vz p.vars.length vc) (.slice oa p.outputs.length oc) (.string p.guard) (.slice (some ⟨g, 0, none⟩) ps.length cap)) (by omega) ((OE).set6 (b := w.heap.size) (by omega) (.string p.name) (.slice ia p.inputs.length ic) (.slice vz p.vars.length vc) (.slice oa p.outputs.length oc) (.string p.guard) (.slice (some ⟨g, 0, none⟩) ps.length cap)) (sm_set hsm hps ⟨(sm_at hsm hps q2).1, by show s61.length ≤ 100; omega, q61⟩) trivial (by simp [results, Tryd.results52, go_sem, cR, fR, hR6, hP6, hRP, hPR, hgR, hRg, hgP, hPg, cP])
  case inr.inr.inr.inr.inr.inl =>
    have OP3 := OP.dr DQ3 (by omega)
    have D3 := D1.trans DQ3
    go_wp2_with fail
    clear cR fR cP fP
    go_loopw [5] (fun v wr => ∃ L : List ByteArray, InsAt S w wr p (#[.string p.name, .slice ia p.inputs.length ic, .slice vz p.vars.length vc, .slice oa p.outputs.length oc, .string p.guard, .slice (some ⟨g, 0, none⟩) ps.length cap] : Array Value) w1.heap.size v (.slice vz p.vars.length vc) (.slice oa p.outputs.length oc) (.slice (some ⟨g, 0, none⟩) ps.length cap) L) (fun v _ => 21 - slen v)
    case atStart => exact ⟨p.inputs, ⟨OP3.ins, OP3.vars, OP3.outs, OP3.lines, fun k h1 h2 => hApV k k h1 h2 rfl, fun k h1 h2 => hApO k k h1 h2 rfl, by omega, hsm.ins, D3, KR3, KP3⟩⟩
    case round =>
      obtain ⟨L, hI⟩ := hrel
      have hLl := hI.len
      obtain ⟨xa, xc, rfl⟩ := own_slice hI.row
      have Dw := hI.dr
      replace hI := Lib.hid hI
      have hzw := Dw.size
      go_wp2_with fail
      refine (l01Next_any S 2 _ (Dw.src HS.out)).mono ?_
      rintro e w6 ⟨r6, rfl, p6, q6, b6⟩
      replace q6 : r6 ≤ 1 := (by omega)
      have z6 := b6.size
      try simp only [World.size_alloc, World.size_drew, World.heap_drewN, World.size_setCell] at z6
      try clear c5_0 f5_0 K5_0
      try clear c5_1 f5_1 K5_1
      try clear c5_2 f5_2 K5_2
      try clear c5_3 f5_3 K5_3
      try clear c5_4 f5_4 K5_4
      try clear c5_5 f5_5 K5_5
      try clear c4_0 f4_0 K4_0
      try clear c4_1 f4_1 K4_1
      try clear c4_2 f4_2 K4_2
      try clear c4_3 f4_3 K4_3
      try clear c4_4 f4_4 K4_4
      try clear c4_5 f4_5 K4_5
      try clear c3_0 f3_0 K3_0
      try clear c3_1 f3_1 K3_1
      try clear c3_2 f3_2 K3_2
      try clear c3_3 f3_3 K3_3
      try clear c3_4 f3_4 K3_4
      try clear c3_5 f3_5 K3_5
      have y6 : S < w6.heap.size := by omega
      have I6 := Lib.hid (hI.out.dr' b6 hS (by omega))
      clear b6 hI
      by_cases hlt : (L.length : Int) < 20 + r6
      · have hL21 : L.length ≤ 20 := by omega
        go_wp2_with fail
        refine (sDec_any L.length _ (by omega)).mono ?_
        rintro e w7 ⟨rfl, b7⟩
        have I7 := I6.out.dr' (Dr.of_new b7) hS (by omega)
        have hds := dec_len 1 L.length (by omega)
        rw [← strL_size] at hds
        generalize strL (Lib.decDigits L.length) = DS at hds
        have hg5 : ¬ (9223372036854775807 < (⟨#[105]⟩ : ByteArray).size + DS.size) := by show ¬ (9223372036854775807 < 1 + DS.size); omega
        have hss : ((⟨#[105]⟩ : ByteArray) ++ DS).size ≤ 100 := by rw [ByteArray.size_append]; show 1 + DS.size ≤ 100; omega
        have hz7 := I7.dr.size
        have I8 := I7.dr' ((Dr.refl S w7).alloc (.cells #[.string (⟨#[105]⟩ ++ DS)] 9)) hS (by omega)
        go_wp2_with (at_builtin; refine wpList_append_at _ rfl _ _ 24 rfl (w.heap.size + 1) 9 i0 (.string ⟨#[]⟩) 1 16 Tryd.underlying24 hi hz0 hz1 hz2 rfl (by decide) _ _ _ rfl I8.row ⟨w7.heap.size, 0, none⟩ 1 1 [.string (⟨#[105]⟩ ++ DS)] rfl rfl (by intro j u hj; match j, hj with | 0, hj => simp at hj; subst hj; first | (simp [Addr.add]; done) | exact alloc_one rfl) (by intro u hu; simp at hu; subst hu; rfl) (by decide) (by unfold maxLen; omega) (by omega) (by first | (simp; done) | (simp; omega) | omega) ?_; intro vq wq howna hgra hka)
        have I9 := I8.app hgra howna hka hss (by omega)
        have hln : (L ++ [(⟨#[105]⟩ ++ DS : ByteArray)]).length = L.length + 1 := by simp
        obtain ⟨ya, yc, rfl⟩ := own_slice I9.row
        go_roundw
        case rel => exact ⟨L ++ [⟨#[105]⟩ ++ DS], I9⟩
        case measure => simp only [slen, hln]; omega
      · have KR6 := I6.out.res
        have KP6 := I6.out.box
        have hR6 := KR6.lt
        have hP6 := KP6.lt
        obtain ⟨cR, fR⟩ := KR6.rules
        obtain ⟨cP, fP⟩ := KP6.rules
        have DE := I6.out.dr.setCell (p := ⟨w1.heap.size, 1, none⟩) (by dsimp only; omega) (.slice xa L.length xc)
        have OE := I6.out.pg.setBlk (o := 1) (u := .slice xa L.length xc) KP6
        have hsmL := I6.out.small
        replace hsmL := Lib.hid hsmL
        go_wp2_with fail
        exact ret_pg rfl ((DE).set6 (b := w.heap.size) (Nat.le_refl _) (.string p.name) (.slice xa L.length xc) (.slice vz p.vars.length vc) (.slice oa p.outputs.length oc) (.string p.guard) (.slice (some ⟨g, 0, none⟩) ps.length cap)) (by omega) ((OE).set6 (b := w.heap.size) (by omega) (.string p.name) (.slice xa L.length xc) (.slice vz p.vars.length vc) (.slice oa p.outputs.length oc) (.string p.guard) (.slice (some ⟨g, 0, none⟩) ps.length cap)) (sm_ins hsm hsmL.out (by omega)) trivial (by simp [results, Tryd.results52, go_sem, cR, fR, hR6, hP6, hRP, hPR, cP])
  case inr.inr.inr.inr.inr.inr.inl =>
    obtain ⟨iL, hiL, hz0L, hz1L, hz2L⟩ := info_parts infoLineD
    have OP3 := OP.dr DQ3 (by omega)
    have OL3 := OL.dr DQ3 (by omega)
    have D3 := D1.trans DQ3
    have hpl1 : 1 ≤ ps.length := by have := hsm.lines1; have := hpl.out; omega
    have hpl2 : ps.length ≤ 100 := by have := hsm.linesl; have := hpl.out; omega
    go_wp2_with fail
    clear cR fR cP fP
    go_loopw [6] (fun v wr => ∃ qs : List LV, LnsAt S w wr p (#[.string p.name, .slice ia p.inputs.length ic, .slice vz p.vars.length vc, .slice oa p.outputs.length oc, .string p.guard, .slice (some ⟨g, 0, none⟩) ps.length cap] : Array Value) w1.heap.size v (.slice ia p.inputs.length ic) (.slice vz p.vars.length vc) (.slice oa p.outputs.length oc) qs) (fun v _ => 101 - slen v)
    case atStart => exact ⟨ps, ⟨OL3, OP3.ins, OP3.vars, OP3.outs, hpl1, hpl2, fun q hq => by obtain ⟨k, hk, rfl⟩ := List.mem_iff_getElem.1 hq; exact sm_at hsm hps hk, D3, KR3, KP3⟩⟩
    case round =>
      obtain ⟨qs, hI⟩ := hrel
      have hLl := hI.len
      have hL1 := hI.len1
      obtain ⟨xg, xc, rfl⟩ := own_form hI.row.row (by omega)
      have Dw := hI.dr
      replace hI := Lib.hid hI
      have hzw := Dw.size
      go_wp2_with fail
      refine (l01Next_any S 2 _ (Dw.src HS.out)).mono ?_
      rintro e w6 ⟨r6, rfl, p6, q6, b6⟩
      replace q6 : r6 ≤ 1 := (by omega)
      have z6 := b6.size
      try simp only [World.size_alloc, World.size_drew, World.heap_drewN, World.size_setCell] at z6
      try clear c5_0 f5_0 K5_0
      try clear c5_1 f5_1 K5_1
      try clear c5_2 f5_2 K5_2
      try clear c5_3 f5_3 K5_3
      try clear c5_4 f5_4 K5_4
      try clear c5_5 f5_5 K5_5
      try clear c4_0 f4_0 K4_0
      try clear c4_1 f4_1 K4_1
      try clear c4_2 f4_2 K4_2
      try clear c4_3 f4_3 K4_3
      try clear c4_4 f4_4 K4_4
      try clear c4_5 f4_5 K4_5
      try clear c3_0 f3_0 K3_0
      try clear c3_1 f3_1 K3_1
      try clear c3_2 f3_2 K3_2
      try clear c3_3 f3_3 K3_3
      try clear c3_4 f3_4 K3_4
      try clear c3_5 f3_5 K3_5
      have y6 : S < w6.heap.size := by omega
      have I6 := Lib.hid (hI.out.dr' b6 hS (by omega))
      clear b6 hI
      by_cases hlt : (qs.length : Int) < 40 + r6
      · have hL41 : qs.length ≤ 40 := by omega
        have h0q : 0 < qs.length := by omega
        obtain ⟨ta, tc, hta⟩ := own_slice (I6.out.row.terms qs[0] (List.getElem_mem h0q))
        have hq0 : w6.cell? ⟨xg, 0, none⟩ = some (.string qs[0].1.target) := by
          rw [I6.out.row.row.cellAt 0 (by omega)]
          exact flat_at encLV 2 encLV_len qs 0 h0q 0 (by omega)
        have hq1 : w6.cell? ⟨xg, 1, none⟩ = some (.slice ta qs[0].1.terms.length tc) := by
          rw [I6.out.row.row.cellAt 1 (by omega), ← hta]
          exact flat_at encLV 2 encLV_len qs 0 h0q 1 (by omega)
        have hgq := own_block_lt I6.out.row.row xg rfl
        have hz6 := I6.out.dr.size
        have I8 := I6.out.dr' ((Dr.refl S w6).alloc (.cells #[.string qs[0].1.target, .slice ta qs[0].1.terms.length tc] 45)) hS (by omega)
        have RB := Lib.hid (rd_of_blkL (Blk.alloc_at (w := w6) (cs := #[.string qs[0].1.target, .slice ta qs[0].1.terms.length tc]) (T := 45) rfl))
        go_wp2_with (first | (at_builtin; refine wpList_append_rd rfl _ _ 25 rfl (w.heap.size + 1) 45 iL (Value.agg #[.string ⟨#[]⟩, .slice none 0 0]) 2 40 Tryd.underlying25 hiL hz0L hz1L hz2L rfl (by decide) _ _ _ rfl (I8.row.row) _ 1 ([.string qs[0].1.target, .slice ta qs[0].1.terms.length tc]) rfl (RB.out) (by simp) (by intro u hu; simp at hu; rcases hu with rfl | rfl <;> rfl) (by unfold maxLen; omega) (by omega) (by first | (simp; done) | (simp; omega) | omega) ?_; intro va wa howna hgra))
        have howna' : wa.ownsRow (w.heap.size + 1) 45 2 va (qs.length + 1) (qs.flatMap encLV ++ encLV qs[0]) := by rw [encLV, hta]; exact howna
        have I9 := I8.app (List.getElem_mem h0q) hgra howna' (by omega)
        have hln : (qs ++ [qs[0]]).length = qs.length + 1 := by simp
        obtain ⟨ya, yc, rfl⟩ := own_slice I9.row.row
        go_roundw
        case rel => exact ⟨qs ++ [qs[0]], I9⟩
        case measure => simp only [slen, hln]; omega
      · have KR6 := I6.out.res
        have KP6 := I6.out.box
        have hR6 := KR6.lt
        have hP6 := KP6.lt
        obtain ⟨cR, fR⟩ := KR6.rules
        obtain ⟨cP, fP⟩ := KP6.rules
        have DE := I6.out.dr.setCell (p := ⟨w1.heap.size, 5, none⟩) (by dsimp only; omega) (.slice (some ⟨xg, 0, none⟩) qs.length xc)
        have OE := I6.out.pg.setBlk (o := 5) (u := .slice (some ⟨xg, 0, none⟩) qs.length xc) KP6
        have hsmL := I6.out.small
        replace hsmL := Lib.hid hsmL
        go_wp2_with fail
        exact ret_pg rfl ((DE).set6 (b := w.heap.size) (Nat.le_refl _) (.string p.name) (.slice ia p.inputs.length ic) (.slice vz p.vars.length vc) (.slice oa p.outputs.length oc) (.string p.guard) (.slice (some ⟨xg, 0, none⟩) qs.length xc)) (by omega) ((OE).set6 (b := w.heap.size) (by omega) (.string p.name) (.slice ia p.inputs.length ic) (.slice vz p.vars.length vc) (.slice oa p.outputs.length oc) (.string p.guard) (.slice (some ⟨xg, 0, none⟩) qs.length xc)) (sm_lines hsm (fun l hl => by obtain ⟨q, hq, rfl⟩ := List.mem_map.1 hl; exact hsmL.out q hq) (by rw [List.length_map]; omega) (by rw [List.length_map]; omega)) trivial (by simp [results, Tryd.results52, go_sem, cR, fR, hR6, hP6, hRP, hPR, cP])
end Go.Proofs.YteielmihlfakgaaDoor
