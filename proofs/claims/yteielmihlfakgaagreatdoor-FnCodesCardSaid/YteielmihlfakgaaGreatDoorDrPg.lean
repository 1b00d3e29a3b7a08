/- Contracts: a program drawn from a code. -/
import Derived.WalkSpells
import Derived.IntWalk
import Derived.Test.YteielmihlfakgaaGreatDoorProg
import Derived.Test.YteielmihlfakgaaGreatDoorDrTerm
import Derived.Test.YteielmihlfakgaaGreatDoorUI
import Derived.Test.YteielmihlfakgaaGreatDoorVA
import Derived.Test.YteielmihlfakgaaGreatDoorAppF
import Derived.Test.YteielmihlfakgaaGreatDoorUG
import Derived.Test.YteielmihlfakgaaGreatDoorVB
import Derived.Test.YteielmihlfakgaaGreatDoorSound2
namespace Go.Proofs.YteielmihlfakgaaGreatDoor
open Go Go.Proofs Go.RowKit
set_option linter.unusedVariables false
set_option linter.unusedSimpArgs false
set_option maxRecDepth 100000
def smT (xs : List ByteArray) : Prop := xs.length ≤ 3 ∧ ∀ x ∈ xs, x.size ≤ 100
theorem smT_take {xs : List ByteArray} (k : Nat) (h : smT xs) : smT (xs.take k) := ⟨by have := h.1; simp; omega, fun x hx => h.2 x (List.mem_of_mem_take hx)⟩
theorem smT_in : smT [⟨#[97]⟩, ⟨#[98]⟩, ⟨#[107, 101, 121]⟩] := ⟨by simp, fun x hx => by simp at hx; rcases hx with rfl | rfl | rfl <;> decide⟩
theorem smT_var : smT [⟨#[120]⟩, ⟨#[121]⟩, ⟨#[122]⟩] := ⟨by simp, fun x hx => by simp at hx; rcases hx with rfl | rfl | rfl <;> decide⟩
theorem smT_out : smT [⟨#[113]⟩, ⟨#[108, 97, 109, 112]⟩] := ⟨by simp, fun x hx => by simp at hx; rcases hx with rfl | rfl <;> decide⟩
/-- Lines drawn are small. -/
def smL (ps : List LV) : Prop := ∀ p ∈ ps, p.1.target.size ≤ 100 ∧ p.1.terms.length ≤ 15 ∧ ∀ x ∈ p.1.terms, fitTerm x
/-- A line laid in block z. -/
def LnAt (base z : Nat) (nm : ByteArray) (w : World) : Prop := ∃ (ad : Option Addr) (c : Nat) (s : List ETerm), Blk w z #[.string nm, .slice ad s.length c] 91 ∧ w.ownsRow base 66 3 (.slice ad s.length c) s.length (s.flatMap encTerm) ∧ s.length ≤ 15 ∧ ∀ x ∈ s, fitTerm x
theorem LnAt.dr {S base z : Nat} {nm : ByteArray} {w w' : World} (h : LnAt base z nm w) (hb : Dr S w w') (hz : z ≠ S) (hS : S < base) : LnAt base z nm w' := by
  obtain ⟨ad, c, s, h1, h2, h3⟩ := h
  exact ⟨ad, c, s, h1.dr hb hz, own_dr h2 hb hS, h3⟩
theorem rd_of_blkL {w : World} {q : Nat} {nm : ByteArray} {v : Value} {T : TypeId} (h : Blk w q #[.string nm, v] T) : Rd w (.slice (some ⟨q, 0, none⟩) 1 1) 1 [.string nm, v] := by
  refine ⟨_, _, rfl, by omega, ⟨(fun e => nomatch e), Nat.le_refl _⟩, fun j u hu => ⟨_, _, rfl, h.lt, ?_⟩⟩
  rw [(Blk.rules h).1]
  simpa using hu
theorem sm_of {I V O : List ByteArray} {ps : List LV} (hI : smT I) (hV : smT V) (hO : smT O) (hp : smL ps) (h1 : 1 ≤ ps.length) (h2 : ps.length ≤ 6) (g : ByteArray) (hg : g.size ≤ 100) : SmP ⟨⟨#[114, 105, 100, 101]⟩, I, V, O, g, ps.map Prod.fst⟩ ∧ fewL ⟨⟨#[114, 105, 100, 101]⟩, I, V, O, g, ps.map Prod.fst⟩ := by
  have hl : ∀ l ∈ ps.map Prod.fst, l.target.size ≤ 100 ∧ l.terms.length ≤ 15 ∧ ∀ x ∈ l.terms, fitTerm x := fun l hl => by
    obtain ⟨p, hp', rfl⟩ := List.mem_map.1 hl
    exact hp p hp'
  refine ⟨⟨show (4 : Nat) ≤ 100 by omega, hI.2, hV.2, hO.2, hg, ?_, ?_, ?_, by simpa using h1, ?_, fun l h => (hl l h).1, fun l h => ⟨by have := (hl l h).2.1; omega, (hl l h).2.2⟩⟩, ?_, fun l h => by have := (hl l h).2.1; omega⟩
  · have := hI.1; show I.length ≤ 100; omega
  · have := hV.1; show V.length ≤ 100; omega
  · have := hO.1; show O.length ≤ 100; omega
  · show (ps.map Prod.fst).length ≤ 100; rw [List.length_map]; omega
  · show (ps.map Prod.fst).length ≤ 40; rw [List.length_map]; omega
theorem ret_pg {fn : Func} {S base : Nat} {Q : ProgD → Value → Value → Value → Prop} {w0 w : World} {a : Act} {p : ProgD} {iv vv ov lv : Value} (hd : a.defers = []) (hD : Dr S w0 w) (hb : w0.heap.size ≤ base) (h : OwnPg w base p iv vv ov lv) (hs : SmP p) (hq : Q p iv vv ov) (hr : (results fn a.tmps).run Tryz.prog w = .ok (valP p iv vv ov lv) w) :
    bodyPost Tryz.prog fn (DrawPg S Q w0) .ret a w := ⟨hd, _, hr, p, iv, vv, ov, lv, rfl, hD, h.base hb, hs, hq⟩
def fewQ (p : ProgD) (iv vv ov : Value) : Prop := fewL p ∧ (p.vars.length ≤ 10 ∧ p.inputs.length ≤ 10) ∧ (∀ i j, iv.ownBlock = some i → vv.ownBlock = some j → i ≠ j) ∧ (∀ i j, iv.ownBlock = some i → ov.ownBlock = some j → i ≠ j)
theorem infoLineD : (Tryz.prog.info? 91).map (fun i => (i.zero, i.size, i.bytes)) = some (some (.agg #[.string ⟨#[]⟩, .slice none 0 0]), 2, 40) := by kernel_rfl
set_option maxHeartbeats 4000000 in
theorem drPg_any {B : Nat} (S : Nat) (w : World) (hs : Src B S w) : Calls Tryz.prog 63 #[.pointer (some ⟨S, 0, none⟩)] w (DrawPg S fewQ w) := by
  obtain ⟨i0, hi, hz0, hz1, hz2⟩ := info_parts infoStrC
  have hS := hs.lt
  have HS := Lib.hid hs; clear hs
  go_enter Tryz.func63, Tryz.ntmps63
  go_wp2_with fail
  refine (l01Next_any S 3 _ (Dr.src ?hs5 HS.out)).mono ?_
  case hs5 => exact (by repeat (first | with_reducible refine Dr.setCell ?_ (by first | (simp; done) | (simp; omega) | omega) _ | with_reducible refine Dr.alloc ?_ _ | with_reducible exact Dr.refl _ _ | with_reducible assumption | with_reducible refine Dr.trans ?_ (by with_reducible assumption) | with_reducible refine Dr.trans ?_ (Dr.of_new (by with_reducible assumption)) | with_reducible refine Dr.drewN ?_ _ | with_reducible refine Dr.drew ?_))
  rintro e w1 ⟨r1, rfl, p1, q1, b1⟩
  obtain ⟨k1, rfl⟩ := Int.eq_ofNat_of_zero_le p1; replace q1 : k1 ≤ 2 := (by omega); have oI := own_takeS (k := 1 + k1) (own_dr (own_litS (b := w.heap.size + 1) (base := w.heap.size + 1) (n := 3) (T := 9) [⟨#[97]⟩, ⟨#[98]⟩, ⟨#[107, 101, 121]⟩] (by simp) (by simp) (by simp) (by simp)) b1 (by omega)) (by simp) (by omega); have hI := smT_take (1 + k1) smT_in; have hI1 : 1 ≤ (List.take (1 + k1) [(⟨#[97]⟩ : ByteArray), ⟨#[98]⟩, ⟨#[107, 101, 121]⟩]).length := (by simp; omega)
  have z1 := b1.size
  try simp only [World.size_alloc, World.size_drew, World.heap_drewN, World.size_setCell] at z1
  have z1_0 : w.heap.size < w1.heap.size := by omega
  apply Blk.use (w := w1) (b := w.heap.size)
  · repeat (first | with_reducible assumption | with_reducible exact Blk.alloc_at (by first | rfl | (simp; done) | (simp; omega)) | with_reducible apply Blk.alloc | with_reducible apply Blk.drew | with_reducible apply Blk.drewN | with_reducible apply Blk.set | ((with_reducible apply Blk.set_ne); rotate_left; (focus omega)) | ((with_reducible apply Blk.dr); rotate_left; (focus (with_reducible assumption)); (focus omega)) | ((with_reducible apply Blk.new); rotate_left; (focus (with_reducible assumption))))
  intro K1_0
  try simp only [List.setIfInBounds_toArray, List.set_cons_succ, List.set_cons_zero] at K1_0
  obtain ⟨c1_0, f1_0⟩ := K1_0.rules
  have y1 : S < w1.heap.size := by omega
  go_wp2_with fail
  generalize List.take (1 + k1) [(⟨#[97]⟩ : ByteArray), ⟨#[98]⟩, ⟨#[107, 101, 121]⟩] = I at oI hI hI1
  replace oI := Lib.hid oI
  refine (l01Next_any S 4 _ (Dr.src ?hs6 HS.out)).mono ?_
  case hs6 => exact (by repeat (first | with_reducible refine Dr.setCell ?_ (by first | (simp; done) | (simp; omega) | omega) _ | with_reducible refine Dr.alloc ?_ _ | with_reducible exact Dr.refl _ _ | with_reducible assumption | with_reducible refine Dr.trans ?_ (by with_reducible assumption) | with_reducible refine Dr.trans ?_ (Dr.of_new (by with_reducible assumption)) | with_reducible refine Dr.drewN ?_ _ | with_reducible refine Dr.drew ?_))
  rintro e w2 ⟨r2, rfl, p2, q2, b2⟩
  obtain ⟨k2, rfl⟩ := Int.eq_ofNat_of_zero_le p2; replace q2 : k2 ≤ 3 := (by omega); replace oI := Lib.hid (own_dr (oI.out.alloc _) b2 (by omega)); have oV := own_takeS (k := k2) (own_dr (own_litS (b := w1.heap.size) (base := w.heap.size + 1) (n := 3) (T := 9) [⟨#[120]⟩, ⟨#[121]⟩, ⟨#[122]⟩] (by omega) (by simp) (by simp) (by simp)) b2 (by omega)) (by simp) (by omega); have hV := smT_take k2 smT_var
  have z2 := b2.size
  try simp only [World.size_alloc, World.size_drew, World.heap_drewN, World.size_setCell] at z2
  have z2_0 : w.heap.size < w2.heap.size := by omega
  apply Blk.use (w := w2) (b := w.heap.size)
  · repeat (first | with_reducible assumption | with_reducible exact Blk.alloc_at (by first | rfl | (simp; done) | (simp; omega)) | with_reducible apply Blk.alloc | with_reducible apply Blk.drew | with_reducible apply Blk.drewN | with_reducible apply Blk.set | ((with_reducible apply Blk.set_ne); rotate_left; (focus omega)) | ((with_reducible apply Blk.dr); rotate_left; (focus (with_reducible assumption)); (focus omega)) | ((with_reducible apply Blk.new); rotate_left; (focus (with_reducible assumption))))
  intro K2_0
  try simp only [List.setIfInBounds_toArray, List.set_cons_succ, List.set_cons_zero] at K2_0
  obtain ⟨c2_0, f2_0⟩ := K2_0.rules
  try clear c1_0 f1_0 K1_0
  try clear c1_1 f1_1 K1_1
  try clear c1_2 f1_2 K1_2
  try clear c1_3 f1_3 K1_3
  try clear c1_4 f1_4 K1_4
  try clear c1_5 f1_5 K1_5
  have y2 : S < w2.heap.size := by omega
  generalize List.take k2 [(⟨#[120]⟩ : ByteArray), ⟨#[121]⟩, ⟨#[122]⟩] = V at oV hV
  replace oV := Lib.hid oV
  go_wp2_with fail
  refine (l01Next_any S 2 _ (Dr.src ?hs7 HS.out)).mono ?_
  case hs7 => exact (by repeat (first | with_reducible refine Dr.setCell ?_ (by first | (simp; done) | (simp; omega) | omega) _ | with_reducible refine Dr.alloc ?_ _ | with_reducible exact Dr.refl _ _ | with_reducible assumption | with_reducible refine Dr.trans ?_ (by with_reducible assumption) | with_reducible refine Dr.trans ?_ (Dr.of_new (by with_reducible assumption)) | with_reducible refine Dr.drewN ?_ _ | with_reducible refine Dr.drew ?_))
  rintro e w3 ⟨r3, rfl, p3, q3, b3⟩
  obtain ⟨k3, rfl⟩ := Int.eq_ofNat_of_zero_le p3; replace q3 : k3 ≤ 1 := (by omega); replace oI := Lib.hid (own_dr (oI.out.alloc _) b3 (by omega)); replace oV := Lib.hid (own_dr (oV.out.alloc _) b3 (by omega)); have oO := own_takeS (k := 1 + k3) (own_dr (own_litS (b := w2.heap.size) (base := w.heap.size + 1) (n := 2) (T := 9) [⟨#[113]⟩, ⟨#[108, 97, 109, 112]⟩] (by omega) (by simp) (by simp) (by simp)) b3 (by omega)) (by simp) (by omega); have hO := smT_take (1 + k3) smT_out; have hO1 : 1 ≤ (List.take (1 + k3) [(⟨#[113]⟩ : ByteArray), ⟨#[108, 97, 109, 112]⟩]).length := (by simp; omega)
  have z3 := b3.size
  try simp only [World.size_alloc, World.size_drew, World.heap_drewN, World.size_setCell] at z3
  have z3_0 : w.heap.size < w3.heap.size := by omega
  apply Blk.use (w := w3) (b := w.heap.size)
  · repeat (first | with_reducible assumption | with_reducible exact Blk.alloc_at (by first | rfl | (simp; done) | (simp; omega)) | with_reducible apply Blk.alloc | with_reducible apply Blk.drew | with_reducible apply Blk.drewN | with_reducible apply Blk.set | ((with_reducible apply Blk.set_ne); rotate_left; (focus omega)) | ((with_reducible apply Blk.dr); rotate_left; (focus (with_reducible assumption)); (focus omega)) | ((with_reducible apply Blk.new); rotate_left; (focus (with_reducible assumption))))
  intro K3_0
  try simp only [List.setIfInBounds_toArray, List.set_cons_succ, List.set_cons_zero] at K3_0
  obtain ⟨c3_0, f3_0⟩ := K3_0.rules
  try clear c2_0 f2_0 K2_0
  try clear c2_1 f2_1 K2_1
  try clear c2_2 f2_2 K2_2
  try clear c2_3 f2_3 K2_3
  try clear c2_4 f2_4 K2_4
  try clear c2_5 f2_5 K2_5
  try clear c1_0 f1_0 K1_0
  try clear c1_1 f1_1 K1_1
  try clear c1_2 f1_2 K1_2
  try clear c1_3 f1_3 K1_3
  try clear c1_4 f1_4 K1_4
  try clear c1_5 f1_5 K1_5
  have y3 : S < w3.heap.size := by omega
  generalize List.take (1 + k3) [(⟨#[113]⟩ : ByteArray), ⟨#[108, 97, 109, 112]⟩] = O at oO hO hO1
  replace oO := Lib.hid oO
  have D3 : Dr S w w3 := (by repeat (first | with_reducible refine Dr.setCell ?_ (by first | (simp; done) | (simp; omega) | omega) _ | with_reducible refine Dr.alloc ?_ _ | with_reducible exact Dr.refl _ _ | with_reducible assumption | with_reducible refine Dr.trans ?_ (by with_reducible assumption) | with_reducible refine Dr.trans ?_ (Dr.of_new (by with_reducible assumption)) | with_reducible refine Dr.drewN ?_ _ | with_reducible refine Dr.drew ?_))
  clear b1 b2 b3
  have hIl := hI.1
  have hVl := hV.1
  have hOl := hO.1
  have own0 : (w3.alloc (.cells #[] 9)).ownsRow w3.heap.size 9 1 (.slice (some ⟨w3.heap.size, 0, none⟩) 0 0) 0 [] := own_empty (Nat.le_refl _)
  go_wp2_with (first | ((at_builtin; refine wpList_append_rd rfl _ _ 39 rfl (w3.heap.size) 9 i0 (.string ⟨#[]⟩) 1 16 Tryz.underlying39 hi hz0 hz1 hz2 rfl (by decide) _ _ _ rfl (own0) _ (I.length) (I.map Value.string) rfl (Rd.new (own_rd oI.out) (by repeat (first | with_reducible exact New.refl _ | with_reducible assumption | with_reducible refine New.drew ?_ | with_reducible refine New.drewN ?_ _ | with_reducible refine New.alloc ?_ _ | with_reducible refine New.setCell ?_ (by first | (simp; done) | (simp; omega) | omega) _ | with_reducible refine New.trans ?_ (by with_reducible assumption)))) (by simp) (by intro u hu; obtain ⟨y, _, rfl⟩ := List.mem_map.1 hu; rfl) (by unfold maxLen; omega) (by omega) (by first | (simp; done) | (simp; omega) | omega) ?_; intro va wa howna hgra); have n4 : New w3 wa := New.grown ((New.refl w3).alloc _) hgra (fun q hq => (own_block_lt own0 q hq).1); have own1 : wa.ownsRow w3.heap.size 9 1 va I.length (I.map Value.string) := (by simpa using howna); clear howna hgra own0; rename Value => v4; rename World => w4; have z4 := n4.size) | ((at_builtin; refine wpList_append_rd rfl _ _ 39 rfl (w3.heap.size) 9 i0 (.string ⟨#[]⟩) 1 16 Tryz.underlying39 hi hz0 hz1 hz2 rfl (by decide) _ _ _ rfl (own1) _ (V.length) (V.map Value.string) rfl (Rd.new (own_rd oV.out) n4) (by simp) (by intro u hu; obtain ⟨y, _, rfl⟩ := List.mem_map.1 hu; rfl) (by unfold maxLen; omega) (by omega) (by first | (simp; done) | (simp; omega) | omega) ?_; intro va wa howna hgra); have n5 : New w3 wa := New.grown n4 hgra (fun q hq => (own_block_lt own1 q hq).1); have oN := Lib.hid (own_appS howna); clear howna hgra own1; rename Value => vN; rename World => w5; have z5 := n5.size; have own2 : (w5.alloc (.cells #[] 9)).ownsRow w5.heap.size 9 1 (.slice (some ⟨w5.heap.size, 0, none⟩) 0 0) 0 [] := own_empty (Nat.le_refl _)) | ((at_builtin; refine wpList_append_rd rfl _ _ 39 rfl (w5.heap.size) 9 i0 (.string ⟨#[]⟩) 1 16 Tryz.underlying39 hi hz0 hz1 hz2 rfl (by decide) _ _ _ rfl (own2) _ (V.length) (V.map Value.string) rfl (Rd.new (own_rd oV.out) (n5.alloc _)) (by simp) (by intro u hu; obtain ⟨y, _, rfl⟩ := List.mem_map.1 hu; rfl) (by unfold maxLen; omega) (by omega) (by first | (simp; done) | (simp; omega) | omega) ?_; intro va wa howna hgra); have n6 : New w5 wa := New.grown ((New.refl w5).alloc _) hgra (fun q hq => (own_block_lt own2 q hq).1); have own3 : wa.ownsRow w5.heap.size 9 1 va V.length (V.map Value.string) := (by simpa using howna); clear howna hgra own2; rename Value => v6; rename World => w6; have z6 := n6.size) | ((at_builtin; refine wpList_append_rd rfl _ _ 39 rfl (w5.heap.size) 9 i0 (.string ⟨#[]⟩) 1 16 Tryz.underlying39 hi hz0 hz1 hz2 rfl (by decide) _ _ _ rfl (own3) _ (O.length) (O.map Value.string) rfl (Rd.new (own_rd oO.out) (n5.trans n6)) (by simp) (by intro u hu; obtain ⟨y, _, rfl⟩ := List.mem_map.1 hu; rfl) (by unfold maxLen; omega) (by omega) (by first | (simp; done) | (simp; omega) | omega) ?_; intro va wa howna hgra); have n7 : New w5 wa := New.grown n6 hgra (fun q hq => (own_block_lt own3 q hq).1); have oT := Lib.hid (own_appS howna); clear howna hgra own3; rename Value => vT; rename World => w7; have z7 := n7.size))
  have zD3 := D3.size
  have oN7 := Lib.hid (own_base (base' := w.heap.size + 1) (own_new oN.out n7) (by omega))
  have oT7 := Lib.hid (own_base (base' := w.heap.size + 1) oT.out (by omega))
  have n37 := n5.trans n7
  have oI7 := Lib.hid (own_new oI.out n37)
  have oV7 := Lib.hid (own_new oV.out n37)
  have oO7 := Lib.hid (own_new oO.out n37)
  have D7 := D3.trans (Dr.of_new n37)
  have K7 := K3_0.new n37
  have zK7 := K7.lt
  have hN1 : 1 ≤ (I ++ V).length := by rw [List.length_append]; omega
  have hNl : (I ++ V).length ≤ 1000 := by rw [List.length_append]; omega
  have hM : (V ++ O).length ≤ 6 := by rw [List.length_append]; omega
  have hM1 : 1 ≤ (V ++ O).length := by rw [List.length_append]; omega
  have HN := Lib.hid (show ∀ x ∈ I ++ V, x.size ≤ 100 from fun x hx => by rcases List.mem_append.1 hx with h | h; exact hI.2 x h; exact hV.2 x h)
  have HTS := Lib.hid (show ∀ x ∈ V ++ O, x.size ≤ 100 from fun x hx => by rcases List.mem_append.1 hx with h | h; exact hV.2 x h; exact hO.2 x h)
  generalize V ++ O = T0 at *
  generalize hNN : I ++ V = N at *
  clear hNN oN oT n4 n5 n6 n7 z4 z5 z6 z7 c3_0 f3_0 K3_0 z1 z2 z3 y1 y2 y3 z1_0 z2_0 z3_0 p1 p2 p3
  obtain ⟨na, nc, hvN⟩ := own_slice oN7.out
  subst hvN
  have zD7 := D7.size
  obtain ⟨iL, hiL, hz0L, hz1L, hz2L⟩ := info_parts infoLineD
  go_loopw [7, 8, 9] (fun t7 l8 k9 wr => ∃ (ts : List ByteArray) (ps : List LV), wr.ownsRow (w.heap.size + 1) 9 1 t7 ts.length (ts.map Value.string) ∧ OwnLs wr w7.heap.size l8 ps ∧ ts.length + ps.length = T0.length ∧ Hid (∀ x ∈ ts, x.size ≤ 100) ∧ Hid (smL ps) ∧ Dr S w7 wr) (fun t7 _ _ _ => slen t7)
  case atStart => exact ⟨T0, [], oT7.out.alloc _, ⟨own_empty (Nat.le_refl _), fun p hp => by cases hp⟩, rfl, HTS, Lib.hid (fun p hp => by cases hp), (Dr.refl _ _).alloc _⟩
  case round =>
    obtain ⟨ts, ps, hT, hL, hlen, hts, hps, hb⟩ := hrel
    have hbz := hb.size
    obtain ⟨ta, tc, rfl⟩ := own_slice hT
    by_cases hlt : 0 < ts.length
    · go_wp2_with fail
      replace hT := Lib.hid hT
      replace hL := Lib.hid hL
      have Dr0 := D7.trans hb
      refine (l01Next_any S ts.length _ (Dr.src ?hs8 HS.out)).mono ?_
      case hs8 => exact (by repeat (first | with_reducible refine Dr.setCell ?_ (by first | (simp; done) | (simp; omega) | omega) _ | with_reducible refine Dr.alloc ?_ _ | with_reducible exact Dr.refl _ _ | with_reducible assumption | with_reducible refine Dr.trans ?_ (by with_reducible assumption) | with_reducible refine Dr.trans ?_ (Dr.of_new (by with_reducible assumption)) | with_reducible refine Dr.drewN ?_ _ | with_reducible refine Dr.drew ?_))
      rintro e w4 ⟨r4, rfl, p4, q4, b4⟩
      obtain ⟨k4, rfl⟩ := Int.eq_ofNat_of_zero_le p4; replace q4 : k4 < ts.length := (by omega); replace hT := Lib.hid (own_dr hT.out b4 (by omega)); replace hL := Lib.hid (hL.out.dr b4 (by omega)); have oN4 := Lib.hid (own_dr (own_dr oN7.out hb (by omega)) b4 (by omega))
      have z4 := b4.size
      try simp only [World.size_alloc, World.size_drew, World.heap_drewN, World.size_setCell] at z4
      try clear c3_0 f3_0 K3_0
      try clear c3_1 f3_1 K3_1
      try clear c3_2 f3_2 K3_2
      try clear c3_3 f3_3 K3_3
      try clear c3_4 f3_4 K3_4
      try clear c3_5 f3_5 K3_5
      try clear c2_0 f2_0 K2_0
      try clear c2_1 f2_1 K2_1
      try clear c2_2 f2_2 K2_2
      try clear c2_3 f2_3 K2_3
      try clear c2_4 f2_4 K2_4
      try clear c2_5 f2_5 K2_5
      try clear c1_0 f1_0 K1_0
      try clear c1_1 f1_1 K1_1
      try clear c1_2 f1_2 K1_2
      try clear c1_3 f1_3 K1_3
      try clear c1_4 f1_4 K1_4
      try clear c1_5 f1_5 K1_5
      have y4 : S < w4.heap.size := by omega
      clear p4
      have D4 := Dr0.trans b4
      have B4 := hb.trans b4
      clear b4
      have zD4 := D4.size
      have zB4 := B4.size
      have y4 : S < w4.heap.size := by omega
      obtain ⟨tb, to, rfl, htb, hx⟩ := rd_atS (own_rd hT.out) q4
      have htS : S < tb := by have := (own_block_lt hT.out tb rfl).1; omega
      have hfs := hts.out ts[k4] (List.getElem_mem q4)
      generalize ts[k4] = nm at hx hfs
      have HNX := Lib.hid (own_rdX oN4.out (show S < w.heap.size + 1 by omega))
      have HSR := Lib.hid (D4.src HS.out)
      go_wp2_with fail
      obtain ⟨ul, hul⟩ : ∃ x, x = u8 := ⟨_, rfl⟩
      refine RD.wp_facts (S := S) [fun X _ => X = u8, fun X _ => X = .slice (some ⟨tb, to, none⟩) ts.length tc, fun X _ => X = .int .i64 (k4 : Int), fun X _ => X = .pointer (some ⟨tb, to + k4, none⟩), fun X _ => X = .string nm, fun X _ => X = .pointer (some ⟨S, 0, none⟩), fun X _ => X = .slice na N.length nc, fun X _ => X = .pointer (some ⟨S, 0, none⟩), fun X W' => ∃ r : Nat, X = .int .i64 (r : Int) ∧ r ≤ 3, fun X W' => ∃ (ad : Option Addr) (c : Nat) (s : List ETerm), X = .slice ad s.length c ∧ W'.ownsRow w4.heap.size 66 3 (.slice ad s.length c) s.length (s.flatMap encTerm) ∧ s.length ≤ 15 ∧ ∀ x ∈ s, fitTerm x, fun X W' => ∃ (ad : Option Addr) (c : Nat) (s : List ETerm), X = .agg #[.string nm, .slice ad s.length c] ∧ W'.ownsRow w4.heap.size 66 3 (.slice ad s.length c) s.length (s.flatMap encTerm) ∧ s.length ≤ 15 ∧ ∀ x ∈ s, fitTerm x, fun X W' => ∃ z, X = .slice (some ⟨z, 0, none⟩) 1 1 ∧ w4.heap.size ≤ z ∧ LnAt w4.heap.size z nm W'] (by kernel_rfl) (by kernel_rfl) ⟨RD.stable_eq _, RD.stable_eq _, RD.stable_eq _, RD.stable_eq _, RD.stable_eq _, RD.stable_eq _, RD.stable_eq _, RD.stable_eq _, fun X w0 w1 hn ⟨r51, t51, p51⟩ => ⟨r51, t51, p51⟩, fun X w0 w1 hn ⟨a52, c52, s52, t52, o52, l52, q52⟩ => ⟨a52, c52, s52, t52, own_dr o52 hn (by omega), l52, q52⟩, fun X w0 w1 hn ⟨a53, c53, s53, t53, o53, l53, q53⟩ => ⟨a53, c53, s53, t53, own_dr o53 hn (by omega), l53, q53⟩, fun X w0 w1 hn ⟨z54, t54, y54, k54⟩ => ⟨z54, t54, y54, k54.dr hn (by omega) (by omega)⟩, trivial⟩ ?_ ?_
      · refine ⟨?_, ?_, ?_, ?_, ?_, ?_, ?_, ?_, ?_, ?_, ?_, ?_, trivial⟩
        · intro a w9 hw ho hk
          refine .inl ⟨by rfl, ?_⟩
          have t2 := ho 8 rfl
          dsimp at t2
          try with_reducible replace hw := Dr.undrawN hw
          try with_reducible replace hw := Dr.undraw hw
          obtain ⟨c, d, f', g'⟩ := hw.rules
          go_simp
          exact Dr.refl _ _
        · intro a w9 hw ho hk
          refine .inl ⟨by rfl, ?_⟩
          have t2 := ho 7 rfl
          dsimp at t2
          try with_reducible replace hw := Dr.undrawN hw
          try with_reducible replace hw := Dr.undraw hw
          obtain ⟨c, d, f', g'⟩ := hw.rules
          go_simp
          exact Dr.refl _ _
        · intro a w9 hw ho hk
          refine .inl ⟨by rfl, ?_⟩
          have t2 := ho 9 rfl
          dsimp at t2
          try with_reducible replace hw := Dr.undrawN hw
          try with_reducible replace hw := Dr.undraw hw
          obtain ⟨c, d, f', g'⟩ := hw.rules
          go_simp
          exact Dr.refl _ _
        · intro a w9 hw ho hk
          refine .inl ⟨by rfl, ?_⟩
          have t44 : a.tmps[44]?.getD undef = .slice (some ⟨tb, to, none⟩) ts.length tc := hk 1 44 (by kernel_rfl) rfl
          have t45 : a.tmps[45]?.getD undef = .int .i64 (k4 : Int) := hk 2 45 (by kernel_rfl) rfl
          go_simp
          exact Dr.refl _ _
        · intro a w9 hw ho hk
          refine .inl ⟨by rfl, ?_⟩
          have t46 : a.tmps[46]?.getD undef = .pointer (some ⟨tb, to + k4, none⟩) := hk 3 46 (by kernel_rfl) rfl
          try with_reducible replace hw := Dr.undrawN hw
          try with_reducible replace hw := Dr.undraw hw
          obtain ⟨c, d, f', g'⟩ := hw.rules
          go_simp
          exact Dr.refl _ _
        · intro a w9 hw ho hk
          refine .inl ⟨by rfl, ?_⟩
          have t2 := ho 0 rfl
          dsimp at t2
          try with_reducible replace hw := Dr.undrawN hw
          try with_reducible replace hw := Dr.undraw hw
          obtain ⟨c, d, f', g'⟩ := hw.rules
          go_simp
          exact Dr.refl _ _
        · intro a w9 hw ho hk
          refine .inl ⟨by rfl, ?_⟩
          have t2 := ho 6 rfl
          dsimp at t2
          try with_reducible replace hw := Dr.undrawN hw
          try with_reducible replace hw := Dr.undraw hw
          obtain ⟨c, d, f', g'⟩ := hw.rules
          go_simp
          exact Dr.refl _ _
        · intro a w9 hw ho hk
          refine .inl ⟨by rfl, ?_⟩
          have t2 := ho 0 rfl
          dsimp at t2
          try with_reducible replace hw := Dr.undrawN hw
          try with_reducible replace hw := Dr.undraw hw
          obtain ⟨c, d, f', g'⟩ := hw.rules
          go_simp
          exact Dr.refl _ _
        · intro a w9 hw ho hk
          refine .inl ⟨by rfl, ?_⟩
          have t50 : a.tmps[50]?.getD undef = .pointer (some ⟨S, 0, none⟩) := hk 7 50 (by kernel_rfl) rfl
          go_simp
          refine (l01Next_any S 4 _ (hw.src HSR.out)).mono ?_; rintro e w2 ⟨r, rfl, h0, h1, hb⟩
          obtain ⟨k, rfl⟩ := Int.eq_ofNat_of_zero_le h0; first | exact ⟨hb, _, rfl, k, rfl, by omega⟩ | exact ⟨hb, k, by simp, by omega⟩
        · intro a w9 hw ho hk
          refine .inl ⟨by rfl, ?_⟩
          have t48 : a.tmps[48]?.getD undef = .pointer (some ⟨S, 0, none⟩) := hk 5 48 (by kernel_rfl) rfl
          have t49 : a.tmps[49]?.getD undef = .slice na N.length nc := hk 6 49 (by kernel_rfl) rfl
          obtain ⟨r51, t51, p51⟩ : ∃ r : Nat, (a.tmps[51]?.getD undef) = .int .i64 (r : Int) ∧ r ≤ 3 := hk 8 51 (by kernel_rfl) rfl
          go_simp
          refine (drTerms_any S r51 (by omega) _ N _ (hw.src HSR.out) (HNX.out.dr hw) hN1 hNl (fun x hx => by have := HN.out x hx; omega)).mono ?_; rintro e w2 ⟨v, s, rfl, hb, o, _, l, q⟩
          have hz9 := hw.size; have hpw := Nat.pow_le_pow_right (show 0 < 2 by omega) (show r51 + 1 ≤ 4 by omega); obtain ⟨a9, c9, rfl⟩ := own_slice o; first | exact ⟨hb, _, rfl, a9, c9, s, rfl, own_base o hz9, by omega, q⟩ | exact ⟨hb, a9, c9, s, by simp, own_base o hz9, by omega, q⟩
        · intro a w9 hw ho hk
          refine .inl ⟨by rfl, ?_⟩
          have t47 : a.tmps[47]?.getD undef = .string nm := hk 4 47 (by kernel_rfl) rfl
          obtain ⟨a52, c52, s52, t52, o52, l52, q52⟩ : ∃ (ad : Option Addr) (c : Nat) (s : List ETerm), (a.tmps[52]?.getD undef) = .slice ad s.length c ∧ w9.ownsRow w4.heap.size 66 3 (.slice ad s.length c) s.length (s.flatMap encTerm) ∧ s.length ≤ 15 ∧ ∀ x ∈ s, fitTerm x := hk 9 52 (by kernel_rfl) rfl
          go_simp
          first | exact ⟨Dr.refl _ _, _, rfl, a52, c52, s52, rfl, o52, l52, q52⟩ | exact ⟨Dr.refl _ _, a52, c52, s52, by simp, o52, l52, q52⟩
        · intro a w9 hw ho hk
          refine .inl ⟨by rfl, ?_⟩
          obtain ⟨a53, c53, s53, t53, o53, l53, q53⟩ : ∃ (ad : Option Addr) (c : Nat) (s : List ETerm), (a.tmps[53]?.getD undef) = .agg #[.string nm, .slice ad s.length c] ∧ w9.ownsRow w4.heap.size 66 3 (.slice ad s.length c) s.length (s.flatMap encTerm) ∧ s.length ≤ 15 ∧ ∀ x ∈ s, fitTerm x := hk 10 53 (by kernel_rfl) rfl
          have hz9 := hw.size; go_simp; first | exact ⟨(Dr.refl _ _).alloc _, _, rfl, _, rfl, hz9, _, _, _, Blk.alloc_at rfl, o53.alloc _, l53, q53⟩ | exact ⟨(Dr.refl _ _).alloc _, _, by simp, hz9, _, _, _, Blk.alloc_at rfl, o53.alloc _, l53, q53⟩
      intro w5 b5
      rintro _ rfl
      rintro _ rfl
      rintro _ rfl
      rintro _ rfl
      rintro _ rfl
      rintro _ rfl
      rintro _ rfl
      rintro _ rfl
      rintro _ ⟨r51, rfl, p51⟩
      rintro _ ⟨a52, c52, s52, rfl, o52, l52, q52⟩
      rintro _ ⟨a53, c53, s53, rfl, o53, l53, q53⟩
      rintro _ ⟨z54, rfl, y54, k54⟩
      have z5 := b5.size
      try simp only [World.size_alloc, World.size_drew, World.heap_drewN, World.size_setCell] at z5
      try clear c4_0 f4_0 K4_0
      try clear c4_1 f4_1 K4_1
      try clear c4_2 f4_2 K4_2
      try clear c4_3 f4_3 K4_3
      try clear c4_4 f4_4 K4_4
      try clear c4_5 f4_5 K4_5
      try clear c3_0 f3_0 K3_0
      try clear c3_1 f3_1 K3_1
      try clear c3_2 f3_2 K3_2
      try clear c3_3 f3_3 K3_3
      try clear c3_4 f3_4 K3_4
      try clear c3_5 f3_5 K3_5
      try clear c2_0 f2_0 K2_0
      try clear c2_1 f2_1 K2_1
      try clear c2_2 f2_2 K2_2
      try clear c2_3 f2_3 K2_3
      try clear c2_4 f2_4 K2_4
      try clear c2_5 f2_5 K2_5
      have y5 : S < w5.heap.size := by omega
      simp only [RD.EndAll, List.nil_append, List.cons_append, List.length_cons, List.length_nil, Nat.zero_add, Nat.reduceAdd, List.take_succ_cons, List.take_zero, List.drop_succ_cons, List.drop_zero, RD.putAll, Act.put, List.setIfInBounds_toArray, List.set_cons_succ, List.set_cons_zero]
      subst hul
      obtain ⟨xq, cq, sq, K9, o9, l9, q9⟩ := k54
      clear o52 o53
      have hL5 := hL.out.dr b5 (by omega)
      have hL5r := hL5.row
      have hLz := own_block_lt hL5r
      have hlp : ps.length ≤ 6 := by omega
      have R9 := Lib.hid (rd_of_blkL K9)
      go_wp2_with (first | (at_builtin; refine wpList_append_rd rfl _ _ 46 rfl (w7.heap.size) 91 iL (Value.agg #[.string ⟨#[]⟩, .slice none 0 0]) 2 40 Tryz.underlying46 hiL hz0L hz1L hz2L rfl (by decide) _ _ _ rfl (hL5r) _ 1 ([.string nm, .slice xq sq.length cq]) rfl (R9.out) (by simp) (by intro u hu; simp at hu; rcases hu with rfl | rfl <;> rfl) (by unfold maxLen; omega) (by omega) (by first | (simp; done) | (simp; omega) | omega) ?_; intro va wa howna hgra))
      have B5 := B4.trans b5
      have zB5 := B5.size
      have hLa : OwnLs wa w7.heap.size va (ps ++ [((⟨nm, sq⟩ : LineD), Value.slice xq sq.length cq)]) := hL5.app (own_base o9 zB4) hgra howna
      have Ba : Dr S w7 wa := Dr.grown B5 hgra (fun q hq => (hLz q hq).1)
      have hTa := Lib.hid (own_grK (own_dr hT.out b5 (by omega)) hgra (fun i j h1 h2 => own_ne_ownK hL5r (own_dr hT.out b5 (by omega)) (by decide) i j h1 h2))
      have hTr := Lib.hid (own_rd hTa.out)
      replace hLa := Lib.hid hLa
      have zBa := Ba.size
      clear hgra howna hL5r hLz o9 K9 R9 hL hL5 hT hx HSR HNX b5 oN4
      have htc := Rd.cap hTr.out
      have htw := (own_block_lt hTa.out tb rfl).1
      have htlk : (ts.take k4).length = k4 := by simp; omega
      have hwk : IntKind.i64.wrap ((k4 : Int) + 1) = (k4 : Int) + 1 := IntWalk.i64_in _ (by omega)
      have hkt : ((k4 : Int) + 1).toNat = k4 + 1 := by omega
      have hk0 : (0 : Int) ≤ (k4 : Int) + 1 := by omega
      have hk4 : k4 ≤ tc := by omega
      have hk5 : k4 + 1 ≤ tc := by omega
      have hk1 : (k4 : Int) + 1 ≤ ts.length := by omega
      rename World => w8
      rename Value => v8
      have htb8 : tb < w8.heap.size := by
        obtain ⟨_, _, e, _, _, hc⟩ := hTr.out
        obtain ⟨_, _, e2, hlt8, _⟩ := hc k4 (.string ts[k4]) (by simp [q4])
        cases e; cases e2; exact hlt8
      refine RG.wp_facts [fun X W' => ∃ q, X = .slice (some ⟨q, 0, none⟩) 0 0 ∧ w8.heap.size ≤ q ∧ Blk W' q #[] 9, fun X _ => X = .slice (some ⟨tb, to, none⟩) ts.length tc, fun X _ => X = .int .i64 (k4 : Int), fun X _ => X = .slice (some ⟨tb, to, none⟩) k4 tc, fun X W' => W'.ownsRow w8.heap.size 9 1 X k4 ((ts.take k4).map Value.string), fun X _ => X = .slice (some ⟨tb, to, none⟩) ts.length tc, fun X _ => X = .int .i64 (k4 : Int), fun X _ => X = .int .i64 ((k4 : Int) + 1), fun X W' => RdS W' X (ts.drop (k4 + 1))] (by kernel_rfl) (by kernel_rfl) ⟨fun X w0 w1 hn ⟨q56, t56, l56, o56⟩ => ⟨q56, t56, l56, o56.new hn⟩, RG.stable_eq _, RG.stable_eq _, RG.stable_eq _, fun X w0 w1 hn r60 => own_new r60 hn, RG.stable_eq _, RG.stable_eq _, RG.stable_eq _, fun X w0 w1 hn k64 => Rd.new k64 hn, trivial⟩ ?_ ?_
      · refine ⟨?_, ?_, ?_, ?_, ?_, ?_, ?_, ?_, ?_, trivial⟩
        · intro a w9 hw ho hk
          refine .inl ⟨by rfl, ?_⟩
          have hws := hw.size; go_simp; first | exact ⟨(New.refl _).alloc _, _, rfl, _, rfl, hws, Blk.alloc_at rfl⟩ | exact ⟨(New.refl _).alloc _, _, by simp, hws, Blk.alloc_at rfl⟩
        · intro a w9 hw ho hk
          refine .inl ⟨by rfl, ?_⟩
          have t2 := ho 7 rfl
          dsimp at t2
          try with_reducible replace hw := New.undrawN hw
          try with_reducible replace hw := New.undraw hw
          obtain ⟨c, f'⟩ := hw.rules
          go_simp
          exact New.refl _
        · intro a w9 hw ho hk
          refine .inl ⟨by rfl, ?_⟩
          have t2 := ho 9 rfl
          dsimp at t2
          try with_reducible replace hw := New.undrawN hw
          try with_reducible replace hw := New.undraw hw
          obtain ⟨c, f'⟩ := hw.rules
          go_simp
          exact New.refl _
        · intro a w9 hw ho hk
          refine .inl ⟨by rfl, ?_⟩
          have t57 : a.tmps[57]?.getD undef = .slice (some ⟨tb, to, none⟩) ts.length tc := hk 1 57 (by kernel_rfl) rfl
          have t58 : a.tmps[58]?.getD undef = .int .i64 (k4 : Int) := hk 2 58 (by kernel_rfl) rfl
          go_simp
          exact New.refl _
        · intro a w9 hw ho hk
          refine .inl ⟨by rfl, ?_⟩
          obtain ⟨q56, t56, l56, o56⟩ : ∃ q, (a.tmps[56]?.getD undef) = .slice (some ⟨q, 0, none⟩) 0 0 ∧ w8.heap.size ≤ q ∧ Blk w9 q #[] 9 := hk 0 56 (by kernel_rfl) rfl
          have t59 : a.tmps[59]?.getD undef = .slice (some ⟨tb, to, none⟩) k4 tc := hk 3 59 (by kernel_rfl) rfl
          have hws := hw.size; exact wp_append_fresh _ _ 39 rfl 9 i0 (.string ⟨#[]⟩) 1 16 Tryz.underlying39 hi hz0 hz1 hz2 rfl (by decide) w8.heap.size q56 l56 (by first | (simp [Act.eval, Act.get]; exact t56) | simp [Act.eval, t56]) o56 _ k4 ((ts.take k4).map Value.string) (by first | (simp [Act.eval, Act.get]; exact t59) | simp [Act.eval, t59]) (rdS_take (Rd.new hTr.out hw) (by omega)) (by simp; omega) (by intro u hu; obtain ⟨y, _, rfl⟩ := List.mem_map.1 hu; rfl) (by unfold maxLen; omega) (by omega) hws (fun v2 w2 hn2 hr2 => ⟨hn2, _, rfl, hr2⟩)
        · intro a w9 hw ho hk
          refine .inl ⟨by rfl, ?_⟩
          have t2 := ho 7 rfl
          dsimp at t2
          try with_reducible replace hw := New.undrawN hw
          try with_reducible replace hw := New.undraw hw
          obtain ⟨c, f'⟩ := hw.rules
          go_simp
          exact New.refl _
        · intro a w9 hw ho hk
          refine .inl ⟨by rfl, ?_⟩
          have t2 := ho 9 rfl
          dsimp at t2
          try with_reducible replace hw := New.undrawN hw
          try with_reducible replace hw := New.undraw hw
          obtain ⟨c, f'⟩ := hw.rules
          go_simp
          exact New.refl _
        · intro a w9 hw ho hk
          refine .inl ⟨by rfl, ?_⟩
          have t62 : a.tmps[62]?.getD undef = .int .i64 (k4 : Int) := hk 6 62 (by kernel_rfl) rfl
          go_simp
          exact New.refl _
        · intro a w9 hw ho hk
          refine .inl ⟨by rfl, ?_⟩
          have t61 : a.tmps[61]?.getD undef = .slice (some ⟨tb, to, none⟩) ts.length tc := hk 5 61 (by kernel_rfl) rfl
          have t63 : a.tmps[63]?.getD undef = .int .i64 ((k4 : Int) + 1) := hk 7 63 (by kernel_rfl) rfl
          go_simp
          first | exact ⟨New.refl _, _, rfl, rdS_dropI (Rd.new hTr.out hw) rfl (by omega)⟩ | exact ⟨New.refl _, rdS_dropI (Rd.new hTr.out hw) rfl (by omega)⟩
      intro w9 b9
      rintro _ ⟨q56, rfl, l56, o56⟩ _ rfl _ rfl _ rfl xb r60 _ rfl _ rfl _ rfl xd k64
      clear o56 l56
      try with_reducible replace b9 := New.undrawN b9
      try with_reducible replace b9 := New.undraw b9
      obtain ⟨c9, f9⟩ := b9.rules
      have z9 := b9.size
      try simp only [World.size_alloc, World.size_drew, World.heap_drewN, World.size_setCell] at z9
      have hdl : (ts.drop (k4 + 1)).length = ts.length - (k4 + 1) := by simp
      simp only [RG.EndAll, List.nil_append, List.cons_append, List.length_cons, List.length_nil, Nat.zero_add, Nat.reduceAdd, List.take_succ_cons, List.take_zero, List.drop_succ_cons, List.drop_zero, RG.putAll, Act.put, List.setIfInBounds_toArray, List.set_cons_succ, List.set_cons_zero]
      go_wp2_with (first | ((at_builtin; refine wpList_append_rd rfl _ _ 39 rfl (w8.heap.size) 9 i0 (.string ⟨#[]⟩) 1 16 Tryz.underlying39 hi hz0 hz1 hz2 rfl (by decide) _ _ _ rfl (r60) _ ((ts.drop (k4 + 1)).length) ((ts.drop (k4 + 1)).map Value.string) rfl (k64) (by simp) (by intro u hu; obtain ⟨y, _, rfl⟩ := List.mem_map.1 hu; rfl) (by unfold maxLen; omega) (by omega) (by first | (simp; done) | (simp; omega) | omega) ?_; intro va wa howna hgra)))
      have nb := New.grown b9 hgra (fun q hq => (own_block_lt r60 q hq).1)
      have oq := own_appS (xs := ts.take k4) (ys := ts.drop (k4 + 1)) (by rw [htlk]; exact howna)
      obtain ⟨da, dc, rfl⟩ := own_slice oq
      go_roundw
      case rel => exact ⟨ts.take k4 ++ ts.drop (k4 + 1), ps ++ [((⟨nm, sq⟩ : LineD), Value.slice xq sq.length cq)], own_base oq (by omega), hLa.out.new nb, by rw [List.length_append, List.length_append, List.length_singleton]; omega, Lib.hid (fun x hx => hts.out x (by rcases List.mem_append.1 hx with h | h; exact List.mem_of_mem_take h; exact List.mem_of_mem_drop h)), Lib.hid (fun p hp => by rcases List.mem_append.1 hp with h | h; exact hps.out p h; obtain rfl := List.mem_singleton.1 h; exact ⟨hfs, l9, q9⟩), Ba.trans (Dr.of_new nb)⟩
      case measure => simp only [slen, List.length_append, htlk, hdl]; omega
    · obtain rfl : ts = [] := List.eq_nil_of_length_eq_zero (by omega)
      have zR : w.heap.size ≤ wr.heap.size := by omega
      have oI8 := Lib.hid (own_rd (own_dr oI7.out hb (by omega)))
      have oV8 := Lib.hid (own_rd (own_dr oV7.out hb (by omega)))
      have oO8 := Lib.hid (own_rd (own_dr oO7.out hb (by omega)))
      obtain ⟨la, lc, rfl⟩ := own_slice hL.row
      replace hL := Lib.hid hL
      replace hT := Lib.hid hT
      have own0 : (wr.alloc (.cells #[] 9)).ownsRow wr.heap.size 9 1 (.slice (some ⟨wr.heap.size, 0, none⟩) 0 0) 0 [] := own_empty (Nat.le_refl _)
      go_wp2_with (first | ((at_builtin; refine wpList_append_rd rfl _ _ 39 rfl (wr.heap.size) 9 i0 (.string ⟨#[]⟩) 1 16 Tryz.underlying39 hi hz0 hz1 hz2 rfl (by decide) _ _ _ rfl (own0) _ (I.length) (I.map Value.string) rfl (Rd.new oI8.out (by repeat (first | with_reducible exact New.refl _ | with_reducible assumption | with_reducible refine New.drew ?_ | with_reducible refine New.drewN ?_ _ | with_reducible refine New.alloc ?_ _ | with_reducible refine New.setCell ?_ (by first | (simp; done) | (simp; omega) | omega) _ | with_reducible refine New.trans ?_ (by with_reducible assumption)))) (by simp) (by intro u hu; obtain ⟨y, _, rfl⟩ := List.mem_map.1 hu; rfl) (by unfold maxLen; omega) (by omega) (by first | (simp; done) | (simp; omega) | omega) ?_; intro va wa howna hgra); have e1 : New wr wa := New.grown ((New.refl wr).alloc _) hgra (fun q hq => (own_block_lt own0 q hq).1); have oI9 : Hid (wa.ownsRow wr.heap.size 9 1 va I.length (I.map Value.string)) := Lib.hid (by simpa using howna); obtain ⟨avI, cvI, rfl⟩ := own_slice howna; clear howna hgra own0; rename World => e4; have ez1 := e1.size; have own2 : (e4.alloc (.cells #[] 9)).ownsRow e4.heap.size 9 1 (.slice (some ⟨e4.heap.size, 0, none⟩) 0 0) 0 [] := own_empty (Nat.le_refl _)) | ((at_builtin; refine wpList_append_rd rfl _ _ 39 rfl (e4.heap.size) 9 i0 (.string ⟨#[]⟩) 1 16 Tryz.underlying39 hi hz0 hz1 hz2 rfl (by decide) _ _ _ rfl (own2) _ (V.length) (V.map Value.string) rfl (Rd.new oV8.out (e1.alloc _)) (by simp) (by intro u hu; obtain ⟨y, _, rfl⟩ := List.mem_map.1 hu; rfl) (by unfold maxLen; omega) (by omega) (by first | (simp; done) | (simp; omega) | omega) ?_; intro va wa howna hgra); have e2 : New e4 wa := New.grown ((New.refl e4).alloc _) hgra (fun q hq => (own_block_lt own2 q hq).1); have oV9 : Hid (wa.ownsRow e4.heap.size 9 1 va V.length (V.map Value.string)) := Lib.hid (by simpa using howna); obtain ⟨avV, cvV, rfl⟩ := own_slice howna; clear howna hgra own2; rename World => e5; have ez2 := e2.size; have own3 : (e5.alloc (.cells #[] 9)).ownsRow e5.heap.size 9 1 (.slice (some ⟨e5.heap.size, 0, none⟩) 0 0) 0 [] := own_empty (Nat.le_refl _)) | ((at_builtin; refine wpList_append_rd rfl _ _ 39 rfl (e5.heap.size) 9 i0 (.string ⟨#[]⟩) 1 16 Tryz.underlying39 hi hz0 hz1 hz2 rfl (by decide) _ _ _ rfl (own3) _ (O.length) (O.map Value.string) rfl (Rd.new oO8.out ((e1.trans e2).alloc _)) (by simp) (by intro u hu; obtain ⟨y, _, rfl⟩ := List.mem_map.1 hu; rfl) (by unfold maxLen; omega) (by omega) (by first | (simp; done) | (simp; omega) | omega) ?_; intro va wa howna hgra); have e3 : New e5 wa := New.grown ((New.refl e5).alloc _) hgra (fun q hq => (own_block_lt own3 q hq).1); have oO9 : Hid (wa.ownsRow e5.heap.size 9 1 va O.length (O.map Value.string)) := Lib.hid (by simpa using howna); obtain ⟨avO, cvO, rfl⟩ := own_slice howna; clear howna hgra own3; rename World => e6; have ez3 := e3.size))
      simp only [Nat.zero_add] at oI9 oV9 oO9
      have hApV : ∀ i j, (Value.slice avI I.length cvI).ownBlock = some i → (Value.slice avV V.length cvV).ownBlock = some j → i ≠ j := fun i j h1 h2 => by have := (own_block_lt oI9.out i h1).2; have := (own_block_lt oV9.out j h2).1; omega
      have hApO : ∀ i j, (Value.slice avI I.length cvI).ownBlock = some i → (Value.slice avO O.length cvO).ownBlock = some j → i ≠ j := fun i j h1 h2 => by have := (own_block_lt oI9.out i h1).2; have := (own_block_lt oO9.out j h2).1; omega
      have D6 : Dr S w e6 := (((D7.trans hb).trans (Dr.of_new e1)).trans (Dr.of_new e2)).trans (Dr.of_new e3)
      have KR : Blk e6 w.heap.size #[.string ⟨#[]⟩, .slice none 0 0, .slice none 0 0, .slice none 0 0, .string ⟨#[]⟩, .slice none 0 0] 48 := (((K7.dr hb (by omega)).new e1).new e2).new e3
      have OP : OwnPg e6 (w.heap.size + 1) ⟨⟨#[114, 105, 100, 101]⟩, I, V, O, ⟨#[]⟩, ps.map Prod.fst⟩ (.slice avI I.length cvI) (.slice avV V.length cvV) (.slice avO O.length cvO) (.slice la ps.length lc) :=
        ⟨own_base (own_new (own_new oI9.out e2) e3) (by omega), own_base (own_new oV9.out e3) (by omega), own_base oO9.out (by omega), ps, rfl, (((hL.out.new e1).new e2).new e3).base (by omega)⟩
      have SP := sm_of (I := I) (V := V) (O := O) (ps := ps) hI hV hO hps.out (by have := hlen; simp at this; omega) (by have := hlen; simp at this; omega)
      have oN6 := Lib.hid (own_new (own_new (own_new (own_dr oN7.out hb (by omega)) e1) e2) e3)
      replace OP := Lib.hid OP
      have zE6 := D6.size
      clear oI9 oV9 oO9 oI8 oV8 oO8 oI7 oV7 oO7 oN7 oT7 hT hL K7 D7 hb e1 e2 e3 oI oV oO D3 n37 HTS hts hps
      refine (l01Next_any S 3 _ (Dr.src ?hs9 HS.out)).mono ?_
      case hs9 => exact (by repeat (first | with_reducible refine Dr.setCell ?_ (by first | (simp; done) | (simp; omega) | omega) _ | with_reducible refine Dr.alloc ?_ _ | with_reducible exact Dr.refl _ _ | with_reducible assumption | with_reducible refine Dr.trans ?_ (by with_reducible assumption) | with_reducible refine Dr.trans ?_ (Dr.of_new (by with_reducible assumption)) | with_reducible refine Dr.drewN ?_ _ | with_reducible refine Dr.drew ?_))
      rintro e w6 ⟨r6, rfl, p6, q6, b6⟩
      have D9 := Dr.trans ((Dr.refl S e6).alloc _) b6; have oN8 := Lib.hid (own_dr oN6.out D9 (by omega)); have OP8 := Lib.hid (OP.out.dr D9 (by omega)); have DW := D6.trans D9; have KR6 := (KR.alloc _).dr b6 (by omega); have KP6 := (Blk.alloc_at (w := e6) (cs := #[.string ⟨#[114, 105, 100, 101]⟩, .slice avI I.length cvI, .slice avV V.length cvV, .slice avO O.length cvO, .string ⟨#[]⟩, .slice la ps.length lc]) (T := 48) rfl).dr b6 (by omega)
      have z6 := b6.size
      try simp only [World.size_alloc, World.size_drew, World.heap_drewN, World.size_setCell] at z6
      try clear c5_0 f5_0 K5_0
      try clear c5_1 f5_1 K5_1
      try clear c5_2 f5_2 K5_2
      try clear c5_3 f5_3 K5_3
      try clear c5_4 f5_4 K5_4
      try clear c5_5 f5_5 K5_5
      try clear c4_0 f4_0 K4_0
      try clear c4_1 f4_1 K4_1
      try clear c4_2 f4_2 K4_2
      try clear c4_3 f4_3 K4_3
      try clear c4_4 f4_4 K4_4
      try clear c4_5 f4_5 K4_5
      try clear c3_0 f3_0 K3_0
      try clear c3_1 f3_1 K3_1
      try clear c3_2 f3_2 K3_2
      try clear c3_3 f3_3 K3_3
      try clear c3_4 f3_4 K3_4
      try clear c3_5 f3_5 K3_5
      have y6 : S < w6.heap.size := by omega
      clear b6 KR
      have zW := DW.size
      have hRl := KR6.lt
      have hPl := KP6.lt
      obtain ⟨cP, fP⟩ := KP6.rules
      obtain ⟨cR, fR⟩ := KR6.rules
      go_wp2_with fail
      · skip
        refine (l01Next_any S N.length _ (DW.src HS.out)).mono ?_
        rintro e w7 ⟨r7, rfl, p7, q7, b7⟩
        obtain ⟨k7, rfl⟩ := Int.eq_ofNat_of_zero_le p7; replace q7 : k7 < N.length := (by omega)
        have z7 := b7.size
        try simp only [World.size_alloc, World.size_drew, World.heap_drewN, World.size_setCell] at z7
        try clear c6_0 f6_0 K6_0
        try clear c6_1 f6_1 K6_1
        try clear c6_2 f6_2 K6_2
        try clear c6_3 f6_3 K6_3
        try clear c6_4 f6_4 K6_4
        try clear c6_5 f6_5 K6_5
        try clear c5_0 f5_0 K5_0
        try clear c5_1 f5_1 K5_1
        try clear c5_2 f5_2 K5_2
        try clear c5_3 f5_3 K5_3
        try clear c5_4 f5_4 K5_4
        try clear c5_5 f5_5 K5_5
        try clear c4_0 f4_0 K4_0
        try clear c4_1 f4_1 K4_1
        try clear c4_2 f4_2 K4_2
        try clear c4_3 f4_3 K4_3
        try clear c4_4 f4_4 K4_4
        try clear c4_5 f4_5 K4_5
        have y7 : S < w7.heap.size := by omega
        have oN9 := Lib.hid (own_dr oN8.out b7 (by omega))
        have DV := DW.trans b7
        have zV := DV.size
        obtain ⟨tb, to, rfl, htb, hx⟩ := rd_atS (own_rd oN9.out) q7
        have hfs := HN.out N[k7] (List.getElem_mem q7)
        generalize N[k7] = gd at hx hfs
        have KR7 := KR6.dr b7 (by omega)
        have KP7 := KP6.dr b7 (by omega)
        clear KR6 KP6 cP fP cR fR OP8 oN8
        have hneR : e6.heap.size ≠ w.heap.size := by omega
        obtain ⟨cP, fP⟩ := KP7.rules
        obtain ⟨cR, fR⟩ := KR7.rules
        have hRl7 := KR7.lt
        have hPl7 := KP7.lt
        go_wp2_with fail
        have DG := (D9.trans b7).setCell (p := ⟨e6.heap.size, 4, none⟩) (Nat.le_refl _) (.string gd)
        have DH := DV.setCell (p := ⟨e6.heap.size, 4, none⟩) (by dsimp only; omega) (.string gd)
        have DF := DH.set6 (b := w.heap.size) (Nat.le_refl _) (.string ⟨#[114, 105, 100, 101]⟩) (.slice avI I.length cvI) (.slice avV V.length cvV) (.slice avO O.length cvO) (.string gd) (.slice la ps.length lc)
        have OG := OP.out.dr DG (by omega)
        have OH : OwnPg _ (w.heap.size + 1) ⟨⟨#[114, 105, 100, 101]⟩, I, V, O, gd, ps.map Prod.fst⟩ (.slice avI I.length cvI) (.slice avV V.length cvV) (.slice avO O.length cvO) (.slice la ps.length lc) := ⟨OG.ins, OG.vars, OG.outs, OG.lines⟩
        have OF := OH.set6 (b := w.heap.size) (by omega) (.string ⟨#[114, 105, 100, 101]⟩) (.slice avI I.length cvI) (.slice avV V.length cvV) (.slice avO O.length cvO) (.string gd) (.slice la ps.length lc)
        exact ret_pg rfl DF (by omega) OF (SP gd hfs).1 ⟨(SP gd hfs).2, ⟨show V.length ≤ 10 by omega, show I.length ≤ 10 by omega⟩, hApV, hApO⟩ (by simp [results, Tryz.results63, go_sem, cR, fR, hRl7, hneR, cP])
      · have DF := DW.set6 (b := w.heap.size) (Nat.le_refl _) (.string ⟨#[114, 105, 100, 101]⟩) (.slice avI I.length cvI) (.slice avV V.length cvV) (.slice avO O.length cvO) (.string ⟨#[]⟩) (.slice la ps.length lc)
        have OF := OP8.out.set6 (b := w.heap.size) (by omega) (.string ⟨#[114, 105, 100, 101]⟩) (.slice avI I.length cvI) (.slice avV V.length cvV) (.slice avO O.length cvO) (.string ⟨#[]⟩) (.slice la ps.length lc)
        exact ret_pg rfl DF (by omega) OF (SP ⟨#[]⟩ (show (0 : Nat) ≤ 100 by omega)).1 ⟨(SP ⟨#[]⟩ (show (0 : Nat) ≤ 100 by omega)).2, ⟨show V.length ≤ 10 by omega, show I.length ≤ 10 by omega⟩, hApV, hApO⟩ (by simp [results, Tryz.results63, go_sem, cR, fR, hRl])
end Go.Proofs.YteielmihlfakgaaGreatDoor
