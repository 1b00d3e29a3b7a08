/- A traffic is recovered from its text, for every code. No condition but the row's own: the listed tables hold what the program's text lays. -/
import Derived.Test.YtommolbkcjpjhaaDoorRows
import Derived.Test.YtommolbkcjpjhaaDoorCards
import Derived.Test.YtommolbkcjpjhaaDoorTie
import Derived.Test.YtommolbkcjpjhaaDoorShape
import Derived.Test.YtommolbkcjpjhaaDoorLawBase
import Derived.Test.YtommolbkcjpjhaaDoorFacts
import Derived.Test.YtommolbkcjpjhaaDoorTrafRI
import Derived.Test.YtommolbkcjpjhaaDoorLaidX
import Derived.Test.YtommolbkcjpjhaaDoorDraw10
import Derived.Test.YtommolbkcjpjhaaDoorDamage
import Derived.Test.YtommolbkcjpjhaaDoorOpenCodeB
namespace Go.Proofs.YtommolbkcjpjhaaDoor
open Go Go.Proofs Go.RowKit Go.ChangeShapes Go.WideShapes Go.ChangeAt
set_option linter.unusedVariables false
set_option linter.unusedSimpArgs false
set_option maxRecDepth 100000
set_option maxHeartbeats 800000 in
theorem likeInts_same (v u : Value) (xs : List Int) (w : World) (hv : RdI w v xs) (hu : RdI w u xs) :
    Calls Tryd.prog 31 #[v, u] w fun e w' => e = .returned (.bool true) ∧ New w w' := by
  obtain ⟨a, cap, rfl, hm, HC⟩ := hv.open
  obtain ⟨a', cap', rfl, hm', HC'⟩ := hu.open
  clear hv hu
  have hne : ((xs.length : Int) != xs.length) = false := by simp
  go_enter Tryd.func31, Tryd.ntmps31
  go_wp2_with fail
  go_loopw [5] (fun i wr => ∃ k : Nat, k ≤ xs.length ∧ i = .int .i64 k ∧ New w wr) (fun i _ => xs.length - (intOf i).toNat)
  case atStart => exact ⟨0, Nat.zero_le _, rfl, New.refl w⟩
  case round =>
    obtain ⟨k, hk, rfl, hb⟩ := hrel
    by_cases hlt : k < xs.length
    · obtain ⟨b, o, rfl, hbl, hx⟩ := HC.out wr hb k hlt
      obtain ⟨b', o', rfl, hbl', hx'⟩ := HC'.out wr hb k hlt
      have hxx : (xs[k] != xs[k]) = false := by simp
      go_wp2_with fail
      go_quiet (fail)
      go_wp2_with fail
      go_roundw
      case rel => exact ⟨k + 1, by omega, by go_num, (by repeat (first | with_reducible exact New.refl _ | with_reducible assumption | with_reducible refine New.drew ?_ | with_reducible refine New.drewN ?_ _ | with_reducible refine New.alloc ?_ _ | with_reducible refine New.setCell ?_ (by first | (simp; done) | (simp; omega) | omega) _ | with_reducible refine New.trans ?_ (by with_reducible assumption)))⟩
      case measure => simp [intOf]; omega
    · obtain rfl : k = xs.length := by omega
      go_wp2_with fail
      go_ret
      exact ⟨rfl, hb⟩
theorem likeTraffic_same (n : Int) (v u : Value) (ps : List Int) (w : World) (hv : RdI w v ps) (hu : RdI w u ps) :
    Calls Tryd.prog 12 #[.agg #[.int .i64 n, v], .agg #[.int .i64 n, u]] w fun e w' => e = .returned (.bool true) ∧ New w w' := by
  have HV := Lib.hid hv
  have HU := Lib.hid hu
  clear hv hu
  have zz : w.heap.size < w.heap.size + 1 + 1 := by omega
  have hnn : (n == n) = true := by simp
  go_enter Tryd.func12, Tryd.ntmps12
  go_wp2_with fail
  refine (likeInts_same _ _ ps _ (HV.out.new (by repeat (first | with_reducible exact New.refl _ | with_reducible assumption | with_reducible refine New.drew ?_ | with_reducible refine New.drewN ?_ _ | with_reducible refine New.alloc ?_ _ | with_reducible refine New.setCell ?_ (by first | (simp; done) | (simp; omega) | omega) _ | with_reducible refine New.trans ?_ (by with_reducible assumption)))) (HU.out.new (by repeat (first | with_reducible exact New.refl _ | with_reducible assumption | with_reducible refine New.drew ?_ | with_reducible refine New.drewN ?_ _ | with_reducible refine New.alloc ?_ _ | with_reducible refine New.setCell ?_ (by first | (simp; done) | (simp; omega) | omega) _ | with_reducible refine New.trans ?_ (by with_reducible assumption))))).mono ?_; rintro e w1 ⟨rfl, b1⟩
  try with_reducible replace b1 := New.undrawN b1
  try with_reducible replace b1 := New.undraw b1
  obtain ⟨c1, f1⟩ := b1.rules
  have z1 := b1.size
  try simp only [World.size_alloc, World.size_drew, World.heap_drewN, World.size_setCell] at z1
  go_wp2_with fail
  go_ret
  exact ⟨rfl, (by repeat (first | with_reducible exact New.refl _ | with_reducible assumption | with_reducible refine New.drew ?_ | with_reducible refine New.drewN ?_ _ | with_reducible refine New.alloc ?_ _ | with_reducible refine New.setCell ?_ (by first | (simp; done) | (simp; omega) | omega) _ | with_reducible refine New.trans ?_ (by with_reducible assumption)))⟩
set_option maxHeartbeats 1600000 in
theorem drawTrafficText_any (v : Value) (bs : List Int) (w : World) (hv : Rd w v bs.length (bs.map (Value.int .u8))) (hl : bs.length ≤ 4096) (hb : ∀ c ∈ bs, 0 ≤ c ∧ c ≤ 255) :
    Calls Tryd.prog 6 #[v] w (DrawTrN w) := by
  have HV := Lib.hid hv
  have HB := Lib.hid hb
  clear hv hb
  go_enter Tryd.func6, Tryd.ntmps6
  go_wp2_with fail
  refine (l01From_any w.heap.size v bs _ (rdB_new HV.out (by repeat (first | with_reducible exact New.refl _ | with_reducible assumption | with_reducible refine New.drew ?_ | with_reducible refine New.drewN ?_ _ | with_reducible refine New.alloc ?_ _ | with_reducible refine New.setCell ?_ (by first | (simp; done) | (simp; omega) | omega) _ | with_reducible refine New.trans ?_ (by with_reducible assumption)))) (by first | (simp; done) | (simp; omega)) hl HB.out).mono ?_
  rintro e w1 ⟨S, rfl, hS0, n1, hs⟩
  have b1 := Dr.of_new (S := S) n1; have hS := hs.lt; replace hs := Lib.hid hs; simp only [World.size_alloc] at hS0
  have z1 := b1.size
  try simp only [World.size_alloc, World.size_drew, World.heap_drewN, World.size_setCell] at z1
  have z1_0 : w.heap.size < w1.heap.size := by omega
  apply Blk.use (w := w1) (b := w.heap.size)
  · repeat (first | with_reducible assumption | with_reducible exact Blk.alloc_at (by first | rfl | (simp; done) | (simp; omega)) | with_reducible apply Blk.alloc | with_reducible apply Blk.drew | with_reducible apply Blk.drewN | with_reducible apply Blk.set | ((with_reducible apply Blk.set_ne); rotate_left; (focus omega)) | ((with_reducible apply Blk.dr); rotate_left; (focus (with_reducible assumption)); (focus omega)) | ((with_reducible apply Blk.new); rotate_left; (focus (with_reducible assumption))))
  intro K1_0
  try simp only [List.setIfInBounds_toArray, List.set_cons_succ, List.set_cons_zero] at K1_0
  obtain ⟨c1_0, f1_0⟩ := K1_0.rules
  have y1 : S < w1.heap.size := by omega
  go_wp2_with fail
  refine (l10Draw_any S _ (Dr.src ?hs1 hs.out)).mono ?_
  case hs1 => exact (by repeat (first | with_reducible refine Dr.setCell ?_ (by first | (simp; done) | (simp; omega) | omega) _ | with_reducible refine Dr.alloc ?_ _ | with_reducible exact Dr.refl _ _ | with_reducible assumption | with_reducible refine Dr.trans ?_ (by with_reducible assumption) | with_reducible refine Dr.trans ?_ (Dr.of_new (by with_reducible assumption)) | with_reducible refine Dr.drewN ?_ _ | with_reducible refine Dr.drew ?_))
  rintro e w2 ⟨n, u, xs, rfl, hx, b2⟩
  have z2 := b2.size
  try simp only [World.size_alloc, World.size_drew, World.heap_drewN, World.size_setCell] at z2
  have z2_0 : w.heap.size < w2.heap.size := by omega
  apply Blk.use (w := w2) (b := w.heap.size)
  · repeat (first | with_reducible assumption | with_reducible exact Blk.alloc_at (by first | rfl | (simp; done) | (simp; omega)) | with_reducible apply Blk.alloc | with_reducible apply Blk.drew | with_reducible apply Blk.drewN | with_reducible apply Blk.set | ((with_reducible apply Blk.set_ne); rotate_left; (focus omega)) | ((with_reducible apply Blk.dr); rotate_left; (focus (with_reducible assumption)); (focus omega)) | ((with_reducible apply Blk.new); rotate_left; (focus (with_reducible assumption))))
  intro K2_0
  try simp only [List.setIfInBounds_toArray, List.set_cons_succ, List.set_cons_zero] at K2_0
  obtain ⟨c2_0, f2_0⟩ := K2_0.rules
  try clear c1_0 f1_0 K1_0
  try clear c1_1 f1_1 K1_1
  try clear c1_2 f1_2 K1_2
  try clear c1_3 f1_3 K1_3
  try clear c1_4 f1_4 K1_4
  try clear c1_5 f1_5 K1_5
  have y2 : S < w2.heap.size := by omega
  obtain ⟨ua, un, uc, rfl⟩ : ∃ a n c, u = .slice a n c := by obtain ⟨⟨a, c, h, _⟩, _⟩ := hx; exact ⟨a, _, c, h⟩
  replace hx := Lib.hid hx
  have n2 : New w w2 := Dr.new (S := S) (w0 := w) (w := w1) (by repeat (first | with_reducible exact New.refl _ | with_reducible assumption | with_reducible refine New.drew ?_ | with_reducible refine New.drewN ?_ _ | with_reducible refine New.alloc ?_ _ | with_reducible refine New.setCell ?_ (by first | (simp; done) | (simp; omega) | omega) _ | with_reducible refine New.trans ?_ (by with_reducible assumption))) (by repeat (first | with_reducible refine Dr.setCell ?_ (by first | (simp; done) | (simp; omega) | omega) _ | with_reducible refine Dr.alloc ?_ _ | with_reducible exact Dr.refl _ _ | with_reducible assumption | with_reducible refine Dr.trans ?_ (by with_reducible assumption) | with_reducible refine Dr.trans ?_ (Dr.of_new (by with_reducible assumption)) | with_reducible refine Dr.drewN ?_ _ | with_reducible refine Dr.drew ?_)) (by omega)
  go_wp2_with fail
  apply ret_trn rfl (by repeat (first | with_reducible exact New.refl _ | with_reducible assumption | with_reducible refine New.drew ?_ | with_reducible refine New.drewN ?_ _ | with_reducible refine New.alloc ?_ _ | with_reducible refine New.setCell ?_ (by first | (simp; done) | (simp; omega) | omega) _ | with_reducible refine New.trans ?_ (by with_reducible assumption))) ((hx.out.set (by simp; omega) _).set (by simp; omega) _).1
  simp [results, Tryd.results6, go_sem, c2_0]
  first | exact ⟨rfl, rfl⟩ | exact rfl
def textQ (n : Int) (xs : List Int) : ByteArray := strL (if isTraf n xs then ttext n xs else [])
theorem textQ_size (n : Int) (xs : List Int) : (textQ n xs).size ≤ 13 := by
  rw [textQ, strL_size]
  split
  · rename_i h
    obtain ⟨h1, h2, h3⟩ := traf_places h
    rw [ttext_len h1 h3]; omega
  · simp
set_option maxHeartbeats 1600000 in
theorem drawReadTraffic_any (v : Value) (bs : List Int) (w : World) (hv : Rd w v bs.length (bs.map (Value.int .u8))) (hl : bs.length ≤ 4096) (hb : ∀ c ∈ bs, 0 ≤ c ∧ c ≤ 255) :
    Calls Tryd.prog 9 #[v] w fun e w' => ∃ r : ByteArray, e = .returned (.string r) ∧ r.size ≤ 1048576 ∧ New w w' := by
  have HV := Lib.hid hv
  have HB := Lib.hid hb
  clear hv hb
  have HT := Lib.hid (fun (n : Int) (q : Value) (xs : List Int) (w0 : World) (h : RdI w0 q xs) => show Calls Tryd.prog 11 #[.agg #[.int .i64 n, q]] w0 fun e w' => e = .returned (.string (textQ n xs)) ∧ New w0 w' from sTrafficText_any n q xs w0 h)
  go_enter Tryd.func9, Tryd.ntmps9
  go_wp2_with fail
  refine (l01From_any w.heap.size v bs _ (rdB_new HV.out (by repeat (first | with_reducible exact New.refl _ | with_reducible assumption | with_reducible refine New.drew ?_ | with_reducible refine New.drewN ?_ _ | with_reducible refine New.alloc ?_ _ | with_reducible refine New.setCell ?_ (by first | (simp; done) | (simp; omega) | omega) _ | with_reducible refine New.trans ?_ (by with_reducible assumption)))) (by first | (simp; done) | (simp; omega)) hl HB.out).mono ?_
  rintro e w1 ⟨S, rfl, hS0, n1, hs⟩
  have b1 := Dr.of_new (S := S) n1; have hS := hs.lt; replace hs := Lib.hid hs; try simp only [World.size_alloc] at hS0
  have z1 := b1.size
  try simp only [World.size_alloc, World.size_drew, World.heap_drewN, World.size_setCell] at z1
  have y1 : S < w1.heap.size := by omega
  go_wp2_with fail
  refine (l10Draw_any S _ (Dr.src ?hs2 hs.out)).mono ?_
  case hs2 => exact (by repeat (first | with_reducible refine Dr.setCell ?_ (by first | (simp; done) | (simp; omega) | omega) _ | with_reducible refine Dr.alloc ?_ _ | with_reducible exact Dr.refl _ _ | with_reducible assumption | with_reducible refine Dr.trans ?_ (by with_reducible assumption) | with_reducible refine Dr.trans ?_ (Dr.of_new (by with_reducible assumption)) | with_reducible refine Dr.drewN ?_ _ | with_reducible refine Dr.drew ?_))
  rintro e w2 ⟨n, u, xs, rfl, hx, b2⟩
  have z2 := b2.size
  try simp only [World.size_alloc, World.size_drew, World.heap_drewN, World.size_setCell] at z2
  try clear c1_0 f1_0 K1_0
  try clear c1_1 f1_1 K1_1
  try clear c1_2 f1_2 K1_2
  try clear c1_3 f1_3 K1_3
  try clear c1_4 f1_4 K1_4
  try clear c1_5 f1_5 K1_5
  have y2 : S < w2.heap.size := by omega
  go_wp2_with fail
  refine (HT.out n u xs _ hx.1).mono ?_
  rintro e w3 ⟨rfl, n3⟩
  have b3 := Dr.of_new (S := S) n3
  have z3 := b3.size
  try simp only [World.size_alloc, World.size_drew, World.heap_drewN, World.size_setCell] at z3
  try clear c2_0 f2_0 K2_0
  try clear c2_1 f2_1 K2_1
  try clear c2_2 f2_2 K2_2
  try clear c2_3 f2_3 K2_3
  try clear c2_4 f2_4 K2_4
  try clear c2_5 f2_5 K2_5
  try clear c1_0 f1_0 K1_0
  try clear c1_1 f1_1 K1_1
  try clear c1_2 f1_2 K1_2
  try clear c1_3 f1_3 K1_3
  try clear c1_4 f1_4 K1_4
  try clear c1_5 f1_5 K1_5
  have y3 : S < w3.heap.size := by omega
  go_wp2_with fail
  have hz := textQ_size n xs
  generalize textQ n xs = T at hz
  refine (l01Next_n S _ _ (Dr.src ?hs3 hs.out)).mono ?_
  case hs3 => exact (by repeat (first | with_reducible refine Dr.setCell ?_ (by first | (simp; done) | (simp; omega) | omega) _ | with_reducible refine Dr.alloc ?_ _ | with_reducible exact Dr.refl _ _ | with_reducible assumption | with_reducible refine Dr.trans ?_ (by with_reducible assumption) | with_reducible refine Dr.trans ?_ (Dr.of_new (by with_reducible assumption)) | with_reducible refine Dr.drewN ?_ _ | with_reducible refine Dr.drew ?_))
  rintro e w4 ⟨r4, rfl, b4⟩
  have z4 := b4.size
  try simp only [World.size_alloc, World.size_drew, World.heap_drewN, World.size_setCell] at z4
  try clear c3_0 f3_0 K3_0
  try clear c3_1 f3_1 K3_1
  try clear c3_2 f3_2 K3_2
  try clear c3_3 f3_3 K3_3
  try clear c3_4 f3_4 K3_4
  try clear c3_5 f3_5 K3_5
  try clear c2_0 f2_0 K2_0
  try clear c2_1 f2_1 K2_1
  try clear c2_2 f2_2 K2_2
  try clear c2_3 f2_3 K2_3
  try clear c2_4 f2_4 K2_4
  try clear c2_5 f2_5 K2_5
  try clear c1_0 f1_0 K1_0
  try clear c1_1 f1_1 K1_1
  try clear c1_2 f1_2 K1_2
  try clear c1_3 f1_3 K1_3
  try clear c1_4 f1_4 K1_4
  try clear c1_5 f1_5 K1_5
  have y4 : S < w4.heap.size := by omega
  go_wp2_with fail
  · skip
    refine (l01Damage_any S T _ (Dr.src ?hs4 hs.out) (by omega)).mono ?_
    case hs4 => exact (by repeat (first | with_reducible refine Dr.setCell ?_ (by first | (simp; done) | (simp; omega) | omega) _ | with_reducible refine Dr.alloc ?_ _ | with_reducible exact Dr.refl _ _ | with_reducible assumption | with_reducible refine Dr.trans ?_ (by with_reducible assumption) | with_reducible refine Dr.trans ?_ (Dr.of_new (by with_reducible assumption)) | with_reducible refine Dr.drewN ?_ _ | with_reducible refine Dr.drew ?_))
    rintro e w5 ⟨r, rfl, hr, b5⟩
    have z5 := b5.size
    try simp only [World.size_alloc, World.size_drew, World.heap_drewN, World.size_setCell] at z5
    try clear c4_0 f4_0 K4_0
    try clear c4_1 f4_1 K4_1
    try clear c4_2 f4_2 K4_2
    try clear c4_3 f4_3 K4_3
    try clear c4_4 f4_4 K4_4
    try clear c4_5 f4_5 K4_5
    try clear c3_0 f3_0 K3_0
    try clear c3_1 f3_1 K3_1
    try clear c3_2 f3_2 K3_2
    try clear c3_3 f3_3 K3_3
    try clear c3_4 f3_4 K3_4
    try clear c3_5 f3_5 K3_5
    try clear c2_0 f2_0 K2_0
    try clear c2_1 f2_1 K2_1
    try clear c2_2 f2_2 K2_2
    try clear c2_3 f2_3 K2_3
    try clear c2_4 f2_4 K2_4
    try clear c2_5 f2_5 K2_5
    have y5 : S < w5.heap.size := by omega
    go_wp2_with fail
    go_ret
    exact ⟨r, rfl, by omega, Dr.new (S := S) (w0 := w) (w := w1) (by repeat (first | with_reducible exact New.refl _ | with_reducible assumption | with_reducible refine New.drew ?_ | with_reducible refine New.drewN ?_ _ | with_reducible refine New.alloc ?_ _ | with_reducible refine New.setCell ?_ (by first | (simp; done) | (simp; omega) | omega) _ | with_reducible refine New.trans ?_ (by with_reducible assumption))) (by repeat (first | with_reducible refine Dr.setCell ?_ (by first | (simp; done) | (simp; omega) | omega) _ | with_reducible refine Dr.alloc ?_ _ | with_reducible exact Dr.refl _ _ | with_reducible assumption | with_reducible refine Dr.trans ?_ (by with_reducible assumption) | with_reducible refine Dr.trans ?_ (Dr.of_new (by with_reducible assumption)) | with_reducible refine Dr.drewN ?_ _ | with_reducible refine Dr.drew ?_)) (by omega)⟩
  · go_ret
    exact ⟨T, rfl, by omega, Dr.new (S := S) (w0 := w) (w := w1) (by repeat (first | with_reducible exact New.refl _ | with_reducible assumption | with_reducible refine New.drew ?_ | with_reducible refine New.drewN ?_ _ | with_reducible refine New.alloc ?_ _ | with_reducible refine New.setCell ?_ (by first | (simp; done) | (simp; omega) | omega) _ | with_reducible refine New.trans ?_ (by with_reducible assumption))) (by repeat (first | with_reducible refine Dr.setCell ?_ (by first | (simp; done) | (simp; omega) | omega) _ | with_reducible refine Dr.alloc ?_ _ | with_reducible exact Dr.refl _ _ | with_reducible assumption | with_reducible refine Dr.trans ?_ (by with_reducible assumption) | with_reducible refine Dr.trans ?_ (Dr.of_new (by with_reducible assumption)) | with_reducible refine Dr.drewN ?_ _ | with_reducible refine Dr.drew ?_)) (by omega)⟩
theorem textQ_rd (n : Int) (xs : List Int) : (isTraf n xs = true ∧ rdI (textQ n xs).data.toList = some (n, xs) ∧ ((textQ n xs).toList == []) = false) ∨ (isTraf n xs = false ∧ rdI (textQ n xs).data.toList = none ∧ ((textQ n xs).toList == []) = true) := by
  rcases Bool.eq_false_or_eq_true (isTraf n xs) with h | h
  · refine .inl ⟨h, ?_, ?_⟩
    · rw [textQ, if_pos h, strL_list, (rd_text h).2]
    · obtain ⟨h1, h2, h3⟩ := traf_places h
      have := ttext_len h1 h3
      rw [textQ, if_pos h, ByteArray.toList_eq, strL_list]
      cases ht : ttext n xs with
      | nil => rw [ht] at this; simp at this; omega
      | cons _ _ => rfl
  · refine .inr ⟨h, ?_, ?_⟩
    · rw [textQ, if_neg (by simp [h]), strL_list]; decide
    · rw [textQ, if_neg (by simp [h]), ByteArray.toList_eq, strL_list]; rfl
theorem rd_textQ {s : ByteArray} {n : Int} {ps : List Int} (h : rdI s.data.toList = some (n, ps)) : textQ n ps = s := by
  obtain ⟨h1, h2⟩ := rdI_ok h
  rw [textQ, if_pos h1, ← h2, strL_back]
set_option maxHeartbeats 4000000 in
theorem fnTrafficText_any (v : Value) (bs : List Int) (w : World) (hv : Rd w v bs.length (bs.map (Value.int .u8))) (hb : ∀ c ∈ bs, 0 ≤ c ∧ c ≤ 255) (hm : ML w) (hp : PW w) (he : ER w) :
    Calls Tryd.prog 3 #[v] w fun e w' => e = .returned (.bool true) ∧ New w w' := by
  have HV := Lib.hid hv
  have HB := Lib.hid hb
  have HM := Lib.hid hm; clear hm
  have HPW := Lib.hid hp; clear hp
  have HER := Lib.hid he; clear he
  clear hv hb
  by_cases hl : (4096 : Int) < (bs.length : Int)
  · go_enter Tryd.func3, Tryd.ntmps3
    go_wp2_with fail
    refine (big_any v bs.length _ _ HV.out).mono ?_; rintro e w1 ⟨rfl, rfl⟩
    go_wp2_with fail
    go_ret
    exact ⟨rfl, New.refl _⟩
  · have hl' : bs.length ≤ 4096 := by omega
    have HL := Lib.hid hl'; clear hl'
    have HT := Lib.hid (fun (n : Int) (q : Value) (xs : List Int) (w0 : World) (h : RdI w0 q xs) => show Calls Tryd.prog 11 #[.agg #[.int .i64 n, q]] w0 fun e w' => e = .returned (.string (textQ n xs)) ∧ New w0 w' from sTrafficText_any n q xs w0 h)
    have HU := Lib.hid (fun (n : Int) (q : Value) (xs : List Int) (w0 : World) (h : RdI w0 q xs) (k : New w w0) => show Calls Tryd.prog 7 #[.agg #[.int .i64 n, q]] w0 fun e w' => e = .returned (.string (textQ n xs)) ∧ New w0 w' from iTrafficText_any n q xs w0 h (HPW.out.new k))
    have HRI := Lib.hid (fun (s : ByteArray) (hs : s.size ≤ 1048576) (w0 : World) (k : New w w0) => iRead_any s w0 hs (HM.out.new k) (HPW.out.new k) (HER.out.new k))
    have HRS := Lib.hid (fun (s : ByteArray) (hs : s.size ≤ 1048576) (w0 : World) => (by have h := sRead_any s w0 hs; rw [rd_same] at h; exact h : Calls Tryd.prog 10 #[.string s] w0 (RetRd w0 (rdI s.data.toList))))
    go_enter Tryd.func3, Tryd.ntmps3
    go_wp2_with fail
    refine (big_any v bs.length _ _ HV.out).mono ?_; rintro e w1 ⟨rfl, rfl⟩
    go_wp2_with fail
    refine (drawTrafficText_any v bs _ HV.out HL.out HB.out).mono ?_; rintro e w1 ⟨n, s, ps, rfl, hps, b1⟩
    obtain ⟨sa, sc, rfl, hm, _⟩ := id hps; replace hps := Lib.hid hps
    obtain ⟨c1, f1⟩ := b1.rules
    have z1 := b1.size
    try simp only [World.size_alloc, World.size_drew, World.heap_drewN, World.size_setCell] at z1
    go_wp2_with fail
    refine (HU.out n _ ps _ (hps.out.new (by repeat (first | with_reducible exact New.refl _ | with_reducible assumption | with_reducible refine New.drew ?_ | with_reducible refine New.drewN ?_ _ | with_reducible refine New.alloc ?_ _ | with_reducible refine New.setCell ?_ (by first | (simp; done) | (simp; omega) | omega) _ | with_reducible refine New.trans ?_ (by with_reducible assumption)))) (by repeat (first | with_reducible exact New.refl _ | with_reducible assumption | with_reducible refine New.drew ?_ | with_reducible refine New.drewN ?_ _ | with_reducible refine New.alloc ?_ _ | with_reducible refine New.setCell ?_ (by first | (simp; done) | (simp; omega) | omega) _ | with_reducible refine New.trans ?_ (by with_reducible assumption)))).mono ?_; rintro e w2 ⟨rfl, b2⟩
    try with_reducible replace b2 := New.undrawN b2
    try with_reducible replace b2 := New.undraw b2
    obtain ⟨c2, f2⟩ := b2.rules
    have z2 := b2.size
    try simp only [World.size_alloc, World.size_drew, World.heap_drewN, World.size_setCell] at z2
    have z2_0 : w1.heap.size < w2.heap.size := by omega
    go_wp2_with fail
    have hTz := textQ_size n ps
    have hTR := textQ_rd n ps
    have HT2 := Lib.hid (fun (w0 : World) (h : RdI w0 (.slice sa ps.length sc) ps) => HT.out n _ ps w0 h)
    have HRT := Lib.hid (HRI.out (textQ n ps) (by omega))
    generalize textQ n ps = T at hTz hTR HT2 HRT
    have hTT : (T.toList == T.toList) = true := by simp
    have hne : ∀ R : Option (Int × List Int), rdI T.data.toList = R → (R = some (n, ps) ∧ (T.toList == []) = false) ∨ (R = none ∧ (T.toList == []) = true) := fun R h => by
      rcases hTR with ⟨_, h1, h2⟩ | ⟨_, h1, h2⟩
      · exact .inl ⟨h ▸ h1, h2⟩
      · exact .inr ⟨h ▸ h1, h2⟩
    clear hTR
    unfold RetRd at HRT
    generalize rdI T.data.toList = R1 at HRT hne
    replace HRT := Lib.hid HRT
    rcases hne R1 rfl with ⟨rfl, hTe⟩ | ⟨rfl, hTe⟩
    all_goals
      clear hne
      refine (HRT.out.out _ (by repeat (first | with_reducible exact New.refl _ | with_reducible assumption | with_reducible refine New.drew ?_ | with_reducible refine New.drewN ?_ _ | with_reducible refine New.alloc ?_ _ | with_reducible refine New.setCell ?_ (by first | (simp; done) | (simp; omega) | omega) _ | with_reducible refine New.trans ?_ (by with_reducible assumption)))).mono ?_; rintro e w3 ⟨v3, rfl, b3, o3⟩
      obtain ⟨a3, k3, rfl⟩ := own_slice o3
      obtain ⟨c3, f3⟩ := b3.rules
      have z3 := b3.size
      try simp only [World.size_alloc, World.size_drew, World.heap_drewN, World.size_setCell] at z3
      have z3_0 : w1.heap.size < w3.heap.size := by omega
      go_wp2_with fail
      refine (drawReadTraffic_any v bs _ (HV.out.new (by repeat (first | with_reducible exact New.refl _ | with_reducible assumption | with_reducible refine New.drew ?_ | with_reducible refine New.drewN ?_ _ | with_reducible refine New.alloc ?_ _ | with_reducible refine New.setCell ?_ (by first | (simp; done) | (simp; omega) | omega) _ | with_reducible refine New.trans ?_ (by with_reducible assumption)))) HL.out HB.out).mono ?_; rintro e w4 ⟨s, rfl, hs, b4⟩
      obtain ⟨c4, f4⟩ := b4.rules
      have z4 := b4.size
      try simp only [World.size_alloc, World.size_drew, World.heap_drewN, World.size_setCell] at z4
      have z4_0 : w1.heap.size < w4.heap.size := by omega
      have z4_1 : w3.heap.size < w4.heap.size := by omega
      go_wp2_with fail
      have HI := Lib.hid (fun (w0 : World) (k : New w w0) => HRI.out s hs w0 k)
      have HS := Lib.hid (HRS.out s hs)
      have hTX : ∀ (m : Int) (qs : List Int), rdI s.data.toList = some (m, qs) → textQ m qs = s := fun m qs h => rd_textQ h
      unfold RetRd at HI HS
      generalize rdI s.data.toList = R2 at HI HS hTX
      have hss : (s.toList == s.toList) = true := by simp
      have h00 : (([] : List UInt8) == []) = true := rfl
      rcases R2 with _ | ⟨m2, qs⟩
    · skip
      dsimp only [Option.map, Option.getD, Option.isSome] at HI HS
      replace HI := Lib.hid HI.out
      replace HS := Lib.hid HS.out
      clear hTX
      refine (HI.out _ (by repeat (first | with_reducible exact New.refl _ | with_reducible assumption | with_reducible refine New.drew ?_ | with_reducible refine New.drewN ?_ _ | with_reducible refine New.alloc ?_ _ | with_reducible refine New.setCell ?_ (by first | (simp; done) | (simp; omega) | omega) _ | with_reducible refine New.trans ?_ (by with_reducible assumption)))).mono ?_; rintro e w5 ⟨v5, rfl, b5, o5⟩
      obtain ⟨a5, k5, rfl⟩ := own_slice o5
      obtain ⟨c5, f5⟩ := b5.rules
      have z5 := b5.size
      try simp only [World.size_alloc, World.size_drew, World.heap_drewN, World.size_setCell] at z5
      have z5_0 : w1.heap.size < w5.heap.size := by omega
      have z5_1 : w3.heap.size < w5.heap.size := by omega
      go_wp2_with fail
      refine (HS.out _).mono ?_; rintro e w6 ⟨v6, rfl, b6, o6⟩
      obtain ⟨a6, k6, rfl⟩ := own_slice o6
      obtain ⟨c6, f6⟩ := b6.rules
      have z6 := b6.size
      try simp only [World.size_alloc, World.size_drew, World.heap_drewN, World.size_setCell] at z6
      have z6_0 : w1.heap.size < w6.heap.size := by omega
      have z6_1 : w3.heap.size < w6.heap.size := by omega
      have z6_2 : w5.heap.size < w6.heap.size := by omega
      go_wp2_with fail
      have R3 := Lib.hid (own_rd o3)
      have R5 := Lib.hid (own_rd o5)
      have R6 := Lib.hid (own_rd o6)
      clear o3 o5 o6
      refine (HT2.out _ (hps.out.new (by repeat (first | with_reducible exact New.refl _ | with_reducible assumption | with_reducible refine New.drew ?_ | with_reducible refine New.drewN ?_ _ | with_reducible refine New.alloc ?_ _ | with_reducible refine New.setCell ?_ (by first | (simp; done) | (simp; omega) | omega) _ | with_reducible refine New.trans ?_ (by with_reducible assumption))))).mono ?_; rintro e w7 ⟨rfl, b7⟩
      try with_reducible replace b7 := New.undrawN b7
      try with_reducible replace b7 := New.undraw b7
      obtain ⟨c7, f7⟩ := b7.rules
      have z7 := b7.size
      try simp only [World.size_alloc, World.size_drew, World.heap_drewN, World.size_setCell] at z7
      have z7_0 : w1.heap.size < w7.heap.size := by omega
      have z7_1 : w3.heap.size < w7.heap.size := by omega
      have z7_2 : w5.heap.size < w7.heap.size := by omega
      have z7_3 : w6.heap.size < w7.heap.size := by omega
      go_wp2_with fail
      refine (likeTraffic_same n _ _ ps _ (RdI.new R3.out (by repeat (first | with_reducible exact New.refl _ | with_reducible assumption | with_reducible refine New.drew ?_ | with_reducible refine New.drewN ?_ _ | with_reducible refine New.alloc ?_ _ | with_reducible refine New.setCell ?_ (by first | (simp; done) | (simp; omega) | omega) _ | with_reducible refine New.trans ?_ (by with_reducible assumption)))) (hps.out.new (by repeat (first | with_reducible exact New.refl _ | with_reducible assumption | with_reducible refine New.drew ?_ | with_reducible refine New.drewN ?_ _ | with_reducible refine New.alloc ?_ _ | with_reducible refine New.setCell ?_ (by first | (simp; done) | (simp; omega) | omega) _ | with_reducible refine New.trans ?_ (by with_reducible assumption))))).mono ?_; rintro e w8 ⟨rfl, b8⟩
      try with_reducible replace b8 := New.undrawN b8
      try with_reducible replace b8 := New.undraw b8
      obtain ⟨c8, f8⟩ := b8.rules
      have z8 := b8.size
      try simp only [World.size_alloc, World.size_drew, World.heap_drewN, World.size_setCell] at z8
      have z8_0 : w1.heap.size < w8.heap.size := by omega
      have z8_1 : w3.heap.size < w8.heap.size := by omega
      have z8_2 : w5.heap.size < w8.heap.size := by omega
      have z8_3 : w6.heap.size < w8.heap.size := by omega
      go_wp2_with fail
      refine (likeTraffic_same 0 _ _ [] _ (RdI.new R5.out (by repeat (first | with_reducible exact New.refl _ | with_reducible assumption | with_reducible refine New.drew ?_ | with_reducible refine New.drewN ?_ _ | with_reducible refine New.alloc ?_ _ | with_reducible refine New.setCell ?_ (by first | (simp; done) | (simp; omega) | omega) _ | with_reducible refine New.trans ?_ (by with_reducible assumption)))) (RdI.new R6.out (by repeat (first | with_reducible exact New.refl _ | with_reducible assumption | with_reducible refine New.drew ?_ | with_reducible refine New.drewN ?_ _ | with_reducible refine New.alloc ?_ _ | with_reducible refine New.setCell ?_ (by first | (simp; done) | (simp; omega) | omega) _ | with_reducible refine New.trans ?_ (by with_reducible assumption))))).mono ?_; rintro e w9 ⟨rfl, b9⟩
      try with_reducible replace b9 := New.undrawN b9
      try with_reducible replace b9 := New.undraw b9
      obtain ⟨c9, f9⟩ := b9.rules
      have z9 := b9.size
      try simp only [World.size_alloc, World.size_drew, World.heap_drewN, World.size_setCell] at z9
      have z9_0 : w1.heap.size < w9.heap.size := by omega
      have z9_1 : w3.heap.size < w9.heap.size := by omega
      have z9_2 : w5.heap.size < w9.heap.size := by omega
      have z9_3 : w6.heap.size < w9.heap.size := by omega
      go_wp2_with fail
      go_ret
      exact ⟨rfl, (by repeat (first | with_reducible exact New.refl _ | with_reducible assumption | with_reducible refine New.drew ?_ | with_reducible refine New.drewN ?_ _ | with_reducible refine New.alloc ?_ _ | with_reducible refine New.setCell ?_ (by first | (simp; done) | (simp; omega) | omega) _ | with_reducible refine New.trans ?_ (by with_reducible assumption)))⟩
    · skip
      dsimp only [Option.map, Option.getD, Option.isSome] at HI HS
      replace HI := Lib.hid HI.out
      replace HS := Lib.hid HS.out
      have hTS := hTX m2 qs rfl
      have HUS := Lib.hid (fun (q : Value) (w0 : World) (h : RdI w0 q qs) (k : New w w0) => show Calls Tryd.prog 7 #[.agg #[.int .i64 m2, q]] w0 fun e w' => e = .returned (.string s) ∧ New w0 w' from by have h1 := HU.out m2 q qs w0 h k; rw [hTS] at h1; exact h1)
      clear hTX hTS
      refine (HI.out _ (by repeat (first | with_reducible exact New.refl _ | with_reducible assumption | with_reducible refine New.drew ?_ | with_reducible refine New.drewN ?_ _ | with_reducible refine New.alloc ?_ _ | with_reducible refine New.setCell ?_ (by first | (simp; done) | (simp; omega) | omega) _ | with_reducible refine New.trans ?_ (by with_reducible assumption)))).mono ?_; rintro e w5 ⟨v5, rfl, b5, o5⟩
      obtain ⟨a5, k5, rfl⟩ := own_slice o5
      obtain ⟨c5, f5⟩ := b5.rules
      have z5 := b5.size
      try simp only [World.size_alloc, World.size_drew, World.heap_drewN, World.size_setCell] at z5
      have z5_0 : w1.heap.size < w5.heap.size := by omega
      have z5_1 : w3.heap.size < w5.heap.size := by omega
      go_wp2_with fail
      refine (HS.out _).mono ?_; rintro e w6 ⟨v6, rfl, b6, o6⟩
      obtain ⟨a6, k6, rfl⟩ := own_slice o6
      obtain ⟨c6, f6⟩ := b6.rules
      have z6 := b6.size
      try simp only [World.size_alloc, World.size_drew, World.heap_drewN, World.size_setCell] at z6
      have z6_0 : w1.heap.size < w6.heap.size := by omega
      have z6_1 : w3.heap.size < w6.heap.size := by omega
      have z6_2 : w5.heap.size < w6.heap.size := by omega
      go_wp2_with fail
      have R3 := Lib.hid (own_rd o3)
      have R5 := Lib.hid (own_rd o5)
      have R6 := Lib.hid (own_rd o6)
      clear o3 o5 o6
      refine (HT2.out _ (hps.out.new (by repeat (first | with_reducible exact New.refl _ | with_reducible assumption | with_reducible refine New.drew ?_ | with_reducible refine New.drewN ?_ _ | with_reducible refine New.alloc ?_ _ | with_reducible refine New.setCell ?_ (by first | (simp; done) | (simp; omega) | omega) _ | with_reducible refine New.trans ?_ (by with_reducible assumption))))).mono ?_; rintro e w7 ⟨rfl, b7⟩
      try with_reducible replace b7 := New.undrawN b7
      try with_reducible replace b7 := New.undraw b7
      obtain ⟨c7, f7⟩ := b7.rules
      have z7 := b7.size
      try simp only [World.size_alloc, World.size_drew, World.heap_drewN, World.size_setCell] at z7
      have z7_0 : w1.heap.size < w7.heap.size := by omega
      have z7_1 : w3.heap.size < w7.heap.size := by omega
      have z7_2 : w5.heap.size < w7.heap.size := by omega
      have z7_3 : w6.heap.size < w7.heap.size := by omega
      go_wp2_with fail
      refine (likeTraffic_same n _ _ ps _ (RdI.new R3.out (by repeat (first | with_reducible exact New.refl _ | with_reducible assumption | with_reducible refine New.drew ?_ | with_reducible refine New.drewN ?_ _ | with_reducible refine New.alloc ?_ _ | with_reducible refine New.setCell ?_ (by first | (simp; done) | (simp; omega) | omega) _ | with_reducible refine New.trans ?_ (by with_reducible assumption)))) (hps.out.new (by repeat (first | with_reducible exact New.refl _ | with_reducible assumption | with_reducible refine New.drew ?_ | with_reducible refine New.drewN ?_ _ | with_reducible refine New.alloc ?_ _ | with_reducible refine New.setCell ?_ (by first | (simp; done) | (simp; omega) | omega) _ | with_reducible refine New.trans ?_ (by with_reducible assumption))))).mono ?_; rintro e w8 ⟨rfl, b8⟩
      try with_reducible replace b8 := New.undrawN b8
      try with_reducible replace b8 := New.undraw b8
      obtain ⟨c8, f8⟩ := b8.rules
      have z8 := b8.size
      try simp only [World.size_alloc, World.size_drew, World.heap_drewN, World.size_setCell] at z8
      have z8_0 : w1.heap.size < w8.heap.size := by omega
      have z8_1 : w3.heap.size < w8.heap.size := by omega
      have z8_2 : w5.heap.size < w8.heap.size := by omega
      have z8_3 : w6.heap.size < w8.heap.size := by omega
      go_wp2_with fail
      refine (likeTraffic_same m2 _ _ qs _ (RdI.new R5.out (by repeat (first | with_reducible exact New.refl _ | with_reducible assumption | with_reducible refine New.drew ?_ | with_reducible refine New.drewN ?_ _ | with_reducible refine New.alloc ?_ _ | with_reducible refine New.setCell ?_ (by first | (simp; done) | (simp; omega) | omega) _ | with_reducible refine New.trans ?_ (by with_reducible assumption)))) (RdI.new R6.out (by repeat (first | with_reducible exact New.refl _ | with_reducible assumption | with_reducible refine New.drew ?_ | with_reducible refine New.drewN ?_ _ | with_reducible refine New.alloc ?_ _ | with_reducible refine New.setCell ?_ (by first | (simp; done) | (simp; omega) | omega) _ | with_reducible refine New.trans ?_ (by with_reducible assumption))))).mono ?_; rintro e w9 ⟨rfl, b9⟩
      try with_reducible replace b9 := New.undrawN b9
      try with_reducible replace b9 := New.undraw b9
      obtain ⟨c9, f9⟩ := b9.rules
      have z9 := b9.size
      try simp only [World.size_alloc, World.size_drew, World.heap_drewN, World.size_setCell] at z9
      have z9_0 : w1.heap.size < w9.heap.size := by omega
      have z9_1 : w3.heap.size < w9.heap.size := by omega
      have z9_2 : w5.heap.size < w9.heap.size := by omega
      have z9_3 : w6.heap.size < w9.heap.size := by omega
      go_wp2_with fail
      refine (HUS.out _ _ (RdI.new R5.out (by repeat (first | with_reducible exact New.refl _ | with_reducible assumption | with_reducible refine New.drew ?_ | with_reducible refine New.drewN ?_ _ | with_reducible refine New.alloc ?_ _ | with_reducible refine New.setCell ?_ (by first | (simp; done) | (simp; omega) | omega) _ | with_reducible refine New.trans ?_ (by with_reducible assumption)))) (by repeat (first | with_reducible exact New.refl _ | with_reducible assumption | with_reducible refine New.drew ?_ | with_reducible refine New.drewN ?_ _ | with_reducible refine New.alloc ?_ _ | with_reducible refine New.setCell ?_ (by first | (simp; done) | (simp; omega) | omega) _ | with_reducible refine New.trans ?_ (by with_reducible assumption)))).mono ?_; rintro e w10 ⟨rfl, b10⟩
      try with_reducible replace b10 := New.undrawN b10
      try with_reducible replace b10 := New.undraw b10
      obtain ⟨c10, f10⟩ := b10.rules
      have z10 := b10.size
      try simp only [World.size_alloc, World.size_drew, World.heap_drewN, World.size_setCell] at z10
      have z10_0 : w1.heap.size < w10.heap.size := by omega
      have z10_1 : w3.heap.size < w10.heap.size := by omega
      have z10_2 : w5.heap.size < w10.heap.size := by omega
      have z10_3 : w6.heap.size < w10.heap.size := by omega
      go_wp2_with fail
      go_ret
      exact ⟨rfl, (by repeat (first | with_reducible exact New.refl _ | with_reducible assumption | with_reducible refine New.drew ?_ | with_reducible refine New.drewN ?_ _ | with_reducible refine New.alloc ?_ _ | with_reducible refine New.setCell ?_ (by first | (simp; done) | (simp; omega) | omega) _ | with_reducible refine New.trans ?_ (by with_reducible assumption)))⟩
    · skip
      dsimp only [Option.map, Option.getD, Option.isSome] at HI HS
      replace HI := Lib.hid HI.out
      replace HS := Lib.hid HS.out
      clear hTX
      refine (HI.out _ (by repeat (first | with_reducible exact New.refl _ | with_reducible assumption | with_reducible refine New.drew ?_ | with_reducible refine New.drewN ?_ _ | with_reducible refine New.alloc ?_ _ | with_reducible refine New.setCell ?_ (by first | (simp; done) | (simp; omega) | omega) _ | with_reducible refine New.trans ?_ (by with_reducible assumption)))).mono ?_; rintro e w5 ⟨v5, rfl, b5, o5⟩
      obtain ⟨a5, k5, rfl⟩ := own_slice o5
      obtain ⟨c5, f5⟩ := b5.rules
      have z5 := b5.size
      try simp only [World.size_alloc, World.size_drew, World.heap_drewN, World.size_setCell] at z5
      have z5_0 : w1.heap.size < w5.heap.size := by omega
      have z5_1 : w3.heap.size < w5.heap.size := by omega
      go_wp2_with fail
      refine (HS.out _).mono ?_; rintro e w6 ⟨v6, rfl, b6, o6⟩
      obtain ⟨a6, k6, rfl⟩ := own_slice o6
      obtain ⟨c6, f6⟩ := b6.rules
      have z6 := b6.size
      try simp only [World.size_alloc, World.size_drew, World.heap_drewN, World.size_setCell] at z6
      have z6_0 : w1.heap.size < w6.heap.size := by omega
      have z6_1 : w3.heap.size < w6.heap.size := by omega
      have z6_2 : w5.heap.size < w6.heap.size := by omega
      go_wp2_with fail
      have R3 := Lib.hid (own_rd o3)
      have R5 := Lib.hid (own_rd o5)
      have R6 := Lib.hid (own_rd o6)
      clear o3 o5 o6
      refine (HT2.out _ (hps.out.new (by repeat (first | with_reducible exact New.refl _ | with_reducible assumption | with_reducible refine New.drew ?_ | with_reducible refine New.drewN ?_ _ | with_reducible refine New.alloc ?_ _ | with_reducible refine New.setCell ?_ (by first | (simp; done) | (simp; omega) | omega) _ | with_reducible refine New.trans ?_ (by with_reducible assumption))))).mono ?_; rintro e w7 ⟨rfl, b7⟩
      try with_reducible replace b7 := New.undrawN b7
      try with_reducible replace b7 := New.undraw b7
      obtain ⟨c7, f7⟩ := b7.rules
      have z7 := b7.size
      try simp only [World.size_alloc, World.size_drew, World.heap_drewN, World.size_setCell] at z7
      have z7_0 : w1.heap.size < w7.heap.size := by omega
      have z7_1 : w3.heap.size < w7.heap.size := by omega
      have z7_2 : w5.heap.size < w7.heap.size := by omega
      have z7_3 : w6.heap.size < w7.heap.size := by omega
      go_wp2_with fail
      refine (likeTraffic_same 0 _ _ [] _ (RdI.new R5.out (by repeat (first | with_reducible exact New.refl _ | with_reducible assumption | with_reducible refine New.drew ?_ | with_reducible refine New.drewN ?_ _ | with_reducible refine New.alloc ?_ _ | with_reducible refine New.setCell ?_ (by first | (simp; done) | (simp; omega) | omega) _ | with_reducible refine New.trans ?_ (by with_reducible assumption)))) (RdI.new R6.out (by repeat (first | with_reducible exact New.refl _ | with_reducible assumption | with_reducible refine New.drew ?_ | with_reducible refine New.drewN ?_ _ | with_reducible refine New.alloc ?_ _ | with_reducible refine New.setCell ?_ (by first | (simp; done) | (simp; omega) | omega) _ | with_reducible refine New.trans ?_ (by with_reducible assumption))))).mono ?_; rintro e w9 ⟨rfl, b9⟩
      try with_reducible replace b9 := New.undrawN b9
      try with_reducible replace b9 := New.undraw b9
      obtain ⟨c9, f9⟩ := b9.rules
      have z9 := b9.size
      try simp only [World.size_alloc, World.size_drew, World.heap_drewN, World.size_setCell] at z9
      have z9_0 : w1.heap.size < w9.heap.size := by omega
      have z9_1 : w3.heap.size < w9.heap.size := by omega
      have z9_2 : w5.heap.size < w9.heap.size := by omega
      have z9_3 : w6.heap.size < w9.heap.size := by omega
      go_wp2_with fail
      go_ret
      exact ⟨rfl, (by repeat (first | with_reducible exact New.refl _ | with_reducible assumption | with_reducible refine New.drew ?_ | with_reducible refine New.drewN ?_ _ | with_reducible refine New.alloc ?_ _ | with_reducible refine New.setCell ?_ (by first | (simp; done) | (simp; omega) | omega) _ | with_reducible refine New.trans ?_ (by with_reducible assumption)))⟩
    · skip
      dsimp only [Option.map, Option.getD, Option.isSome] at HI HS
      replace HI := Lib.hid HI.out
      replace HS := Lib.hid HS.out
      have hTS := hTX m2 qs rfl
      have HUS := Lib.hid (fun (q : Value) (w0 : World) (h : RdI w0 q qs) (k : New w w0) => show Calls Tryd.prog 7 #[.agg #[.int .i64 m2, q]] w0 fun e w' => e = .returned (.string s) ∧ New w0 w' from by have h1 := HU.out m2 q qs w0 h k; rw [hTS] at h1; exact h1)
      clear hTX hTS
      refine (HI.out _ (by repeat (first | with_reducible exact New.refl _ | with_reducible assumption | with_reducible refine New.drew ?_ | with_reducible refine New.drewN ?_ _ | with_reducible refine New.alloc ?_ _ | with_reducible refine New.setCell ?_ (by first | (simp; done) | (simp; omega) | omega) _ | with_reducible refine New.trans ?_ (by with_reducible assumption)))).mono ?_; rintro e w5 ⟨v5, rfl, b5, o5⟩
      obtain ⟨a5, k5, rfl⟩ := own_slice o5
      obtain ⟨c5, f5⟩ := b5.rules
      have z5 := b5.size
      try simp only [World.size_alloc, World.size_drew, World.heap_drewN, World.size_setCell] at z5
      have z5_0 : w1.heap.size < w5.heap.size := by omega
      have z5_1 : w3.heap.size < w5.heap.size := by omega
      go_wp2_with fail
      refine (HS.out _).mono ?_; rintro e w6 ⟨v6, rfl, b6, o6⟩
      obtain ⟨a6, k6, rfl⟩ := own_slice o6
      obtain ⟨c6, f6⟩ := b6.rules
      have z6 := b6.size
      try simp only [World.size_alloc, World.size_drew, World.heap_drewN, World.size_setCell] at z6
      have z6_0 : w1.heap.size < w6.heap.size := by omega
      have z6_1 : w3.heap.size < w6.heap.size := by omega
      have z6_2 : w5.heap.size < w6.heap.size := by omega
      go_wp2_with fail
      have R3 := Lib.hid (own_rd o3)
      have R5 := Lib.hid (own_rd o5)
      have R6 := Lib.hid (own_rd o6)
      clear o3 o5 o6
      refine (HT2.out _ (hps.out.new (by repeat (first | with_reducible exact New.refl _ | with_reducible assumption | with_reducible refine New.drew ?_ | with_reducible refine New.drewN ?_ _ | with_reducible refine New.alloc ?_ _ | with_reducible refine New.setCell ?_ (by first | (simp; done) | (simp; omega) | omega) _ | with_reducible refine New.trans ?_ (by with_reducible assumption))))).mono ?_; rintro e w7 ⟨rfl, b7⟩
      try with_reducible replace b7 := New.undrawN b7
      try with_reducible replace b7 := New.undraw b7
      obtain ⟨c7, f7⟩ := b7.rules
      have z7 := b7.size
      try simp only [World.size_alloc, World.size_drew, World.heap_drewN, World.size_setCell] at z7
      have z7_0 : w1.heap.size < w7.heap.size := by omega
      have z7_1 : w3.heap.size < w7.heap.size := by omega
      have z7_2 : w5.heap.size < w7.heap.size := by omega
      have z7_3 : w6.heap.size < w7.heap.size := by omega
      go_wp2_with fail
      refine (likeTraffic_same m2 _ _ qs _ (RdI.new R5.out (by repeat (first | with_reducible exact New.refl _ | with_reducible assumption | with_reducible refine New.drew ?_ | with_reducible refine New.drewN ?_ _ | with_reducible refine New.alloc ?_ _ | with_reducible refine New.setCell ?_ (by first | (simp; done) | (simp; omega) | omega) _ | with_reducible refine New.trans ?_ (by with_reducible assumption)))) (RdI.new R6.out (by repeat (first | with_reducible exact New.refl _ | with_reducible assumption | with_reducible refine New.drew ?_ | with_reducible refine New.drewN ?_ _ | with_reducible refine New.alloc ?_ _ | with_reducible refine New.setCell ?_ (by first | (simp; done) | (simp; omega) | omega) _ | with_reducible refine New.trans ?_ (by with_reducible assumption))))).mono ?_; rintro e w9 ⟨rfl, b9⟩
      try with_reducible replace b9 := New.undrawN b9
      try with_reducible replace b9 := New.undraw b9
      obtain ⟨c9, f9⟩ := b9.rules
      have z9 := b9.size
      try simp only [World.size_alloc, World.size_drew, World.heap_drewN, World.size_setCell] at z9
      have z9_0 : w1.heap.size < w9.heap.size := by omega
      have z9_1 : w3.heap.size < w9.heap.size := by omega
      have z9_2 : w5.heap.size < w9.heap.size := by omega
      have z9_3 : w6.heap.size < w9.heap.size := by omega
      go_wp2_with fail
      refine (HUS.out _ _ (RdI.new R5.out (by repeat (first | with_reducible exact New.refl _ | with_reducible assumption | with_reducible refine New.drew ?_ | with_reducible refine New.drewN ?_ _ | with_reducible refine New.alloc ?_ _ | with_reducible refine New.setCell ?_ (by first | (simp; done) | (simp; omega) | omega) _ | with_reducible refine New.trans ?_ (by with_reducible assumption)))) (by repeat (first | with_reducible exact New.refl _ | with_reducible assumption | with_reducible refine New.drew ?_ | with_reducible refine New.drewN ?_ _ | with_reducible refine New.alloc ?_ _ | with_reducible refine New.setCell ?_ (by first | (simp; done) | (simp; omega) | omega) _ | with_reducible refine New.trans ?_ (by with_reducible assumption)))).mono ?_; rintro e w10 ⟨rfl, b10⟩
      try with_reducible replace b10 := New.undrawN b10
      try with_reducible replace b10 := New.undraw b10
      obtain ⟨c10, f10⟩ := b10.rules
      have z10 := b10.size
      try simp only [World.size_alloc, World.size_drew, World.heap_drewN, World.size_setCell] at z10
      have z10_0 : w1.heap.size < w10.heap.size := by omega
      have z10_1 : w3.heap.size < w10.heap.size := by omega
      have z10_2 : w5.heap.size < w10.heap.size := by omega
      have z10_3 : w6.heap.size < w10.heap.size := by omega
      go_wp2_with fail
      go_ret
      exact ⟨rfl, (by repeat (first | with_reducible exact New.refl _ | with_reducible assumption | with_reducible refine New.drew ?_ | with_reducible refine New.drewN ?_ _ | with_reducible refine New.alloc ?_ _ | with_reducible refine New.setCell ?_ (by first | (simp; done) | (simp; omega) | omega) _ | with_reducible refine New.trans ?_ (by with_reducible assumption)))⟩
namespace fnTrafficText
theorem own : ownKnob Tryd.prog.godebug = none := by kernel_rfl
theorem reads : (Tryd.f3.params.toList.all fun t => Tryd.prog.readableRec t && decide (t < Tryd.prog.types.size)) = true := by kernel_rfl
set_option maxRecDepth 100000 in
noncomputable def low : Nat := (World.holding Tryd.prog default ⟨#[], #[], []⟩).heap.size
noncomputable def cells0 : Array Value := #[.int .u8 0, .int .u8 1, .int .u8 28, .int .u8 2, .int .u8 29, .int .u8 14, .int .u8 24, .int .u8 3, .int .u8 30, .int .u8 22, .int .u8 20, .int .u8 15, .int .u8 25, .int .u8 17, .int .u8 4, .int .u8 8, .int .u8 31, .int .u8 27, .int .u8 13, .int .u8 23, .int .u8 21, .int .u8 19, .int .u8 16, .int .u8 7, .int .u8 26, .int .u8 12, .int .u8 18, .int .u8 6, .int .u8 11, .int .u8 5, .int .u8 10, .int .u8 9]
noncomputable def cells1 : Array Value := #[.int .u8 0, .int .u8 1, .int .u8 56, .int .u8 2, .int .u8 57, .int .u8 49, .int .u8 28, .int .u8 3, .int .u8 61, .int .u8 58, .int .u8 42, .int .u8 50, .int .u8 38, .int .u8 29, .int .u8 17, .int .u8 4, .int .u8 62, .int .u8 47, .int .u8 59, .int .u8 36, .int .u8 45, .int .u8 43, .int .u8 51, .int .u8 22, .int .u8 53, .int .u8 39, .int .u8 33, .int .u8 30, .int .u8 24, .int .u8 18, .int .u8 12, .int .u8 5, .int .u8 63, .int .u8 55, .int .u8 48, .int .u8 27, .int .u8 60, .int .u8 41, .int .u8 37, .int .u8 16, .int .u8 46, .int .u8 35, .int .u8 44, .int .u8 21, .int .u8 52, .int .u8 32, .int .u8 23, .int .u8 11, .int .u8 54, .int .u8 26, .int .u8 40, .int .u8 15, .int .u8 34, .int .u8 20, .int .u8 31, .int .u8 10, .int .u8 25, .int .u8 14, .int .u8 19, .int .u8 9, .int .u8 13, .int .u8 8, .int .u8 7, .int .u8 6]
noncomputable def cells2 : Array Value := #[.int .u64 1, .int .u64 10, .int .u64 100, .int .u64 1000, .int .u64 10000, .int .u64 100000, .int .u64 1000000, .int .u64 10000000, .int .u64 100000000, .int .u64 1000000000, .int .u64 10000000000, .int .u64 100000000000, .int .u64 1000000000000, .int .u64 10000000000000, .int .u64 100000000000000, .int .u64 1000000000000000, .int .u64 10000000000000000, .int .u64 100000000000000000, .int .u64 1000000000000000000, .int .u64 10000000000000000000]
noncomputable def cells3 : Array Value := #[.int .u8 128, .int .u8 191, .int .u8 160, .int .u8 191, .int .u8 128, .int .u8 159, .int .u8 144, .int .u8 191, .int .u8 128, .int .u8 143, .int .u8 0, .int .u8 0, .int .u8 0, .int .u8 0, .int .u8 0, .int .u8 0, .int .u8 0, .int .u8 0, .int .u8 0, .int .u8 0, .int .u8 0, .int .u8 0, .int .u8 0, .int .u8 0, .int .u8 0, .int .u8 0, .int .u8 0, .int .u8 0, .int .u8 0, .int .u8 0, .int .u8 0, .int .u8 0]
noncomputable def cells4 : Array Value := #[.iface 103 (.pointer (some ⟨low + 0, 0, none⟩))]
noncomputable def cells5 : Array Value := #[.iface 103 (.pointer (some ⟨low + 1, 0, none⟩))]
noncomputable def cells6 : Array Value := (Go.Pinned.utf8FirstZ.map fun (z : Nat) => Value.int .u8 (z : Int)).toArray
noncomputable def laidWorld (os : Os) : World :=
  let w0 := World.holding Tryd.prog os ⟨#[.cells #[.string ⟨#[118, 97, 108, 117, 101, 32, 111, 117, 116, 32, 111, 102, 32, 114, 97, 110, 103, 101]⟩] 105, .cells #[.string ⟨#[105, 110, 118, 97, 108, 105, 100, 32, 115, 121, 110, 116, 97, 120]⟩] 105], #[], []⟩
  { w0 with heap := (((((((w0.heap.modify 6 fun | .cells _ t frozen => .cells cells0 t frozen | o => o).modify 7 fun | .cells _ t frozen => .cells cells1 t frozen | o => o).modify 3 fun | .cells _ t frozen => .cells cells2 t frozen | o => o).modify 5 fun | .cells _ t frozen => .cells cells3 t frozen | o => o).modify 2 fun | .cells _ t frozen => .cells cells4 t frozen | o => o).modify 1 fun | .cells _ t frozen => .cells cells5 t frozen | o => o).modify 4 fun | .cells _ t frozen => .cells cells6 t frozen | o => o) }
theorem laid_met (os : Os) : laidMet Tryd.prog Rows.fnTrafficTextRow.laid ((laidWorld os).forCall (fun _ _ => 0) ⟨#[], #[.slice none 0 0], []⟩).memory :=
  laidMet_of_run' 8 (by kernel_rfl) (by kernel_rfl)
theorem reading (os : Os) {H : Type} (enc : TypeId × Value → H) : ∃ x, DataW.whole enc Tryd.prog ((laidWorld os).forCall (fun _ _ => 0) ⟨#[], #[.slice none 0 0], []⟩).memory Tryd.f3.params.toList Rows.fnTrafficTextSpec.vars false (#[.slice none 0 0] : Array Value).toList 8 = some x :=
  Option.isSome_iff_exists.1 (by kernel_rfl)
theorem lifted (os : Os) (started : os.Started) (H : Type) (enc : TypeId × Value → H) (F : Stop.Interp) :
    ReturnsInHanded {} Tryd.checked os 3 .any ((OpenSpec.ofChange Rows.fnTrafficTextSpec).preRow enc Tryd.prog Tryd.f3 Rows.fnTrafficTextRow.domain false Rows.fnTrafficTextRow.laid) (((OpenSpec.ofChange Rows.fnTrafficTextSpec).at F).post enc Tryd.prog Tryd.f3 false true false false) := by
  obtain ⟨x, hx⟩ := reading os enc
  refine returnsInHanded_of_row (C := Tryd.checked) (s := OpenSpec.ofChange Rows.fnTrafficTextSpec) own started (by kernel_rfl) Tryd.func3
    (witness_row_at (enc := enc) (C := Tryd.checked) false (laidWorld os) #[.slice none 0 0] rfl (by kernel_rfl) (by kernel_rfl) (by kernel_rfl)
      (OpenSpec.preRow_of_cond 8 hx (by first | rfl | kernel_rfl) (fun k hk => by cases hk) (by kernel_rfl) (laid_met os))) ?_
  intro W base args ds gs before hval0 hW _ _ _ hL hSh _
  have hM : laidMet Tryd.prog Rows.fnTrafficTextRow.laid W := hL
  have hpw : PW W := pw_of_laid (show laidMet Tryd.prog (_ :: _ :: _ :: _) W from hM).tail.tail
  have her : ER W := er_of_laid (show laidMet Tryd.prog (_ :: _ :: _ :: _ :: _ :: _) W from hM).tail.tail.tail.tail (show laidMet Tryd.prog (_ :: _ :: _ :: _ :: _ :: _ :: _) W from hM).tail.tail.tail.tail.tail
  have hval : ∀ (j : Nat) t v, Tryd.f3.params[j]? = some t → args[j]? = some v → Value.okWide Tryd.prog W .any base t v := hval0
  have hW' := hW
  obtain ⟨p, q, hA0, hV, rfl, hfz, hnd⟩ := hW
  have hA : DataW.TrodAll enc Tryd.prog W 0 (fun _ => true) true Tryd.f3.params.toList args.toList ds p := hA0
  rw [Tryd.params3] at hA hval
  obtain ⟨v0, vs0, d0, ds0, p0, q0, hargs, rfl, rfl, h0, r0⟩ := trodAll_cons hA
  obtain ⟨rfl, rfl, rfl⟩ := trodAll_nil r0
  obtain rfl : args = #[v0] := by cases args; simp_all
  have o0 := hval 0 22 v0 rfl rfl
  clear hA0 hval hval0
  obtain ⟨rfl, rfl⟩ := trodVars_none hV
  have walk : Calls Tryd.prog 3 #[v0] W fun e w' => e = .returned (.bool true) ∧ New W w' := by
    obtain ⟨bs, hbs, hbb⟩ := openCode h0 o0
    exact fnTrafficText_any _ bs W hbs hbb (ml_shaped W hSh) hpw her
  refine walk.mono fun e W' ⟨he, hg⟩ => ?_
  subst he
  exact ⟨_, rfl, law_post laidOut (fun t ht => reads_of reads t ht) (fun n hn => by cases hn) rfl Tryd.underlying4 hW' rfl hg⟩
theorem said : Rows.FnTrafficTextSaid :=
  OpenClaim.holds_of_cond 3 Tryd.f3 rfl rfl rfl rfl rfl rfl rfl ⟨rfl, rfl, rfl, rfl, rfl⟩ rfl rfl rfl rfl rfl (by kernel_rfl) Tryd.func3 (by kernel_rfl)
    (of_decide_eq_true (by kernel_rfl)) (by unfold Func.isWrapper; first | (rw [if_pos (by decide +kernel)]; kernel_rfl) | (rw [if_neg (by decide +kernel)]; exact ⟨rfl, rfl⟩))
    (fun os started H enc _ F => by rw [OpenClaim.pre_eq_preRow]; exact lifted os started H enc F)
theorem plain (f : FuncId) (fn : Func) (hf : Tryd.pinned.checked.prog.funcNamed "loop.example/g00916/laws.FnTrafficText" = some f) (hfn : Tryd.pinned.checked.prog.funcs[f]? = some fn) :
    true = Tryd.pinned.checked.prog.looks [] ∧ ∀ (j : Nat) t, fn.params[j]? = some t → Tryd.pinned.checked.prog.wantsStandIn t = false := by
  obtain rfl : f = 3 := Option.some.inj ((show Tryd.prog.funcNamed "loop.example/g00916/laws.FnTrafficText" = some 3 by kernel_rfl).symm.trans hf) |>.symm
  obtain rfl : fn = Tryd.f3 := (Option.some.inj (Tryd.func3.symm.trans hfn)).symm
  refine ⟨by kernel_rfl, fun j t ht => ?_⟩
  rw [Tryd.params3] at ht
  have hm : t ∈ ([22] : List TypeId) := by simpa using Array.mem_of_getElem? ht
  have all : (([22] : List TypeId).all fun t => !Tryd.prog.wantsStandIn t) = true := by kernel_rfl
  have := List.all_eq_true.1 all t hm
  show Tryd.prog.wantsStandIn t = false
  exact (Bool.not_eq_true _).mp (fun h => by rw [h] at this; cases this)
theorem card : Rows.FnTrafficTextCardSaid :=
  Claim7.holds_tied_plain_at .later [] _ _ _ _ said (fun _ h => by cases h) (by kernel_rfl) (fun _ h => by cases h) fnTrafficText_row_tie rfl ⟨rfl, rfl⟩ (by kernel_rfl) rfl plain (by kernel_rfl)
#print axioms card
end fnTrafficText
end Go.Proofs.YtommolbkcjpjhaaDoor
