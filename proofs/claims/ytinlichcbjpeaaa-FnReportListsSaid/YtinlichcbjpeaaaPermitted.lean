/- Contracts: the trains whose moves are permitted. -/
import Derived.Test.YtinlichcbjpeaaaProg
import Derived.Test.YtinlichcbjpeaaaPermits
namespace Go.Proofs.Ytinlichcbjpeaaa
open Go Go.Proofs Go.RowKit
set_option linter.unusedVariables false
set_option linter.unusedSimpArgs false
set_option maxRecDepth 100000
def permOf (b : Int) (ps f s : List Int) : List Int × Int := if isTraf b ps then if isRep b f s then (picked (permP b ps f s) ps.length, 0) else ([], 2) else ([], 1)
theorem isTraf_bd {b : Int} {ps : List Int} (h : isTraf b ps = true) : (2 ≤ b ∧ b ≤ 8) ∧ (1 ≤ ps.length ∧ ps.length ≤ 4) ∧ ∀ k (hk : k < ps.length), 0 ≤ ps[k] ∧ ps[k] ≤ 3 * b - 1 := by
  simp only [isTraf, Bool.and_eq_true, Bool.not_eq_true'] at h
  obtain ⟨⟨h1, h2⟩, h3⟩ := h
  have h2' := inB_iff.1 h2
  refine ⟨inB_iff.1 h1, by omega, fun k hk => ?_⟩
  rw [List.any_eq_false] at h3
  have := h3 ps[k] (List.getElem_mem hk)
  simp at this
  exact inB_iff.1 this
set_option maxHeartbeats 800000 in
theorem sPermittedMoves_any (b : Int) (pv u v : Value) (ps f s : List Int) (w : World) (hp : RdI w pv ps) (hu : RdI w u f) (hv : RdI w v s) :
    Calls Try.prog 19 #[.agg #[.int .i64 b, pv], .agg #[u, v]] w (RetIC w (permOf b ps f s)) := by
  have HP := Lib.hid hp
  have HU := Lib.hid hu
  have HV := Lib.hid hv
  obtain ⟨pa, pc, rfl⟩ : ∃ a cap, pv = .slice a ps.length cap := by obtain ⟨a, cap, h, _⟩ := hp; exact ⟨a, cap, h⟩
  have hpm : ps.length ≤ 9223372036854775807 := by obtain ⟨a, cap, h, h2, _⟩ := hp; exact h2
  clear hp hu hv
  obtain ⟨i0, hi, hz0, hz1, hz2⟩ := info_parts infoI64r
  have zz : w.heap.size < w.heap.size + 1 + 1 := by omega
  rcases Bool.eq_false_or_eq_true (isTraf b ps) with h1 | h1; rotate_left
  · have HR := Lib.hid (show permOf b ps f s = ([], 1) by simp [permOf, h1])
    go_enter Try.func19, Try.ntmps19
    go_wp2_with fail
    refine (sIsTraffic_any b _ ps _ (HP.out.new (by repeat (first | with_reducible exact New.refl _ | with_reducible assumption | with_reducible refine New.drew ?_ | with_reducible refine New.drewN ?_ _ | with_reducible refine New.alloc ?_ _ | with_reducible refine New.setCell ?_ (by first | (simp; done) | (simp; omega) | omega) _ | with_reducible refine New.trans ?_ (by with_reducible assumption))))).mono ?_; rintro e w1 ⟨rfl, b1⟩
    try with_reducible replace b1 := New.undrawN b1
    try with_reducible replace b1 := New.undraw b1
    obtain ⟨c1, f1⟩ := b1.rules
    have z1 := b1.size
    try simp only [World.size_alloc, World.size_drew, World.heap_drewN, World.size_setCell] at z1
    have z1_0 : w.heap.size < w1.heap.size := by omega
    have z1_1 : w.heap.size + 1 < w1.heap.size := by omega
    go_wp2_with fail
    go_ret2
    rw [HR.out]
    exact ⟨.slice none 0 0, rfl, (by repeat (first | with_reducible exact New.refl _ | with_reducible assumption | with_reducible refine New.drew ?_ | with_reducible refine New.drewN ?_ _ | with_reducible refine New.alloc ?_ _ | with_reducible refine New.setCell ?_ (by first | (simp; done) | (simp; omega) | omega) _ | with_reducible refine New.trans ?_ (by with_reducible assumption))), World.ownsRow_nil _ _ _ _⟩
  rcases Bool.eq_false_or_eq_true (isRep b f s) with h2 | h2; rotate_left
  · have HR := Lib.hid (show permOf b ps f s = ([], 2) by simp [permOf, h1, h2])
    go_enter Try.func19, Try.ntmps19
    go_wp2_with fail
    refine (sIsTraffic_any b _ ps _ (HP.out.new (by repeat (first | with_reducible exact New.refl _ | with_reducible assumption | with_reducible refine New.drew ?_ | with_reducible refine New.drewN ?_ _ | with_reducible refine New.alloc ?_ _ | with_reducible refine New.setCell ?_ (by first | (simp; done) | (simp; omega) | omega) _ | with_reducible refine New.trans ?_ (by with_reducible assumption))))).mono ?_; rintro e w1 ⟨rfl, b1⟩
    try with_reducible replace b1 := New.undrawN b1
    try with_reducible replace b1 := New.undraw b1
    obtain ⟨c1, f1⟩ := b1.rules
    have z1 := b1.size
    try simp only [World.size_alloc, World.size_drew, World.heap_drewN, World.size_setCell] at z1
    have z1_0 : w.heap.size < w1.heap.size := by omega
    have z1_1 : w.heap.size + 1 < w1.heap.size := by omega
    go_wp2_with fail
    refine (l11Is_any b _ _ f s _ (HU.out.new (by repeat (first | with_reducible exact New.refl _ | with_reducible assumption | with_reducible refine New.drew ?_ | with_reducible refine New.drewN ?_ _ | with_reducible refine New.alloc ?_ _ | with_reducible refine New.setCell ?_ (by first | (simp; done) | (simp; omega) | omega) _ | with_reducible refine New.trans ?_ (by with_reducible assumption)))) (HV.out.new (by repeat (first | with_reducible exact New.refl _ | with_reducible assumption | with_reducible refine New.drew ?_ | with_reducible refine New.drewN ?_ _ | with_reducible refine New.alloc ?_ _ | with_reducible refine New.setCell ?_ (by first | (simp; done) | (simp; omega) | omega) _ | with_reducible refine New.trans ?_ (by with_reducible assumption))))).mono ?_; rintro e w2 ⟨rfl, b2⟩
    try with_reducible replace b2 := New.undrawN b2
    try with_reducible replace b2 := New.undraw b2
    obtain ⟨c2, f2⟩ := b2.rules
    have z2 := b2.size
    try simp only [World.size_alloc, World.size_drew, World.heap_drewN, World.size_setCell] at z2
    have z2_0 : w.heap.size < w2.heap.size := by omega
    have z2_1 : w.heap.size + 1 < w2.heap.size := by omega
    go_wp2_with fail
    go_ret2
    rw [HR.out]
    exact ⟨.slice none 0 0, rfl, (by repeat (first | with_reducible exact New.refl _ | with_reducible assumption | with_reducible refine New.drew ?_ | with_reducible refine New.drewN ?_ _ | with_reducible refine New.alloc ?_ _ | with_reducible refine New.setCell ?_ (by first | (simp; done) | (simp; omega) | omega) _ | with_reducible refine New.trans ?_ (by with_reducible assumption))), World.ownsRow_nil _ _ _ _⟩
  have HR := Lib.hid (show permOf b ps f s = (picked (permP b ps f s) ps.length, 0) by simp [permOf, h1, h2])
  obtain ⟨hb8, hl4, hall⟩ := isTraf_bd h1
  obtain ⟨e1, e2, ef, es⟩ := isRep_len h2
  have E1 := Lib.hid e1
  have E2 := Lib.hid e2
  have EF := Lib.hid ef
  have ES := Lib.hid es
  have HALL := Lib.hid hall
  clear e1 e2 ef es hall
  go_enter Try.func19, Try.ntmps19
  go_wp2_with fail
  refine (sIsTraffic_any b _ ps _ (HP.out.new (by repeat (first | with_reducible exact New.refl _ | with_reducible assumption | with_reducible refine New.drew ?_ | with_reducible refine New.drewN ?_ _ | with_reducible refine New.alloc ?_ _ | with_reducible refine New.setCell ?_ (by first | (simp; done) | (simp; omega) | omega) _ | with_reducible refine New.trans ?_ (by with_reducible assumption))))).mono ?_; rintro e w1 ⟨rfl, b1⟩
  try with_reducible replace b1 := New.undrawN b1
  try with_reducible replace b1 := New.undraw b1
  obtain ⟨c1, f1⟩ := b1.rules
  have z1 := b1.size
  try simp only [World.size_alloc, World.size_drew, World.heap_drewN, World.size_setCell] at z1
  have z1_0 : w.heap.size < w1.heap.size := by omega
  have z1_1 : w.heap.size + 1 < w1.heap.size := by omega
  go_wp2_with fail
  refine (l11Is_any b _ _ f s _ (HU.out.new (by repeat (first | with_reducible exact New.refl _ | with_reducible assumption | with_reducible refine New.drew ?_ | with_reducible refine New.drewN ?_ _ | with_reducible refine New.alloc ?_ _ | with_reducible refine New.setCell ?_ (by first | (simp; done) | (simp; omega) | omega) _ | with_reducible refine New.trans ?_ (by with_reducible assumption)))) (HV.out.new (by repeat (first | with_reducible exact New.refl _ | with_reducible assumption | with_reducible refine New.drew ?_ | with_reducible refine New.drewN ?_ _ | with_reducible refine New.alloc ?_ _ | with_reducible refine New.setCell ?_ (by first | (simp; done) | (simp; omega) | omega) _ | with_reducible refine New.trans ?_ (by with_reducible assumption))))).mono ?_; rintro e w2 ⟨rfl, b2⟩
  try with_reducible replace b2 := New.undrawN b2
  try with_reducible replace b2 := New.undraw b2
  obtain ⟨c2, f2⟩ := b2.rules
  have z2 := b2.size
  try simp only [World.size_alloc, World.size_drew, World.heap_drewN, World.size_setCell] at z2
  have z2_0 : w.heap.size < w2.heap.size := by omega
  have z2_1 : w.heap.size + 1 < w2.heap.size := by omega
  go_wp2_with fail
  go_loopw [6, 7] (fun o i wr => ∃ k : Nat, k ≤ ps.length ∧ i = .int .i64 k ∧ wr.ownsRow (w.heap.size + 1 + 1) 2 1 o (picked (permP b ps f s) k).length ((picked (permP b ps f s) k).map (Value.int .i64)) ∧ New ((w.alloc (.cells #[.int .i64 b, .slice pa ps.length pc] 32)).alloc (.cells #[u, v] 26)) wr) (fun _ i _ => ps.length - (intOf i).toNat)
  case atStart => exact ⟨0, Nat.zero_le _, rfl, own_empty (by omega), (by repeat (first | with_reducible exact New.refl _ | with_reducible assumption | with_reducible refine New.drew ?_ | with_reducible refine New.drewN ?_ _ | with_reducible refine New.alloc ?_ _ | with_reducible refine New.setCell ?_ (by first | (simp; done) | (simp; omega) | omega) _ | with_reducible refine New.trans ?_ (by with_reducible assumption)))⟩
  case round =>
    obtain ⟨k, hk, rfl, hown, hb⟩ := hrel
    obtain ⟨c, f'⟩ := hb.rules
    have hbz := hb.size
    simp only [World.size_alloc] at hbz
    have hbw : New w wr := (((New.refl w).alloc _).alloc _).trans hb
    have hpl := picked_le (permP b ps f s) k
    have k20 : wr.cell? ⟨w.heap.size, 0, none⟩ = some (.int .i64 b) := by rw [c w.heap.size 0 (by first | (simp; done) | (simp; omega))]; simp
    have k21 : wr.cell? ⟨w.heap.size, 1, none⟩ = some (.slice pa ps.length pc) := by rw [c w.heap.size 1 (by first | (simp; done) | (simp; omega))]; simp
    have k30 : wr.cell? ⟨w.heap.size + 1, 0, none⟩ = some u := by rw [c (w.heap.size + 1) 0 (by first | (simp; done) | (simp; omega))]; simp
    have k31 : wr.cell? ⟨w.heap.size + 1, 1, none⟩ = some v := by rw [c (w.heap.size + 1) 1 (by first | (simp; done) | (simp; omega))]; simp
    by_cases hlt : k < ps.length
    · go_wp2_with fail
      refine (l11Permits_any k b _ u v ps f s _ (HP.out.new hbw) (HU.out.new hbw) (HV.out.new hbw) hlt hb8 (HALL.out k hlt) E1.out.symm (by rw [← E2.out]; exact E1.out.symm) EF.out ES.out).mono ?_
      rintro e w3 ⟨rfl, b3⟩
      have z3 := b3.size
      rcases Bool.eq_false_or_eq_true (permP b ps f s k) with h3 | h3
      · have HA := Lib.hid (picked_in h3)
        go_wp2_with (at_builtin; refine wpList_append_own _ rfl _ _ 24 rfl (w.heap.size + 1 + 1) 2 i0 (.int .i64 0) 1 8 Try.underlying24 hi hz0 hz1 hz2 rfl (by decide) _ _ _ rfl ((own_new hown b3).alloc _) ⟨w3.heap.size, 0, none⟩ 1 1 [.int .i64 ((k : Int))] rfl rfl (by intro j u hj; match j, hj with | 0, hj => simp at hj; subst hj; first | (simp [Addr.add]; done) | exact alloc_one rfl) (by intro u hu; simp at hu; subst hu; rfl) (by unfold maxLen; omega) (by omega) (by first | (simp; done) | (simp; omega) | omega) ?_; intro va wa howna hgra _)
        have ba : New ((w.alloc (.cells #[.int .i64 b, .slice pa ps.length pc] 32)).alloc (.cells #[u, v] 26)) wa := New.grown ((hb.trans b3).alloc _) hgra (fun q hq => by have := (own_block_lt hown q hq).1; simpa using this)
        go_roundw
        case rel => exact ⟨k + 1, by omega, by go_num, (by rw [HA.out]; simpa using howna), ba⟩
        case measure => simp [intOf]; omega
      · have HA := Lib.hid (picked_out h3)
        go_wp2_with fail
        go_roundw
        case rel => exact ⟨k + 1, by omega, by go_num, by rw [HA.out]; exact own_new hown b3, (by repeat (first | with_reducible exact New.refl _ | with_reducible assumption | with_reducible refine New.drew ?_ | with_reducible refine New.drewN ?_ _ | with_reducible refine New.alloc ?_ _ | with_reducible refine New.setCell ?_ (by first | (simp; done) | (simp; omega) | omega) _ | with_reducible refine New.trans ?_ (by with_reducible assumption)))⟩
        case measure => simp [intOf]; omega
    · obtain rfl : k = ps.length := by omega
      go_wp2_with fail
      go_ret2
      rw [HR.out]
      exact ⟨_, rfl, hbw, own_base hown (by omega)⟩
set_option maxHeartbeats 800000 in
theorem iPermittedMoves_any (b : Int) (pv u v : Value) (ps f s : List Int) (w : World) (hp : RdI w pv ps) (hu : RdI w u f) (hv : RdI w v s) :
    Calls Try.prog 18 #[.agg #[.int .i64 b, pv], .agg #[u, v]] w (RetIC w (permOf b ps f s)) := by
  have HP := Lib.hid hp
  have HU := Lib.hid hu
  have HV := Lib.hid hv
  obtain ⟨pa, pc, rfl⟩ : ∃ a cap, pv = .slice a ps.length cap := by obtain ⟨a, cap, h, _⟩ := hp; exact ⟨a, cap, h⟩
  have hpm : ps.length ≤ 9223372036854775807 := by obtain ⟨a, cap, h, h2, _⟩ := hp; exact h2
  clear hp hu hv
  obtain ⟨i0, hi, hz0, hz1, hz2⟩ := info_parts infoI64r
  have zz : w.heap.size < w.heap.size + 1 + 1 := by omega
  rcases Bool.eq_false_or_eq_true (isTraf b ps) with h1 | h1; rotate_left
  · have HR := Lib.hid (show permOf b ps f s = ([], 1) by simp [permOf, h1])
    go_enter Try.func18, Try.ntmps18
    go_wp2_with fail
    refine (iIsTraffic_any b _ ps _ (HP.out.new (by repeat (first | with_reducible exact New.refl _ | with_reducible assumption | with_reducible refine New.drew ?_ | with_reducible refine New.drewN ?_ _ | with_reducible refine New.alloc ?_ _ | with_reducible refine New.setCell ?_ (by first | (simp; done) | (simp; omega) | omega) _ | with_reducible refine New.trans ?_ (by with_reducible assumption))))).mono ?_; rintro e w1 ⟨rfl, b1⟩
    try with_reducible replace b1 := New.undrawN b1
    try with_reducible replace b1 := New.undraw b1
    obtain ⟨c1, f1⟩ := b1.rules
    have z1 := b1.size
    try simp only [World.size_alloc, World.size_drew, World.heap_drewN, World.size_setCell] at z1
    have z1_0 : w.heap.size < w1.heap.size := by omega
    have z1_1 : w.heap.size + 1 < w1.heap.size := by omega
    go_wp2_with fail
    go_ret2
    rw [HR.out]
    exact ⟨.slice none 0 0, rfl, (by repeat (first | with_reducible exact New.refl _ | with_reducible assumption | with_reducible refine New.drew ?_ | with_reducible refine New.drewN ?_ _ | with_reducible refine New.alloc ?_ _ | with_reducible refine New.setCell ?_ (by first | (simp; done) | (simp; omega) | omega) _ | with_reducible refine New.trans ?_ (by with_reducible assumption))), World.ownsRow_nil _ _ _ _⟩
  rcases Bool.eq_false_or_eq_true (isRep b f s) with h2 | h2; rotate_left
  · have HR := Lib.hid (show permOf b ps f s = ([], 2) by simp [permOf, h1, h2])
    go_enter Try.func18, Try.ntmps18
    go_wp2_with fail
    refine (iIsTraffic_any b _ ps _ (HP.out.new (by repeat (first | with_reducible exact New.refl _ | with_reducible assumption | with_reducible refine New.drew ?_ | with_reducible refine New.drewN ?_ _ | with_reducible refine New.alloc ?_ _ | with_reducible refine New.setCell ?_ (by first | (simp; done) | (simp; omega) | omega) _ | with_reducible refine New.trans ?_ (by with_reducible assumption))))).mono ?_; rintro e w1 ⟨rfl, b1⟩
    try with_reducible replace b1 := New.undrawN b1
    try with_reducible replace b1 := New.undraw b1
    obtain ⟨c1, f1⟩ := b1.rules
    have z1 := b1.size
    try simp only [World.size_alloc, World.size_drew, World.heap_drewN, World.size_setCell] at z1
    have z1_0 : w.heap.size < w1.heap.size := by omega
    have z1_1 : w.heap.size + 1 < w1.heap.size := by omega
    go_wp2_with fail
    refine (isReport_any b _ _ f s _ (HU.out.new (by repeat (first | with_reducible exact New.refl _ | with_reducible assumption | with_reducible refine New.drew ?_ | with_reducible refine New.drewN ?_ _ | with_reducible refine New.alloc ?_ _ | with_reducible refine New.setCell ?_ (by first | (simp; done) | (simp; omega) | omega) _ | with_reducible refine New.trans ?_ (by with_reducible assumption)))) (HV.out.new (by repeat (first | with_reducible exact New.refl _ | with_reducible assumption | with_reducible refine New.drew ?_ | with_reducible refine New.drewN ?_ _ | with_reducible refine New.alloc ?_ _ | with_reducible refine New.setCell ?_ (by first | (simp; done) | (simp; omega) | omega) _ | with_reducible refine New.trans ?_ (by with_reducible assumption))))).mono ?_; rintro e w2 ⟨rfl, b2⟩
    try with_reducible replace b2 := New.undrawN b2
    try with_reducible replace b2 := New.undraw b2
    obtain ⟨c2, f2⟩ := b2.rules
    have z2 := b2.size
    try simp only [World.size_alloc, World.size_drew, World.heap_drewN, World.size_setCell] at z2
    have z2_0 : w.heap.size < w2.heap.size := by omega
    have z2_1 : w.heap.size + 1 < w2.heap.size := by omega
    go_wp2_with fail
    go_ret2
    rw [HR.out]
    exact ⟨.slice none 0 0, rfl, (by repeat (first | with_reducible exact New.refl _ | with_reducible assumption | with_reducible refine New.drew ?_ | with_reducible refine New.drewN ?_ _ | with_reducible refine New.alloc ?_ _ | with_reducible refine New.setCell ?_ (by first | (simp; done) | (simp; omega) | omega) _ | with_reducible refine New.trans ?_ (by with_reducible assumption))), World.ownsRow_nil _ _ _ _⟩
  have HR := Lib.hid (show permOf b ps f s = (picked (permP b ps f s) ps.length, 0) by simp [permOf, h1, h2])
  obtain ⟨hb8, hl4, hall⟩ := isTraf_bd h1
  obtain ⟨e1, e2, ef, es⟩ := isRep_len h2
  have E1 := Lib.hid e1
  have E2 := Lib.hid e2
  have EF := Lib.hid ef
  have ES := Lib.hid es
  have HALL := Lib.hid hall
  clear e1 e2 ef es hall
  go_enter Try.func18, Try.ntmps18
  go_wp2_with fail
  refine (iIsTraffic_any b _ ps _ (HP.out.new (by repeat (first | with_reducible exact New.refl _ | with_reducible assumption | with_reducible refine New.drew ?_ | with_reducible refine New.drewN ?_ _ | with_reducible refine New.alloc ?_ _ | with_reducible refine New.setCell ?_ (by first | (simp; done) | (simp; omega) | omega) _ | with_reducible refine New.trans ?_ (by with_reducible assumption))))).mono ?_; rintro e w1 ⟨rfl, b1⟩
  try with_reducible replace b1 := New.undrawN b1
  try with_reducible replace b1 := New.undraw b1
  obtain ⟨c1, f1⟩ := b1.rules
  have z1 := b1.size
  try simp only [World.size_alloc, World.size_drew, World.heap_drewN, World.size_setCell] at z1
  have z1_0 : w.heap.size < w1.heap.size := by omega
  have z1_1 : w.heap.size + 1 < w1.heap.size := by omega
  go_wp2_with fail
  refine (isReport_any b _ _ f s _ (HU.out.new (by repeat (first | with_reducible exact New.refl _ | with_reducible assumption | with_reducible refine New.drew ?_ | with_reducible refine New.drewN ?_ _ | with_reducible refine New.alloc ?_ _ | with_reducible refine New.setCell ?_ (by first | (simp; done) | (simp; omega) | omega) _ | with_reducible refine New.trans ?_ (by with_reducible assumption)))) (HV.out.new (by repeat (first | with_reducible exact New.refl _ | with_reducible assumption | with_reducible refine New.drew ?_ | with_reducible refine New.drewN ?_ _ | with_reducible refine New.alloc ?_ _ | with_reducible refine New.setCell ?_ (by first | (simp; done) | (simp; omega) | omega) _ | with_reducible refine New.trans ?_ (by with_reducible assumption))))).mono ?_; rintro e w2 ⟨rfl, b2⟩
  try with_reducible replace b2 := New.undrawN b2
  try with_reducible replace b2 := New.undraw b2
  obtain ⟨c2, f2⟩ := b2.rules
  have z2 := b2.size
  try simp only [World.size_alloc, World.size_drew, World.heap_drewN, World.size_setCell] at z2
  have z2_0 : w.heap.size < w2.heap.size := by omega
  have z2_1 : w.heap.size + 1 < w2.heap.size := by omega
  go_wp2_with fail
  refine (lengthI_any _ ps.length (ps.map (Value.int .i64)) _ (HP.out.new (by repeat (first | with_reducible exact New.refl _ | with_reducible assumption | with_reducible refine New.drew ?_ | with_reducible refine New.drewN ?_ _ | with_reducible refine New.alloc ?_ _ | with_reducible refine New.setCell ?_ (by first | (simp; done) | (simp; omega) | omega) _ | with_reducible refine New.trans ?_ (by with_reducible assumption))))).mono ?_; rintro e w' ⟨rfl, rfl⟩
  go_wp2_with fail
  go_loopw [6, 21] (fun o i wr => ∃ k : Nat, k ≤ ps.length ∧ i = .int .i64 k ∧ wr.ownsRow (w.heap.size + 1 + 1) 2 1 o (picked (permP b ps f s) k).length ((picked (permP b ps f s) k).map (Value.int .i64)) ∧ New ((w.alloc (.cells #[.int .i64 b, .slice pa ps.length pc] 32)).alloc (.cells #[u, v] 26)) wr) (fun _ i _ => ps.length - (intOf i).toNat)
  case atStart => exact ⟨0, Nat.zero_le _, rfl, World.ownsRow_nil _ _ _ _, (by repeat (first | with_reducible exact New.refl _ | with_reducible assumption | with_reducible refine New.drew ?_ | with_reducible refine New.drewN ?_ _ | with_reducible refine New.alloc ?_ _ | with_reducible refine New.setCell ?_ (by first | (simp; done) | (simp; omega) | omega) _ | with_reducible refine New.trans ?_ (by with_reducible assumption)))⟩
  case round =>
    obtain ⟨k, hk, rfl, hown, hb⟩ := hrel
    obtain ⟨c, f'⟩ := hb.rules
    have hbz := hb.size
    simp only [World.size_alloc] at hbz
    have hbw : New w wr := (((New.refl w).alloc _).alloc _).trans hb
    have hpl := picked_le (permP b ps f s) k
    have k20 : wr.cell? ⟨w.heap.size, 0, none⟩ = some (.int .i64 b) := by rw [c w.heap.size 0 (by first | (simp; done) | (simp; omega))]; simp
    have k21 : wr.cell? ⟨w.heap.size, 1, none⟩ = some (.slice pa ps.length pc) := by rw [c w.heap.size 1 (by first | (simp; done) | (simp; omega))]; simp
    have k30 : wr.cell? ⟨w.heap.size + 1, 0, none⟩ = some u := by rw [c (w.heap.size + 1) 0 (by first | (simp; done) | (simp; omega))]; simp
    have k31 : wr.cell? ⟨w.heap.size + 1, 1, none⟩ = some v := by rw [c (w.heap.size + 1) 1 (by first | (simp; done) | (simp; omega))]; simp
    by_cases hlt : k < ps.length
    · go_wp2_with fail
      refine (permits_any k b _ u v ps f s _ (HP.out.new hbw) (HU.out.new hbw) (HV.out.new hbw) hlt hb8 (HALL.out k hlt) E1.out.symm (by rw [← E2.out]; exact E1.out.symm) EF.out ES.out).mono ?_
      rintro e w3 ⟨rfl, b3⟩
      have z3 := b3.size
      rcases Bool.eq_false_or_eq_true (permP b ps f s k) with h3 | h3
      · have HA := Lib.hid (picked_in h3)
        go_wp2_with (at_builtin; refine wpList_append_own _ rfl _ _ 24 rfl (w.heap.size + 1 + 1) 2 i0 (.int .i64 0) 1 8 Try.underlying24 hi hz0 hz1 hz2 rfl (by decide) _ _ _ rfl ((own_new hown b3).alloc _) ⟨w3.heap.size, 0, none⟩ 1 1 [.int .i64 ((k : Int))] rfl rfl (by intro j u hj; match j, hj with | 0, hj => simp at hj; subst hj; first | (simp [Addr.add]; done) | exact alloc_one rfl) (by intro u hu; simp at hu; subst hu; rfl) (by unfold maxLen; omega) (by omega) (by first | (simp; done) | (simp; omega) | omega) ?_; intro va wa howna hgra _)
        have ba : New ((w.alloc (.cells #[.int .i64 b, .slice pa ps.length pc] 32)).alloc (.cells #[u, v] 26)) wa := New.grown ((hb.trans b3).alloc _) hgra (fun q hq => by have := (own_block_lt hown q hq).1; simpa using this)
        go_roundw
        case rel => exact ⟨k + 1, by omega, by go_num, (by rw [HA.out]; simpa using howna), ba⟩
        case measure => simp [intOf]; omega
      · have HA := Lib.hid (picked_out h3)
        go_wp2_with fail
        go_roundw
        case rel => exact ⟨k + 1, by omega, by go_num, by rw [HA.out]; exact own_new hown b3, (by repeat (first | with_reducible exact New.refl _ | with_reducible assumption | with_reducible refine New.drew ?_ | with_reducible refine New.drewN ?_ _ | with_reducible refine New.alloc ?_ _ | with_reducible refine New.setCell ?_ (by first | (simp; done) | (simp; omega) | omega) _ | with_reducible refine New.trans ?_ (by with_reducible assumption)))⟩
        case measure => simp [intOf]; omega
    · obtain rfl : k = ps.length := by omega
      go_wp2_with fail
      go_ret2
      rw [HR.out]
      exact ⟨_, rfl, hbw, own_base hown (by omega)⟩
theorem markTraffic_any (b : Int) (u : Value) (f : List Int) (B E k : Nat) (w : World) (hu : w.ownsRow B 2 1 u f.length (f.map (Value.int .i64)))
    (hk : k ≤ 100000000) (hf : f.length ≤ 1048576) (huE : ∀ k, u.ownBlock = some k → k < E) (hB : B ≤ w.heap.size) :
    Calls Try.prog 30 #[.agg #[.int .i64 b, u], .int .i64 k] w fun e w' => e = .returned (.int .i64 ((k + f.length : Nat) : Int)) ∧ Turned B E w w' := by
  have hub := own_block_lt hu
  go_enter Try.func30, Try.ntmps30
  go_wp2_with fail
  refine (markInt64S_any _ f B k _ (hu.alloc _) hf (by omega)).mono ?_
  rintro e w1 ⟨rfl, on1, own1⟩
  have t1 : Turned B E _ w1 := Turned.of_only on1 (by simp; omega) (fun k hk => ⟨(hub k hk).1, huE k hk⟩)
  go_wp2_with fail
  go_ret
  exact ⟨rfl, (Turned.of_new hB ((New.refl w).alloc _)).trans t1⟩
end Go.Proofs.Ytinlichcbjpeaaa
