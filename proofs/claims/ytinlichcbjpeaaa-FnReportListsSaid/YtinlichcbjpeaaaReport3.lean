/- Contracts: the blocks of a report. -/
import Derived.Test.YtinlichcbjpeaaaProg
import Derived.Test.YtinlichcbjpeaaaReport2
namespace Go.Proofs.Ytinlichcbjpeaaa
open Go Go.Proofs Go.RowKit
set_option linter.unusedVariables false
set_option linter.unusedSimpArgs false
set_option maxRecDepth 100000
def sumP (f s : List Int) (sum : Int) (k : Nat) : Bool := (f.getD k 0 + s.getD k 0) == sum
theorem badR_at {f : List Int} (h : f.any badR = false) {k : Nat} (hk : k < f.length) : 0 ≤ f[k] ∧ f[k] ≤ 1 := by
  rw [List.any_eq_false] at h
  have := h f[k] (List.getElem_mem hk)
  simp [badR] at this
  exact inB_iff.1 this
theorem own_drewN {w : World} {base : Nat} {e : TypeId} {sz : Nat} {v : Value} {n : Nat} {cs : List Value} (h : w.ownsRow base e sz v n cs) (k : Nat) : (w.drewN k).ownsRow base e sz v n cs := own_new h (New.drewN (New.refl w) k)
theorem infoI64r : (Try.prog.info? 2).map (fun i => (i.zero, i.size, i.bytes)) = some (some (.int .i64 0), 1, 8) := by kernel_rfl
set_option maxHeartbeats 800000 in
theorem l11Blocks_any (nb sum : Int) (u v : Value) (f s : List Int) (w : World) (hu : RdI w u f) (hv : RdI w v s) :
    Calls Try.prog 63 #[.int .i64 nb, .agg #[u, v], .int .i64 sum] w (RetIC w (repOf nb f s (sumP f s sum))) := by
  have HU := Lib.hid hu
  have HV := Lib.hid hv
  obtain ⟨fa, fc, rfl, hfm, HF⟩ := hu.open
  obtain ⟨sa, sc, rfl, hsm, HS⟩ := hv.open
  clear hu hv
  obtain ⟨i0, hi, hz0, hz1, hz2⟩ := info_parts infoI64r
  rcases Bool.eq_false_or_eq_true (inB nb 2 8) with h1 | h1; rotate_left
  · have HR := Lib.hid (show repOf nb f s (sumP f s sum) = ([], 1) by simp [repOf, h1])
    go_enter Try.func63, Try.ntmps63
    go_wp2_with (go_at_call 102; refine (l11Number_any _ _).mono ?_; rintro e w' ⟨rfl, rfl⟩)
    go_ret2
    rw [HR.out]
    exact ⟨.slice none 0 0, rfl, (by repeat (first | with_reducible exact New.refl _ | with_reducible assumption | with_reducible refine New.drew ?_ | with_reducible refine New.drewN ?_ _ | with_reducible refine New.alloc ?_ _ | with_reducible refine New.setCell ?_ (by first | (simp; done) | (simp; omega) | omega) _ | with_reducible refine New.trans ?_ (by with_reducible assumption))), World.ownsRow_nil _ _ _ _⟩
  rcases Bool.eq_false_or_eq_true (isRep nb f s) with h2 | h2; rotate_left
  · have HR := Lib.hid (show repOf nb f s (sumP f s sum) = ([], 2) by simp [repOf, h1, h2])
    go_enter Try.func63, Try.ntmps63
    go_wp2_with (go_at_call 102; refine (l11Number_any _ _).mono ?_; rintro e w' ⟨rfl, rfl⟩)
    refine (l11Is_any _ _ _ f s _ (HU.out.new (by repeat (first | with_reducible exact New.refl _ | with_reducible assumption | with_reducible refine New.drew ?_ | with_reducible refine New.drewN ?_ _ | with_reducible refine New.alloc ?_ _ | with_reducible refine New.setCell ?_ (by first | (simp; done) | (simp; omega) | omega) _ | with_reducible refine New.trans ?_ (by with_reducible assumption)))) (HV.out.new (by repeat (first | with_reducible exact New.refl _ | with_reducible assumption | with_reducible refine New.drew ?_ | with_reducible refine New.drewN ?_ _ | with_reducible refine New.alloc ?_ _ | with_reducible refine New.setCell ?_ (by first | (simp; done) | (simp; omega) | omega) _ | with_reducible refine New.trans ?_ (by with_reducible assumption))))).mono ?_; rintro e w1 ⟨rfl, b1⟩
    try with_reducible replace b1 := New.undrawN b1
    try with_reducible replace b1 := New.undraw b1
    obtain ⟨c1, f1⟩ := b1.rules
    have z1 := b1.size
    try simp only [World.size_alloc, World.size_drew, World.heap_drewN, World.size_setCell] at z1
    have z1_0 : w.heap.size < w1.heap.size := by omega
    go_wp2_with fail
    go_ret2
    rw [HR.out]
    exact ⟨.slice none 0 0, rfl, (by repeat (first | with_reducible exact New.refl _ | with_reducible assumption | with_reducible refine New.drew ?_ | with_reducible refine New.drewN ?_ _ | with_reducible refine New.alloc ?_ _ | with_reducible refine New.setCell ?_ (by first | (simp; done) | (simp; omega) | omega) _ | with_reducible refine New.trans ?_ (by with_reducible assumption))), World.ownsRow_nil _ _ _ _⟩
  have HR := Lib.hid (show repOf nb f s (sumP f s sum) = (picked (sumP f s sum) f.length, 0) by simp [repOf, h1, h2])
  obtain ⟨e1, e2, ef, es⟩ := isRep_len h2
  have hnb := inB_iff.1 h1
  subst e1
  have hle : f.length ≤ s.length := by omega
  have hge : s.length ≤ f.length := by omega
  have EF := Lib.hid ef
  have ES := Lib.hid es
  clear e2 ef es
  go_enter Try.func63, Try.ntmps63
  go_wp2_with (go_at_call 102; refine (l11Number_any _ _).mono ?_; rintro e w' ⟨rfl, rfl⟩)
  refine (l11Is_any _ _ _ f s _ (HU.out.new (by repeat (first | with_reducible exact New.refl _ | with_reducible assumption | with_reducible refine New.drew ?_ | with_reducible refine New.drewN ?_ _ | with_reducible refine New.alloc ?_ _ | with_reducible refine New.setCell ?_ (by first | (simp; done) | (simp; omega) | omega) _ | with_reducible refine New.trans ?_ (by with_reducible assumption)))) (HV.out.new (by repeat (first | with_reducible exact New.refl _ | with_reducible assumption | with_reducible refine New.drew ?_ | with_reducible refine New.drewN ?_ _ | with_reducible refine New.alloc ?_ _ | with_reducible refine New.setCell ?_ (by first | (simp; done) | (simp; omega) | omega) _ | with_reducible refine New.trans ?_ (by with_reducible assumption))))).mono ?_; rintro e w1 ⟨rfl, b1⟩
  try with_reducible replace b1 := New.undrawN b1
  try with_reducible replace b1 := New.undraw b1
  obtain ⟨c1, f1⟩ := b1.rules
  have z1 := b1.size
  try simp only [World.size_alloc, World.size_drew, World.heap_drewN, World.size_setCell] at z1
  have z1_0 : w.heap.size < w1.heap.size := by omega
  go_wp2_with fail
  go_loopw [8, 9] (fun o i wr => ∃ k : Nat, k ≤ f.length ∧ i = .int .i64 k ∧ wr.ownsRow (w.heap.size + 1) 2 1 o (picked (sumP f s sum) k).length ((picked (sumP f s sum) k).map (Value.int .i64)) ∧ New (w.alloc (.cells #[.slice fa f.length fc, .slice sa s.length sc] 26)) wr) (fun _ i _ => f.length - (intOf i).toNat)
  case atStart => exact ⟨0, Nat.zero_le _, rfl, own_empty (by omega), (by repeat (first | with_reducible exact New.refl _ | with_reducible assumption | with_reducible refine New.drew ?_ | with_reducible refine New.drewN ?_ _ | with_reducible refine New.alloc ?_ _ | with_reducible refine New.setCell ?_ (by first | (simp; done) | (simp; omega) | omega) _ | with_reducible refine New.trans ?_ (by with_reducible assumption)))⟩
  case round =>
    obtain ⟨k, hk, rfl, hown, hb⟩ := hrel
    obtain ⟨c, f'⟩ := hb.rules
    have hbz := hb.size
    simp only [World.size_alloc] at hbz
    by_cases hlt : k < f.length
    · have hlt' : k < s.length := by omega
      obtain ⟨b1', o1, rfl, hbl1, hx1⟩ := HF.out w (New.refl w) k hlt
      obtain ⟨b2', o2, rfl, hbl2, hx2⟩ := HS.out w (New.refl w) k hlt'
      have d1 := badR_at EF.out hlt
      have d2 := badR_at ES.out hlt'
      have hpl := picked_le (sumP f s sum) k
      have HS' := Lib.hid (show sumP f s sum k = (f[k] + s[k] == sum) by simp [sumP, List.getD, hlt, hlt'])
      rcases Bool.eq_false_or_eq_true (f[k] + s[k] == sum) with h3 | h3
      · have HA := Lib.hid (picked_in (HS'.out.trans h3))
        go_wp2_with fail
        go_quiet (fail)
        go_wp2_with (at_builtin; refine wpList_append_own _ rfl _ _ 24 rfl (w.heap.size + 1) 2 i0 (.int .i64 0) 1 8 Try.underlying24 hi hz0 hz1 hz2 rfl (by decide) _ _ _ rfl ((own_drewN hown _).alloc _) ⟨wr.heap.size, 0, none⟩ 1 1 [.int .i64 ((k : Int))] rfl rfl (by intro j u hj; match j, hj with | 0, hj => simp at hj; subst hj; first | (simp [Addr.add]; done) | exact alloc_one rfl) (by intro u hu; simp at hu; subst hu; rfl) (by unfold maxLen; omega) (by omega) (by first | (simp; done) | (simp; omega) | omega) ?_; intro va wa howna hgra _)
        have ba : New (w.alloc (.cells #[.slice (some ⟨b1', o1, none⟩) f.length fc, .slice (some ⟨b2', o2, none⟩) s.length sc] 26)) wa := New.grown ((hb.drewN _).alloc _) hgra (fun q hq => by have := (own_block_lt hown q hq).1; simpa using this)
        go_roundw
        case rel => exact ⟨k + 1, by omega, by go_num, (by rw [HA.out]; simpa using howna), ba⟩
        case measure => simp [intOf]; omega
      · have HA := Lib.hid (picked_out (HS'.out.trans h3))
        go_wp2_with fail
        go_quiet (fail)
        go_wp2_with fail
        go_roundw
        case rel => exact ⟨k + 1, by omega, by go_num, by rw [HA.out]; exact own_drewN hown _, (by repeat (first | with_reducible exact New.refl _ | with_reducible assumption | with_reducible refine New.drew ?_ | with_reducible refine New.drewN ?_ _ | with_reducible refine New.alloc ?_ _ | with_reducible refine New.setCell ?_ (by first | (simp; done) | (simp; omega) | omega) _ | with_reducible refine New.trans ?_ (by with_reducible assumption)))⟩
        case measure => simp [intOf]; omega
    · obtain rfl : k = f.length := by omega
      go_wp2_with fail
      go_ret2
      rw [HR.out]
      exact ⟨_, rfl, (by repeat (first | with_reducible exact New.refl _ | with_reducible assumption | with_reducible refine New.drew ?_ | with_reducible refine New.drewN ?_ _ | with_reducible refine New.alloc ?_ _ | with_reducible refine New.setCell ?_ (by first | (simp; done) | (simp; omega) | omega) _ | with_reducible refine New.trans ?_ (by with_reducible assumption))), own_base hown (by omega)⟩
theorem sDiscrepancies_any (nb : Int) (u v : Value) (f s : List Int) (w : World) (hu : RdI w u f) (hv : RdI w v s) :
    Calls Try.prog 16 #[.int .i64 nb, .agg #[u, v]] w (RetIC w (repOf nb f s (sumP f s 1))) := by
  go_enter Try.func16, Try.ntmps16
  go_wp2_with fail
  refine (l11Blocks_any nb 1 u v f s _ (hu.new (by repeat (first | with_reducible exact New.refl _ | with_reducible assumption | with_reducible refine New.drew ?_ | with_reducible refine New.drewN ?_ _ | with_reducible refine New.alloc ?_ _ | with_reducible refine New.setCell ?_ (by first | (simp; done) | (simp; omega) | omega) _ | with_reducible refine New.trans ?_ (by with_reducible assumption)))) (hv.new (by repeat (first | with_reducible exact New.refl _ | with_reducible assumption | with_reducible refine New.drew ?_ | with_reducible refine New.drewN ?_ _ | with_reducible refine New.alloc ?_ _ | with_reducible refine New.setCell ?_ (by first | (simp; done) | (simp; omega) | omega) _ | with_reducible refine New.trans ?_ (by with_reducible assumption))))).mono ?_
  rintro e w1 ⟨r, rfl, b1, o1⟩
  go_wp2_with fail
  go_ret2
  exact ⟨_, rfl, (by repeat (first | with_reducible exact New.refl _ | with_reducible assumption | with_reducible refine New.drew ?_ | with_reducible refine New.drewN ?_ _ | with_reducible refine New.alloc ?_ _ | with_reducible refine New.setCell ?_ (by first | (simp; done) | (simp; omega) | omega) _ | with_reducible refine New.trans ?_ (by with_reducible assumption))), own_base o1 (by simp)⟩
theorem sClearBlocks_any (nb : Int) (u v : Value) (f s : List Int) (w : World) (hu : RdI w u f) (hv : RdI w v s) :
    Calls Try.prog 14 #[.int .i64 nb, .agg #[u, v]] w (RetIC w (repOf nb f s (sumP f s 0))) := by
  go_enter Try.func14, Try.ntmps14
  go_wp2_with fail
  refine (l11Blocks_any nb 0 u v f s _ (hu.new (by repeat (first | with_reducible exact New.refl _ | with_reducible assumption | with_reducible refine New.drew ?_ | with_reducible refine New.drewN ?_ _ | with_reducible refine New.alloc ?_ _ | with_reducible refine New.setCell ?_ (by first | (simp; done) | (simp; omega) | omega) _ | with_reducible refine New.trans ?_ (by with_reducible assumption)))) (hv.new (by repeat (first | with_reducible exact New.refl _ | with_reducible assumption | with_reducible refine New.drew ?_ | with_reducible refine New.drewN ?_ _ | with_reducible refine New.alloc ?_ _ | with_reducible refine New.setCell ?_ (by first | (simp; done) | (simp; omega) | omega) _ | with_reducible refine New.trans ?_ (by with_reducible assumption))))).mono ?_
  rintro e w1 ⟨r, rfl, b1, o1⟩
  go_wp2_with fail
  go_ret2
  exact ⟨_, rfl, (by repeat (first | with_reducible exact New.refl _ | with_reducible assumption | with_reducible refine New.drew ?_ | with_reducible refine New.drewN ?_ _ | with_reducible refine New.alloc ?_ _ | with_reducible refine New.setCell ?_ (by first | (simp; done) | (simp; omega) | omega) _ | with_reducible refine New.trans ?_ (by with_reducible assumption))), own_base o1 (by simp)⟩
set_option maxHeartbeats 800000 in
theorem blocksOf_any (F : FuncId) (first caps : Array Value) (p : Nat → Bool) (nb : Int) (u v : Value) (f s : List Int) (w : World) (hu : RdI w u f) (hv : RdI w v s)
    (hF : ∀ args w, Sem.run Try.prog (callFunc F args) w = .ok (.enter F args) w)
    (hp : ∀ (k : Nat) w1, k < f.length → isRep nb f s = true → New w w1 → Calls Try.prog F (first ++ #[.int .i64 (k : Int)] ++ caps) w1 fun e w' => e = .returned (.bool (p k)) ∧ New w1 w') :
    Calls Try.prog 61 #[.int .i64 nb, .agg #[u, v], .func (.func F) first caps] w (RetIC w (repOf nb f s p)) := by
  have HU := Lib.hid hu
  have HV := Lib.hid hv
  have HP := Lib.hid hp
  clear hu hv hp
  obtain ⟨i0, hi, hz0, hz1, hz2⟩ := info_parts infoI64r
  rcases Bool.eq_false_or_eq_true (inB nb 2 8) with h1 | h1; rotate_left
  · have HR := Lib.hid (show repOf nb f s p = ([], 1) by simp [repOf, h1])
    go_enter Try.func61, Try.ntmps61
    go_wp2_with (go_at_call 100; refine (isBlockCount_any _ _).mono ?_; rintro e w' ⟨rfl, rfl⟩)
    go_ret2
    rw [HR.out]
    exact ⟨.slice none 0 0, rfl, (by repeat (first | with_reducible exact New.refl _ | with_reducible assumption | with_reducible refine New.drew ?_ | with_reducible refine New.drewN ?_ _ | with_reducible refine New.alloc ?_ _ | with_reducible refine New.setCell ?_ (by first | (simp; done) | (simp; omega) | omega) _ | with_reducible refine New.trans ?_ (by with_reducible assumption))), World.ownsRow_nil _ _ _ _⟩
  rcases Bool.eq_false_or_eq_true (isRep nb f s) with h2 | h2; rotate_left
  · have HR := Lib.hid (show repOf nb f s p = ([], 2) by simp [repOf, h1, h2])
    go_enter Try.func61, Try.ntmps61
    go_wp2_with (go_at_call 100; refine (isBlockCount_any _ _).mono ?_; rintro e w' ⟨rfl, rfl⟩)
    refine (isReport_any _ _ _ f s _ (HU.out.new (by repeat (first | with_reducible exact New.refl _ | with_reducible assumption | with_reducible refine New.drew ?_ | with_reducible refine New.drewN ?_ _ | with_reducible refine New.alloc ?_ _ | with_reducible refine New.setCell ?_ (by first | (simp; done) | (simp; omega) | omega) _ | with_reducible refine New.trans ?_ (by with_reducible assumption)))) (HV.out.new (by repeat (first | with_reducible exact New.refl _ | with_reducible assumption | with_reducible refine New.drew ?_ | with_reducible refine New.drewN ?_ _ | with_reducible refine New.alloc ?_ _ | with_reducible refine New.setCell ?_ (by first | (simp; done) | (simp; omega) | omega) _ | with_reducible refine New.trans ?_ (by with_reducible assumption))))).mono ?_; rintro e w1 ⟨rfl, b1⟩
    try with_reducible replace b1 := New.undrawN b1
    try with_reducible replace b1 := New.undraw b1
    obtain ⟨c1, f1⟩ := b1.rules
    have z1 := b1.size
    try simp only [World.size_alloc, World.size_drew, World.heap_drewN, World.size_setCell] at z1
    have z1_0 : w.heap.size < w1.heap.size := by omega
    go_wp2_with fail
    go_ret2
    rw [HR.out]
    exact ⟨.slice none 0 0, rfl, (by repeat (first | with_reducible exact New.refl _ | with_reducible assumption | with_reducible refine New.drew ?_ | with_reducible refine New.drewN ?_ _ | with_reducible refine New.alloc ?_ _ | with_reducible refine New.setCell ?_ (by first | (simp; done) | (simp; omega) | omega) _ | with_reducible refine New.trans ?_ (by with_reducible assumption))), World.ownsRow_nil _ _ _ _⟩
  have HR := Lib.hid (show repOf nb f s p = (picked p f.length, 0) by simp [repOf, h1, h2])
  obtain ⟨e1, e2, ef, es⟩ := isRep_len h2
  have hnb := inB_iff.1 h1
  subst e1
  clear e2 ef es
  go_enter Try.func61, Try.ntmps61
  go_wp2_with (go_at_call 100; refine (isBlockCount_any _ _).mono ?_; rintro e w' ⟨rfl, rfl⟩)
  refine (isReport_any _ _ _ f s _ (HU.out.new (by repeat (first | with_reducible exact New.refl _ | with_reducible assumption | with_reducible refine New.drew ?_ | with_reducible refine New.drewN ?_ _ | with_reducible refine New.alloc ?_ _ | with_reducible refine New.setCell ?_ (by first | (simp; done) | (simp; omega) | omega) _ | with_reducible refine New.trans ?_ (by with_reducible assumption)))) (HV.out.new (by repeat (first | with_reducible exact New.refl _ | with_reducible assumption | with_reducible refine New.drew ?_ | with_reducible refine New.drewN ?_ _ | with_reducible refine New.alloc ?_ _ | with_reducible refine New.setCell ?_ (by first | (simp; done) | (simp; omega) | omega) _ | with_reducible refine New.trans ?_ (by with_reducible assumption))))).mono ?_; rintro e w1 ⟨rfl, b1⟩
  try with_reducible replace b1 := New.undrawN b1
  try with_reducible replace b1 := New.undraw b1
  obtain ⟨c1, f1⟩ := b1.rules
  have z1 := b1.size
  try simp only [World.size_alloc, World.size_drew, World.heap_drewN, World.size_setCell] at z1
  have z1_0 : w.heap.size < w1.heap.size := by omega
  go_wp2_with fail
  go_loopw [8, 20] (fun o i wr => ∃ k : Nat, k ≤ f.length ∧ i = .int .i64 k ∧ wr.ownsRow (w.heap.size + 1) 2 1 o (picked p k).length ((picked p k).map (Value.int .i64)) ∧ New (w.alloc (.cells #[u, v] 26)) wr) (fun _ i _ => f.length - (intOf i).toNat)
  case atStart => exact ⟨0, Nat.zero_le _, rfl, World.ownsRow_nil _ _ _ _, (by repeat (first | with_reducible exact New.refl _ | with_reducible assumption | with_reducible refine New.drew ?_ | with_reducible refine New.drewN ?_ _ | with_reducible refine New.alloc ?_ _ | with_reducible refine New.setCell ?_ (by first | (simp; done) | (simp; omega) | omega) _ | with_reducible refine New.trans ?_ (by with_reducible assumption)))⟩
  case round =>
    obtain ⟨k, hk, rfl, hown, hb⟩ := hrel
    have hbz := hb.size
    simp only [World.size_alloc] at hbz
    have hpl := picked_le p k
    by_cases hlt : k < f.length
    · go_wp2_with fail
      refine (HP.out k _ hlt h2 ((New.alloc (New.refl w) _).trans hb)).mono ?_
      rintro e w3 ⟨rfl, b3⟩
      have z3 := b3.size
      rcases Bool.eq_false_or_eq_true (p k) with h3 | h3
      · have HA := Lib.hid (picked_in h3)
        go_wp2_with (at_builtin; refine wpList_append_own _ rfl _ _ 24 rfl (w.heap.size + 1) 2 i0 (.int .i64 0) 1 8 Try.underlying24 hi hz0 hz1 hz2 rfl (by decide) _ _ _ rfl ((own_new hown b3).alloc _) ⟨w3.heap.size, 0, none⟩ 1 1 [.int .i64 ((k : Int))] rfl rfl (by intro j u hj; match j, hj with | 0, hj => simp at hj; subst hj; first | (simp [Addr.add]; done) | exact alloc_one rfl) (by intro u hu; simp at hu; subst hu; rfl) (by unfold maxLen; omega) (by omega) (by first | (simp; done) | (simp; omega) | omega) ?_; intro va wa howna hgra _)
        have ba : New (w.alloc (.cells #[u, v] 26)) wa := New.grown ((hb.trans b3).alloc _) hgra (fun q hq => by have := (own_block_lt hown q hq).1; simpa using this)
        go_roundw
        case rel => exact ⟨k + 1, by omega, by go_num, (by rw [HA.out]; simpa using howna), ba⟩
        case measure => simp [intOf]; omega
      · have HA := Lib.hid (picked_out h3)
        go_wp2_with fail
        go_roundw
        case rel => exact ⟨k + 1, by omega, by go_num, by rw [HA.out]; exact own_new hown b3, (by repeat (first | with_reducible exact New.refl _ | with_reducible assumption | with_reducible refine New.drew ?_ | with_reducible refine New.drewN ?_ _ | with_reducible refine New.alloc ?_ _ | with_reducible refine New.setCell ?_ (by first | (simp; done) | (simp; omega) | omega) _ | with_reducible refine New.trans ?_ (by with_reducible assumption)))⟩
        case measure => simp [intOf]; omega
    · obtain rfl : k = f.length := by omega
      go_wp2_with fail
      go_ret2
      rw [HR.out]
      exact ⟨_, rfl, (by repeat (first | with_reducible exact New.refl _ | with_reducible assumption | with_reducible refine New.drew ?_ | with_reducible refine New.drewN ?_ _ | with_reducible refine New.alloc ?_ _ | with_reducible refine New.setCell ?_ (by first | (simp; done) | (simp; omega) | omega) _ | with_reducible refine New.trans ?_ (by with_reducible assumption))), own_base hown (by omega)⟩
theorem isClear_any (k : Nat) (u v : Value) (f s : List Int) (w : World) (hu : RdI w u f) (hv : RdI w v s) (hk : k < f.length) (hk' : k < s.length) :
    Calls Try.prog 62 #[.agg #[u, v], .int .i64 k] w fun e w' => e = .returned (.bool (f[k] == 0 && s[k] == 0)) ∧ New w w' := by
  obtain ⟨fa, fc, rfl, hfm, HF⟩ := hu.open
  obtain ⟨sa, sc, rfl, hsm, HS⟩ := hv.open
  clear hu hv
  obtain ⟨b1', o1, rfl, hbl1, hx1⟩ := HF.out w (New.refl w) k hk
  obtain ⟨b2', o2, rfl, hbl2, hx2⟩ := HS.out w (New.refl w) k hk'
  rcases Bool.eq_false_or_eq_true (f[k] == 0) with h3 | h3
  all_goals
    go_enter Try.func62, Try.ntmps62
    go_wp2_with fail
    go_ret
    exact ⟨ret_bool (by simp [h3]), (by repeat (first | with_reducible exact New.refl _ | with_reducible assumption | with_reducible refine New.drew ?_ | with_reducible refine New.drewN ?_ _ | with_reducible refine New.alloc ?_ _ | with_reducible refine New.setCell ?_ (by first | (simp; done) | (simp; omega) | omega) _ | with_reducible refine New.trans ?_ (by with_reducible assumption)))⟩
set_option maxHeartbeats 400000 in
theorem iClearBlocks_any (nb : Int) (u v : Value) (f s : List Int) (w : World) (hu : RdI w u f) (hv : RdI w v s) :
    Calls Try.prog 13 #[.int .i64 nb, .agg #[u, v]] w (RetIC w (repOf nb f s (sumP f s 0))) := by
  have hmf : ∀ (fn : Fn) (first cap : Array Value) (w : World), (Instr.makeFunc fn first cap).run Try.prog w = .ok (.func fn first cap) w := fun _ _ _ _ => rfl
  have HU := Lib.hid hu
  have HV := Lib.hid hv
  clear hu hv
  go_enter Try.func13, Try.ntmps13
  go_wp2_with fail
  refine (blocksOf_any 62 #[.agg #[u, v]] #[] (sumP f s 0) nb u v f s _ (HU.out.new (by repeat (first | with_reducible exact New.refl _ | with_reducible assumption | with_reducible refine New.drew ?_ | with_reducible refine New.drewN ?_ _ | with_reducible refine New.alloc ?_ _ | with_reducible refine New.setCell ?_ (by first | (simp; done) | (simp; omega) | omega) _ | with_reducible refine New.trans ?_ (by with_reducible assumption)))) (HV.out.new (by repeat (first | with_reducible exact New.refl _ | with_reducible assumption | with_reducible refine New.drew ?_ | with_reducible refine New.drewN ?_ _ | with_reducible refine New.alloc ?_ _ | with_reducible refine New.setCell ?_ (by first | (simp; done) | (simp; omega) | omega) _ | with_reducible refine New.trans ?_ (by with_reducible assumption)))) (fun _ _ => rfl) (fun k w1 hk hr hn => ?_)).mono ?_
  · obtain ⟨e1, e2, ef, es⟩ := isRep_len hr
    have d1 := badR_at ef hk
    have d2 := badR_at es (k := k) (by omega)
    refine (isClear_any k u v f s w1 (HU.out.new (by repeat (first | with_reducible exact New.refl _ | with_reducible assumption | with_reducible refine New.drew ?_ | with_reducible refine New.drewN ?_ _ | with_reducible refine New.alloc ?_ _ | with_reducible refine New.setCell ?_ (by first | (simp; done) | (simp; omega) | omega) _ | with_reducible refine New.trans ?_ (by with_reducible assumption)))) (HV.out.new (by repeat (first | with_reducible exact New.refl _ | with_reducible assumption | with_reducible refine New.drew ?_ | with_reducible refine New.drewN ?_ _ | with_reducible refine New.alloc ?_ _ | with_reducible refine New.setCell ?_ (by first | (simp; done) | (simp; omega) | omega) _ | with_reducible refine New.trans ?_ (by with_reducible assumption)))) hk (by omega)).mono fun e w' ⟨he, hw⟩ => ⟨he.trans (ret_bool ?_), hw⟩
    rw [Bool.eq_iff_iff]
    simp [sumP, List.getD, hk, show k < s.length by omega]
    omega
  · rintro e w1 ⟨r, rfl, b1, o1⟩
    go_wp2_with fail
    go_ret2
    exact ⟨_, rfl, (by repeat (first | with_reducible exact New.refl _ | with_reducible assumption | with_reducible refine New.drew ?_ | with_reducible refine New.drewN ?_ _ | with_reducible refine New.alloc ?_ _ | with_reducible refine New.setCell ?_ (by first | (simp; done) | (simp; omega) | omega) _ | with_reducible refine New.trans ?_ (by with_reducible assumption))), own_base o1 (by simp)⟩
set_option maxHeartbeats 400000 in
theorem discr1_any (k b : Nat) (u v : Value) (f s : List Int) (w : World) (hu : RdI w u f) (hv : RdI w v s) (hk : k < f.length) (hk' : k < s.length) (hc0 : w.cell? ⟨b, 0, none⟩ = some u) (hc1 : w.cell? ⟨b, 1, none⟩ = some v) :
    Calls Try.prog 64 #[.int .i64 k, .pointer (some ⟨b, 0, none⟩)] w fun e w' => e = .returned (.bool (f[k] != s[k])) ∧ New w w' := by
  obtain ⟨fa, fc, rfl, hfm, HF⟩ := hu.open
  obtain ⟨sa, sc, rfl, hsm, HS⟩ := hv.open
  clear hu hv
  obtain ⟨b1', o1, rfl, hbl1, hx1⟩ := HF.out w (New.refl w) k hk
  obtain ⟨b2', o2, rfl, hbl2, hx2⟩ := HS.out w (New.refl w) k hk'
  go_enter Try.func64, Try.ntmps64
  go_wp2_with fail
  go_quiet (fail)
  go_wp2_with fail
  go_ret
  exact ⟨rfl, (by repeat (first | with_reducible exact New.refl _ | with_reducible assumption | with_reducible refine New.drew ?_ | with_reducible refine New.drewN ?_ _ | with_reducible refine New.alloc ?_ _ | with_reducible refine New.setCell ?_ (by first | (simp; done) | (simp; omega) | omega) _ | with_reducible refine New.trans ?_ (by with_reducible assumption)))⟩
set_option maxHeartbeats 400000 in
theorem iDiscrepancies_any (nb : Int) (u v : Value) (f s : List Int) (w : World) (hu : RdI w u f) (hv : RdI w v s) :
    Calls Try.prog 15 #[.int .i64 nb, .agg #[u, v]] w (RetIC w (repOf nb f s (sumP f s 1))) := by
  have hmf : ∀ (fn : Fn) (first cap : Array Value) (w : World), (Instr.makeFunc fn first cap).run Try.prog w = .ok (.func fn first cap) w := fun _ _ _ _ => rfl
  have HU := Lib.hid hu
  have HV := Lib.hid hv
  clear hu hv
  go_enter Try.func15, Try.ntmps15
  go_wp2_with fail
  refine (blocksOf_any 64 #[] #[.pointer (some ⟨w.heap.size, 0, none⟩)] (sumP f s 1) nb u v f s _ (HU.out.new (by repeat (first | with_reducible exact New.refl _ | with_reducible assumption | with_reducible refine New.drew ?_ | with_reducible refine New.drewN ?_ _ | with_reducible refine New.alloc ?_ _ | with_reducible refine New.setCell ?_ (by first | (simp; done) | (simp; omega) | omega) _ | with_reducible refine New.trans ?_ (by with_reducible assumption)))) (HV.out.new (by repeat (first | with_reducible exact New.refl _ | with_reducible assumption | with_reducible refine New.drew ?_ | with_reducible refine New.drewN ?_ _ | with_reducible refine New.alloc ?_ _ | with_reducible refine New.setCell ?_ (by first | (simp; done) | (simp; omega) | omega) _ | with_reducible refine New.trans ?_ (by with_reducible assumption)))) (fun _ _ => rfl) (fun k w1 hk hr hn => ?_)).mono ?_
  · obtain ⟨e1, e2, ef, es⟩ := isRep_len hr
    have d1 := badR_at ef hk
    have d2 := badR_at es (k := k) (by omega)
    refine (discr1_any k w.heap.size u v f s w1 (HU.out.new (by repeat (first | with_reducible exact New.refl _ | with_reducible assumption | with_reducible refine New.drew ?_ | with_reducible refine New.drewN ?_ _ | with_reducible refine New.alloc ?_ _ | with_reducible refine New.setCell ?_ (by first | (simp; done) | (simp; omega) | omega) _ | with_reducible refine New.trans ?_ (by with_reducible assumption)))) (HV.out.new (by repeat (first | with_reducible exact New.refl _ | with_reducible assumption | with_reducible refine New.drew ?_ | with_reducible refine New.drewN ?_ _ | with_reducible refine New.alloc ?_ _ | with_reducible refine New.setCell ?_ (by first | (simp; done) | (simp; omega) | omega) _ | with_reducible refine New.trans ?_ (by with_reducible assumption)))) hk (by omega) (by rw [hn.cell (by simp)]; simp) (by rw [hn.cell (by simp)]; simp)).mono fun e w' ⟨he, hw⟩ => ⟨he.trans (ret_bool ?_), hw⟩
    rw [Bool.eq_iff_iff]
    simp [sumP, List.getD, hk, show k < s.length by omega]
    omega
  · rintro e w1 ⟨r, rfl, b1, o1⟩
    go_wp2_with fail
    go_ret2
    exact ⟨_, rfl, (by repeat (first | with_reducible exact New.refl _ | with_reducible assumption | with_reducible refine New.drew ?_ | with_reducible refine New.drewN ?_ _ | with_reducible refine New.alloc ?_ _ | with_reducible refine New.setCell ?_ (by first | (simp; done) | (simp; omega) | omega) _ | with_reducible refine New.trans ?_ (by with_reducible assumption))), own_base o1 (by simp)⟩
end Go.Proofs.Ytinlichcbjpeaaa
