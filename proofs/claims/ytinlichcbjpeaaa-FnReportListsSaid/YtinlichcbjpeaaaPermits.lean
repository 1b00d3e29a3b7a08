/- Contracts: moves that are permitted. -/
import Derived.Test.YtinlichcbjpeaaaProg
import Derived.Test.YtinlichcbjpeaaaReport3
import Derived.Test.YtinlichcbjpeaaaTraffic
namespace Go.Proofs.Ytinlichcbjpeaaa
open Go Go.Proofs Go.RowKit
set_option linter.unusedVariables false
set_option linter.unusedSimpArgs false
set_option maxRecDepth 100000
def nextB (b p : Int) : Nat := (((p.tdiv 3) + 1).tmod b).toNat
def permP (b : Int) (ps f s : List Int) (t : Nat) : Bool := ((ps.getD t 0).tmod 3 != 1) || ((f.getD (nextB b (ps.getD t 0)) 0) + (s.getD (nextB b (ps.getD t 0)) 0) == 0)
theorem next_lt {b p : Int} (hb : 2 ≤ b ∧ b ≤ 8) (hp : 0 ≤ p ∧ p ≤ 3 * b - 1) : (((p.tdiv 3) + 1).tmod b) = (nextB b p : Int) ∧ (nextB b p : Int) < b ∧ 0 ≤ p.tdiv 3 ∧ p.tdiv 3 ≤ 7 := by
  have h1 : p.tdiv 3 = p / 3 := floor_pos hp.1
  have h2 : 0 ≤ (p.tdiv 3 + 1).tmod b := Int.tmod_nonneg _ (by omega)
  have h3 : (p.tdiv 3 + 1).tmod b < b := Int.tmod_lt_of_pos _ (by omega)
  unfold nextB
  rw [Int.toNat_of_nonneg h2]
  exact ⟨rfl, h3, by omega, by omega⟩
theorem NewOf.new {w W : World} (n : NewOf W) (h : New w W) : New w n.val := h.trans n.property
set_option maxHeartbeats 200000 in
theorem permits_any (t : Nat) (b : Int) (pv u v : Value) (ps f s : List Int) (w : World) (hp : RdI w pv ps) (hu : RdI w u f) (hv : RdI w v s) (ht : t < ps.length) (hb : 2 ≤ b ∧ b ≤ 8) (hpt : 0 ≤ ps[t] ∧ ps[t] ≤ 3 * b - 1)
    (hf : (f.length : Int) = b) (hs : (s.length : Int) = b) (hf0 : f.any badR = false) (hs0 : s.any badR = false) :
    Calls Try.prog 72 #[.agg #[u, v], .agg #[.int .i64 b, pv], .int .i64 t] w fun e w' => e = .returned (.bool (permP b ps f s t)) ∧ New w w' := by
  obtain ⟨pa, pc, rfl, hpm, HP⟩ := hp.open
  have HU := Lib.hid hu
  have HV := Lib.hid hv
  clear hp hu hv
  obtain ⟨b1', o1, rfl, hbl1, hx1⟩ := HP.out w (New.refl w) t ht
  obtain ⟨hk, hkb, hq0, hq1⟩ := next_lt hb hpt
  have hkf : nextB b ps[t] < f.length := by omega
  have hks : nextB b ps[t] < s.length := by omega
  have df := badR_at hf0 hkf
  have ds := badR_at hs0 hks
  have HQ := Lib.hid (show permP b ps f s t = ((ps[t].tmod 3 != 1) || (f[nextB b ps[t]] + s[nextB b ps[t]] == 0)) by simp [permP, List.getD, ht, hkf, hks])
  clear hf0 hs0
  generalize hK : nextB b ps[t] = K at *
  have HK := Lib.hid hK
  clear hK
  have e1 : IntKind.i64.wrap (ps[t].tdiv 3) = ps[t].tdiv 3 := IntWalk.i64_in _ (by omega)
  have e2 : IntKind.i64.wrap (ps[t].tdiv 3 + 1) = ps[t].tdiv 3 + 1 := IntWalk.i64_in _ (by omega)
  have hb0 : ¬ b = 0 := by omega
  have hb1 : (b == 0) = false := by simp; omega
  have hbL : 2 ≤ b := hb.1
  have hbU : b ≤ 8 := hb.2
  rcases Bool.eq_false_or_eq_true ((ps[t].tmod 3 == 1)) with h1 | h1; rotate_left
  · have hne : (ps[t].tmod 3 != 1) = true := by simpa using h1
    have hmod : ps[t].tmod 3 = ps[t] % 3 := Int.tmod_eq_emod_of_nonneg hpt.1
    have hne2 : (ps[t] % 3 != 1) = true := by rw [← hmod]; exact hne
    replace hmod := Lib.hid hmod
    have hpn : ¬ ps[t].tmod 3 = 1 := by simpa using h1
    go_enter Try.func72, Try.ntmps72
    go_wp2_with fail
    have q0 : ∀ n : NewOf ((w.alloc (.cells #[u, v] 26)).alloc (.cells #[.int .i64 b, .slice (some ⟨b1', o1, none⟩) ps.length pc] 32)), n.val.cell? ⟨w.heap.size, 0, none⟩ = some (u) := fun n => by rw [NewOf.cell n (w.heap.size) 0 (by first | (simp; done) | (simp; omega))]; simp
    have q1 : ∀ n : NewOf ((w.alloc (.cells #[u, v] 26)).alloc (.cells #[.int .i64 b, .slice (some ⟨b1', o1, none⟩) ps.length pc] 32)), n.val.cell? ⟨w.heap.size, 1, none⟩ = some (v) := fun n => by rw [NewOf.cell n (w.heap.size) 1 (by first | (simp; done) | (simp; omega))]; simp
    have q2 : ∀ n : NewOf ((w.alloc (.cells #[u, v] 26)).alloc (.cells #[.int .i64 b, .slice (some ⟨b1', o1, none⟩) ps.length pc] 32)), n.val.cell? ⟨w.heap.size + 1, 0, none⟩ = some (.int .i64 b) := fun n => by rw [NewOf.cell n (w.heap.size + 1) 0 (by first | (simp; done) | (simp; omega))]; simp
    have q3 : ∀ n : NewOf ((w.alloc (.cells #[u, v] 26)).alloc (.cells #[.int .i64 b, .slice (some ⟨b1', o1, none⟩) ps.length pc] 32)), n.val.cell? ⟨w.heap.size + 1, 1, none⟩ = some (.slice (some ⟨b1', o1, none⟩) ps.length pc) := fun n => by rw [NewOf.cell n (w.heap.size + 1) 1 (by first | (simp; done) | (simp; omega))]; simp
    refine wp_region_new (by kernel_rfl) (by kernel_rfl) ?_
    repeat (first | go_big_quiet_skip | go_big_quiet_step ((first | (go_at_call 62; exact newq (isClear_any K u v f s _ (HU.out.new (NewOf.new _ (by repeat (first | with_reducible exact New.refl _ | with_reducible assumption | with_reducible refine New.drew ?_ | with_reducible refine New.drewN ?_ _ | with_reducible refine New.alloc ?_ _ | with_reducible refine New.setCell ?_ (by first | (simp; done) | (simp; omega) | omega) _ | with_reducible refine New.trans ?_ (by with_reducible assumption))))) (HV.out.new (NewOf.new _ (by repeat (first | with_reducible exact New.refl _ | with_reducible assumption | with_reducible refine New.drew ?_ | with_reducible refine New.drewN ?_ _ | with_reducible refine New.alloc ?_ _ | with_reducible refine New.setCell ?_ (by first | (simp; done) | (simp; omega) | omega) _ | with_reducible refine New.trans ?_ (by with_reducible assumption))))) hkf hks)))) | quiet_step ((first | (go_at_call 62; exact newq (isClear_any K u v f s _ (HU.out.new (NewOf.new _ (by repeat (first | with_reducible exact New.refl _ | with_reducible assumption | with_reducible refine New.drew ?_ | with_reducible refine New.drewN ?_ _ | with_reducible refine New.alloc ?_ _ | with_reducible refine New.setCell ?_ (by first | (simp; done) | (simp; omega) | omega) _ | with_reducible refine New.trans ?_ (by with_reducible assumption))))) (HV.out.new (NewOf.new _ (by repeat (first | with_reducible exact New.refl _ | with_reducible assumption | with_reducible refine New.drew ?_ | with_reducible refine New.drewN ?_ _ | with_reducible refine New.alloc ?_ _ | with_reducible refine New.setCell ?_ (by first | (simp; done) | (simp; omega) | omega) _ | with_reducible refine New.trans ?_ (by with_reducible assumption))))) hkf hks)))))
    refine wpQuiet_nil ?_
    rintro ⟨w3, b3⟩
    dsimp only
    try with_reducible replace b3 := New.undrawN b3
    try with_reducible replace b3 := New.undraw b3
    obtain ⟨c3, f3⟩ := b3.rules
    have z3 := b3.size
    try simp only [World.size_alloc, World.size_drew, World.heap_drewN, World.size_setCell] at z3
    go_wp2_with fail
    go_ret
    exact ⟨ret_bool (by rw [HQ.out, hne]; rfl), (by repeat (first | with_reducible exact New.refl _ | with_reducible assumption | with_reducible refine New.drew ?_ | with_reducible refine New.drewN ?_ _ | with_reducible refine New.alloc ?_ _ | with_reducible refine New.setCell ?_ (by first | (simp; done) | (simp; omega) | omega) _ | with_reducible refine New.trans ?_ (by with_reducible assumption)))⟩
  have hne : (ps[t].tmod 3 != 1) = false := by simpa using h1
  have hmod : ps[t].tmod 3 = ps[t] % 3 := Int.tmod_eq_emod_of_nonneg hpt.1
  have hne2 : (ps[t] % 3 != 1) = false := by rw [← hmod]; exact hne
  replace hmod := Lib.hid hmod
  have hpn : ps[t].tmod 3 = 1 := by simpa using h1
  go_enter Try.func72, Try.ntmps72
  go_wp2_with fail
  have q0 : ∀ n : NewOf ((w.alloc (.cells #[u, v] 26)).alloc (.cells #[.int .i64 b, .slice (some ⟨b1', o1, none⟩) ps.length pc] 32)), n.val.cell? ⟨w.heap.size, 0, none⟩ = some (u) := fun n => by rw [NewOf.cell n (w.heap.size) 0 (by first | (simp; done) | (simp; omega))]; simp
  have q1 : ∀ n : NewOf ((w.alloc (.cells #[u, v] 26)).alloc (.cells #[.int .i64 b, .slice (some ⟨b1', o1, none⟩) ps.length pc] 32)), n.val.cell? ⟨w.heap.size, 1, none⟩ = some (v) := fun n => by rw [NewOf.cell n (w.heap.size) 1 (by first | (simp; done) | (simp; omega))]; simp
  have q2 : ∀ n : NewOf ((w.alloc (.cells #[u, v] 26)).alloc (.cells #[.int .i64 b, .slice (some ⟨b1', o1, none⟩) ps.length pc] 32)), n.val.cell? ⟨w.heap.size + 1, 0, none⟩ = some (.int .i64 b) := fun n => by rw [NewOf.cell n (w.heap.size + 1) 0 (by first | (simp; done) | (simp; omega))]; simp
  have q3 : ∀ n : NewOf ((w.alloc (.cells #[u, v] 26)).alloc (.cells #[.int .i64 b, .slice (some ⟨b1', o1, none⟩) ps.length pc] 32)), n.val.cell? ⟨w.heap.size + 1, 1, none⟩ = some (.slice (some ⟨b1', o1, none⟩) ps.length pc) := fun n => by rw [NewOf.cell n (w.heap.size + 1) 1 (by first | (simp; done) | (simp; omega))]; simp
  refine wp_region_new (by kernel_rfl) (by kernel_rfl) ?_
  repeat (first | go_big_quiet_skip | go_big_quiet_step ((first | (go_at_call 62; exact newq (isClear_any K u v f s _ (HU.out.new (NewOf.new _ (by repeat (first | with_reducible exact New.refl _ | with_reducible assumption | with_reducible refine New.drew ?_ | with_reducible refine New.drewN ?_ _ | with_reducible refine New.alloc ?_ _ | with_reducible refine New.setCell ?_ (by first | (simp; done) | (simp; omega) | omega) _ | with_reducible refine New.trans ?_ (by with_reducible assumption))))) (HV.out.new (NewOf.new _ (by repeat (first | with_reducible exact New.refl _ | with_reducible assumption | with_reducible refine New.drew ?_ | with_reducible refine New.drewN ?_ _ | with_reducible refine New.alloc ?_ _ | with_reducible refine New.setCell ?_ (by first | (simp; done) | (simp; omega) | omega) _ | with_reducible refine New.trans ?_ (by with_reducible assumption))))) hkf hks)))) | quiet_step ((first | (go_at_call 62; exact newq (isClear_any K u v f s _ (HU.out.new (NewOf.new _ (by repeat (first | with_reducible exact New.refl _ | with_reducible assumption | with_reducible refine New.drew ?_ | with_reducible refine New.drewN ?_ _ | with_reducible refine New.alloc ?_ _ | with_reducible refine New.setCell ?_ (by first | (simp; done) | (simp; omega) | omega) _ | with_reducible refine New.trans ?_ (by with_reducible assumption))))) (HV.out.new (NewOf.new _ (by repeat (first | with_reducible exact New.refl _ | with_reducible assumption | with_reducible refine New.drew ?_ | with_reducible refine New.drewN ?_ _ | with_reducible refine New.alloc ?_ _ | with_reducible refine New.setCell ?_ (by first | (simp; done) | (simp; omega) | omega) _ | with_reducible refine New.trans ?_ (by with_reducible assumption))))) hkf hks)))))
  refine wpQuiet_nil ?_
  rintro ⟨w3, b3⟩
  dsimp only
  try with_reducible replace b3 := New.undrawN b3
  try with_reducible replace b3 := New.undraw b3
  obtain ⟨c3, f3⟩ := b3.rules
  have z3 := b3.size
  try simp only [World.size_alloc, World.size_drew, World.heap_drewN, World.size_setCell] at z3
  go_wp2_with fail
  go_ret
  exact ⟨ret_bool (by rw [HQ.out, hne, Bool.eq_iff_iff]; simp; omega), (by repeat (first | with_reducible exact New.refl _ | with_reducible assumption | with_reducible refine New.drew ?_ | with_reducible refine New.drewN ?_ _ | with_reducible refine New.alloc ?_ _ | with_reducible refine New.setCell ?_ (by first | (simp; done) | (simp; omega) | omega) _ | with_reducible refine New.trans ?_ (by with_reducible assumption)))⟩
set_option maxHeartbeats 400000 in
theorem l11Permits_any (t : Nat) (b : Int) (pv u v : Value) (ps f s : List Int) (w : World) (hp : RdI w pv ps) (hu : RdI w u f) (hv : RdI w v s) (ht : t < ps.length) (hb : 2 ≤ b ∧ b ≤ 8) (hpt : 0 ≤ ps[t] ∧ ps[t] ≤ 3 * b - 1)
    (hf : (f.length : Int) = b) (hs : (s.length : Int) = b) (hf0 : f.any badR = false) (hs0 : s.any badR = false) :
    Calls Try.prog 74 #[.agg #[.int .i64 b, pv], .agg #[u, v], .int .i64 t] w fun e w' => e = .returned (.bool (permP b ps f s t)) ∧ New w w' := by
  obtain ⟨pa, pc, rfl, hpm, HP⟩ := hp.open
  obtain ⟨fa, fc, rfl, hfm, HF⟩ := hu.open
  obtain ⟨sa, sc, rfl, hsm, HS⟩ := hv.open
  clear hp hu hv
  obtain ⟨b1', o1, rfl, hbl1, hx1⟩ := HP.out w (New.refl w) t ht
  obtain ⟨hk, hkb, hq0, hq1⟩ := next_lt hb hpt
  have hkf : nextB b ps[t] < f.length := by omega
  have hks : nextB b ps[t] < s.length := by omega
  have df := badR_at hf0 hkf
  have ds := badR_at hs0 hks
  have HQ := Lib.hid (show permP b ps f s t = ((ps[t].tmod 3 != 1) || (f[nextB b ps[t]] + s[nextB b ps[t]] == 0)) by simp [permP, List.getD, ht, hkf, hks])
  clear hf0 hs0
  generalize hK : nextB b ps[t] = K at *
  have HK := Lib.hid hK
  clear hK
  obtain ⟨b2', o2, rfl, hbl2, hx2⟩ := HF.out w (New.refl w) K hkf
  obtain ⟨b3', o3, rfl, hbl3, hx3⟩ := HS.out w (New.refl w) K hks
  have e1 : IntKind.i64.wrap (ps[t].tdiv 3) = ps[t].tdiv 3 := IntWalk.i64_in _ (by omega)
  have e2 : IntKind.i64.wrap (ps[t].tdiv 3 + 1) = ps[t].tdiv 3 + 1 := IntWalk.i64_in _ (by omega)
  have hb0 : ¬ b = 0 := by omega
  have hb1 : (b == 0) = false := by simp; omega
  have hbL : 2 ≤ b := hb.1
  have hbU : b ≤ 8 := hb.2
  have zz : w.heap.size < w.heap.size + 1 + 1 := by omega
  rcases Bool.eq_false_or_eq_true ((ps[t].tmod 3 == 1)) with h1 | h1; rotate_left
  · have hne : (ps[t].tmod 3 != 1) = true := by simpa using h1
    have hmod : ps[t].tmod 3 = ps[t] % 3 := Int.tmod_eq_emod_of_nonneg hpt.1
    have hne2 : (ps[t] % 3 != 1) = true := by rw [← hmod]; exact hne
    replace hmod := Lib.hid hmod
    have hpn : ¬ ps[t].tmod 3 = 1 := by simpa using h1
    go_enter Try.func74, Try.ntmps74
    go_wp2_with fail
    go_quiet (fail)
    go_wp2_with fail
    go_quiet (fail)
    go_wp2_with fail
    go_ret
    exact ⟨ret_bool (by rw [HQ.out, hne]; rfl), (by repeat (first | with_reducible exact New.refl _ | with_reducible assumption | with_reducible refine New.drew ?_ | with_reducible refine New.drewN ?_ _ | with_reducible refine New.alloc ?_ _ | with_reducible refine New.setCell ?_ (by first | (simp; done) | (simp; omega) | omega) _ | with_reducible refine New.trans ?_ (by with_reducible assumption)))⟩
  have hne : (ps[t].tmod 3 != 1) = false := by simpa using h1
  have hmod : ps[t].tmod 3 = ps[t] % 3 := Int.tmod_eq_emod_of_nonneg hpt.1
  have hne2 : (ps[t] % 3 != 1) = false := by rw [← hmod]; exact hne
  replace hmod := Lib.hid hmod
  have hpn : ps[t].tmod 3 = 1 := by simpa using h1
  go_enter Try.func74, Try.ntmps74
  go_wp2_with fail
  go_quiet (fail)
  go_wp2_with fail
  go_quiet (fail)
  go_wp2_with fail
  go_ret
  exact ⟨ret_bool (by rw [HQ.out, hne]; rfl), (by repeat (first | with_reducible exact New.refl _ | with_reducible assumption | with_reducible refine New.drew ?_ | with_reducible refine New.drewN ?_ _ | with_reducible refine New.alloc ?_ _ | with_reducible refine New.setCell ?_ (by first | (simp; done) | (simp; omega) | omega) _ | with_reducible refine New.trans ?_ (by with_reducible assumption)))⟩
end Go.Proofs.Ytinlichcbjpeaaa
