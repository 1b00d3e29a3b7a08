/- Contracts: numbers drawn from a code. -/
import Derived.WalkSpells
import Derived.Test.YteielmihlfakgaaDoorProg
import Derived.Test.YteielmihlfakgaaDoorUB
namespace Go.Proofs.YteielmihlfakgaaDoor
open Go Go.Proofs Go.RowKit
set_option linter.unusedVariables false
set_option linter.unusedSimpArgs false
set_option maxRecDepth 100000
/-- The bytes of a slice, opened. -/
theorem rd_bytes {B : Nat} {w : World} {v : Value} {bs : List Int} (h : RdB B w v bs.length (bs.map (Value.int .u8))) : ∃ (a : Option Addr) (cap : Nat), v = .slice a bs.length cap ∧
    Hid (∀ k (hk : k < bs.length), ∃ b off, a = some ⟨b, off, none⟩ ∧ b < B ∧ w.cell? ⟨b, off + k, none⟩ = some (.int .u8 bs[k])) := by
  obtain ⟨a, cap, rfl, hn, h0, hc⟩ := h
  refine ⟨a, cap, rfl, Lib.hid fun k hk => ?_⟩
  obtain ⟨b, off, ha, hlt, hcell⟩ := hc k (.int .u8 bs[k]) (by simp [hk])
  exact ⟨b, off, ha, hlt, hcell⟩
theorem cell_setS {w : World} {S o b k : Nat} {u : Value} (h : b < S) : (w.setCell ⟨S, o, none⟩ u).cell? ⟨b, k, none⟩ = w.cell? ⟨b, k, none⟩ :=
  World.cell?_of_block (Below.heap_setCell _ _ _ _ (by show b ≠ S; omega))
set_option maxHeartbeats 2000000 in
theorem l01Next_any {B : Nat} (S : Nat) (n : Int) (w : World) (hs : Src B S w) : Calls Tryd.prog 67 #[.pointer (some ⟨S, 0, none⟩), .int .i64 n] w (DrawI S n w) := by
  by_cases hn : n ≤ 1
  · go_enter Tryd.func67, Tryd.ntmps67
    go_wp2_with fail
    go_ret
    exact ⟨0, rfl, by omega, .inl rfl, Dr.refl _ _⟩
  · obtain ⟨cv, bs, p, sd, hs⟩ := hs
    obtain ⟨k0, k1, k2, f1, f2⟩ := hs.open
    have h0 := hs.seed0
    have h1 := hs.seed1
    have hpl := hs.place
    have hln := hs.len
    have HB := Lib.hid hs.bytes
    have hlt := hs.lt
    have hBS := hs.below
    obtain ⟨ca, cc, rfl, HC⟩ := rd_bytes hs.code
    have HS := Lib.hid hs
    clear hs
    have m0 : 0 ≤ (sd * 48271 + 29) % 2147483647 := Int.emod_nonneg _ (by omega)
    have m1 : (sd * 48271 + 29) % 2147483647 < 2147483647 := Int.emod_lt_of_pos _ (by omega)
    by_cases hp : p < bs.length
    · obtain ⟨cb, co, rfl, hcb, hcell⟩ := HC.out p hp
      have hcS : cb < S := by omega
      have hne : cb ≠ S := by omega
      have hc9 : w.cell? ⟨cb, co + p, none⟩ = some (.int .u8 bs[p]) := hcell
      have hbb := HB.out bs[p] (List.getElem_mem hp)
      generalize bs[p] = x at *
      clear hcell
      obtain ⟨hb0, hb1⟩ := hbb
      go_enter Tryd.func67, Tryd.ntmps67
      go_wp2_with fail
      go_quiet (fail)
      go_wp2_with fail
      go_quiet (fail)
      go_wp2_with fail
      · go_quiet (fail)
        go_wp2_with fail
        go_ret
        exact ⟨_, rfl, Int.emod_nonneg _ (by omega), .inr (Int.emod_lt_of_pos _ (by omega)), (HS.out.dr2 m0 m1 hp _).drewN _⟩
      all_goals go_ret
      all_goals exact ⟨_, rfl, Int.emod_nonneg _ (by omega), .inr (Int.emod_lt_of_pos _ (by omega)), HS.out.dr2 m0 m1 hp _⟩
    · go_enter Tryd.func67, Tryd.ntmps67
      go_wp2_with fail
      go_quiet (fail)
      go_wp2_with fail
      all_goals go_ret
      exact ⟨_, rfl, Int.emod_nonneg _ (by omega), .inr (Int.emod_lt_of_pos _ (by omega)), HS.out.dr1 m0 m1 _⟩
/-- One of some numbers. -/
def DrawP (S : Nat) (xs : List Int) (w : World) (e : Ending) (w' : World) : Prop := ∃ r : Int, e = .returned (.int .i64 r) ∧ r ∈ xs ∧ Dr S w w'
set_option maxHeartbeats 1000000 in
theorem l01Pick_any {B : Nat} (S : Nat) (v : Value) (xs : List Int) (w : World) (hv : RdI w v xs) (hx : 1 ≤ xs.length) (hm : xs.length ≤ 1048576) (hb : ∀ b o n c, v = .slice (some ⟨b, o, none⟩) n c → S < b) (hs : Src B S w) :
    Calls Tryd.prog 120 #[.pointer (some ⟨S, 0, none⟩), v] w (DrawP S xs w) := by
  obtain ⟨a, cap, rfl, hl, HC⟩ := hv.open
  clear hv
  go_enter Tryd.func120, Tryd.ntmps120
  go_wp2_with fail
  refine (l01Next_any S xs.length _ hs).mono ?_
  rintro e w1 ⟨r, rfl, r0, r1, b1⟩
  obtain ⟨k, rfl⟩ := Int.eq_ofNat_of_zero_le r0; have hk : k < xs.length := (by omega); obtain ⟨b, o, rfl, hbl, hc⟩ := HC.out w (New.refl w) k hk; have hSb := hb b o _ _ rfl; have d1 := b1.rules.2.1
  have z1 := b1.size
  try simp only [World.size_alloc, World.size_drew, World.heap_drewN, World.size_setCell] at z1
  have y1 : S < w1.heap.size := by omega
  go_wp2_with fail
  go_ret
  exact ⟨_, rfl, List.getElem_mem hk, b1⟩
theorem l01Next_n {B : Nat} (S : Nat) (n : Int) (w : World) (hs : Src B S w) : Calls Tryd.prog 67 #[.pointer (some ⟨S, 0, none⟩), .int .i64 n] w (DrawN S w) := (l01Next_any S n w hs).mono fun e w' ⟨r, h, _, _, hb⟩ => ⟨r, h, hb⟩
theorem l01Pick_n {B : Nat} (S : Nat) (v : Value) (xs : List Int) (w : World) (hv : RdA S w v xs) (hs : Src B S w) (hx : 1 ≤ xs.length ∧ xs.length ≤ 1048576 := by simp) : Calls Tryd.prog 120 #[.pointer (some ⟨S, 0, none⟩), v] w (DrawN S w) := by
  obtain ⟨b, n, c, rfl, hS, hr⟩ := hv
  exact (l01Pick_any S _ xs w hr hx.1 hx.2 (by rintro b' o n' c' e; cases e; exact hS) hs).mono fun e w' ⟨r, h, _, hb⟩ => ⟨r, h, hb⟩
theorem l01PickL_n {B : Nat} (S : Nat) (xs : List Int) (w : World) (T : TypeId) (hs : Src B S w) (hx : 1 ≤ xs.length ∧ xs.length ≤ 1048576 := by simp) : Calls Tryd.prog 120 #[.pointer (some ⟨S, 0, none⟩), .slice (some ⟨w.heap.size, 0, none⟩) xs.length xs.length] (w.alloc (.cells (xs.map (Value.int .i64)).toArray T)) (DrawN S (w.alloc (.cells (xs.map (Value.int .i64)).toArray T))) :=
  l01Pick_n S _ xs _ (rdA_lit xs hs.lt hx.2) ((Dr.refl S w).alloc _ |>.src hs) hx
set_option maxHeartbeats 2000000 in
theorem l01From_any (B : Nat) (v : Value) (bs : List Int) (w : World) (hv : RdB B w v bs.length (bs.map (Value.int .u8))) (hBw : B ≤ w.heap.size) (hl : bs.length ≤ 4096) (hb : ∀ c ∈ bs, 0 ≤ c ∧ c ≤ 255) :
    Calls Tryd.prog 40 #[v] w (fun e w' => ∃ S, e = .returned (.pointer (some ⟨S, 0, none⟩)) ∧ w.heap.size ≤ S ∧ New w w' ∧ Src B S w') := by
  have HV := Lib.hid hv
  have HB := Lib.hid hb
  obtain ⟨a, cap, rfl, HC⟩ := rd_bytes hv
  clear hv hb
  go_enter Tryd.func40, Tryd.ntmps40
  go_wp2_with fail
  go_loopw [4] (fun i wr => ∃ (k : Nat) (sd : Int), k ≤ bs.length ∧ i = .int .i64 k ∧ 0 ≤ sd ∧ sd ≤ 2147483646 ∧ New w wr ∧ Hid (SrcE B w.heap.size wr (.slice a bs.length cap) bs 0 sd)) (fun i _ => bs.length - (intOf i).toNat)
  case atStart => exact ⟨0, 52021, Nat.zero_le _, rfl, by omega, by omega, (by repeat (first | with_reducible exact New.refl _ | with_reducible assumption | with_reducible refine New.drew ?_ | with_reducible refine New.drewN ?_ _ | with_reducible refine New.alloc ?_ _ | with_reducible refine New.setCell ?_ (by first | (simp; done) | (simp; omega) | omega) _ | with_reducible refine New.trans ?_ (by with_reducible assumption))), Lib.hid ⟨HV.out.same (fun k hk => Below.heap_alloc _ _ _ (by omega)), hBw, HB.out, hl, Nat.zero_le _, by omega, by omega, _, heap_alloc_self _ _⟩⟩
  case round =>
    obtain ⟨k, sd, hk, rfl, h0, h1, hb, hs⟩ := hrel
    by_cases hlt : k < bs.length
    · by_cases h64 : k < 64
      · obtain ⟨b, o, rfl, hbl, hc⟩ := HC.out k hlt
        have hc9 : wr.cell? ⟨b, o + k, none⟩ = some (.int .u8 bs[k]) := (hb.cell (by omega)).trans hc
        obtain ⟨k0, k1, k2, f1, f2⟩ := hs.out.open
        have hbb := HB.out bs[k] (List.getElem_mem hlt)
        generalize bs[k] = x at *
        clear hc k0 k1
        obtain ⟨hb0, hb1⟩ := hbb
        have m0 : 0 ≤ (sd * 59 + x) % 2147483647 := Int.emod_nonneg _ (by omega)
        have m1 : (sd * 59 + x) % 2147483647 < 2147483647 := Int.emod_lt_of_pos _ (by omega)
        go_wp2_with fail
        have e1 : IntKind.i64.wrap (sd * 59) = sd * 59 := IntWalk.i64_in _ (by omega)
        have e2 : IntKind.i64.wrap (sd * 59 + x) = sd * 59 + x := IntWalk.i64_in _ (by omega)
        have e3 : (sd * 59 + x).tmod 2147483647 = (sd * 59 + x) % 2147483647 := Int.tmod_eq_emod_of_nonneg (by omega)
        refine wp_region_still_tail 15 (by kernel_rfl) (by kernel_rfl) ?_
        simp only [World.drew_eq, List.take_succ_cons, List.take_zero, List.drop_succ_cons, List.drop_zero]
        repeat (first | still_step)
        refine wpStill_nil ?_
        go_wp2_with fail
        go_roundw
        case rel => exact ⟨k + 1, _, by omega, by go_num, m0, by omega, (hb.drewN _).setCell (by simp) _, Lib.hid ((hs.out.new ((New.refl _).drewN _)).set2 m0 (by omega))⟩
        case measure => simp [intOf]; omega
      · go_wp2_with fail
        go_ret
        exact ⟨_, rfl, Nat.le_refl _, hb, _, _, _, _, hs.out⟩
    · go_wp2_with fail
      go_ret
      exact ⟨_, rfl, Nat.le_refl _, hb, _, _, _, _, hs.out⟩
end Go.Proofs.YteielmihlfakgaaDoor
