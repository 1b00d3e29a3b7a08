/- Contracts: the blocks of a program. -/
import Derived.Test.YteielmihlfakgaaGreatDoorProg
import Derived.Test.YteielmihlfakgaaGreatDoorUE
import Derived.Test.YteielmihlfakgaaGreatDoorUD
import Derived.Test.YteielmihlfakgaaGreatDoorVA
namespace Go.Proofs.YteielmihlfakgaaGreatDoor
open Go Go.Proofs Go.RowKit
set_option linter.unusedVariables false
set_option linter.unusedSimpArgs false
set_option maxRecDepth 100000
def isBlkB (t : ETerm) : Bool := decide (7 ≤ t.kind)
def blkT (ts : List ETerm) : List ETerm := ts.filter isBlkB
def blkP (p : ProgD) : List ETerm := p.lines.flatMap fun l => blkT l.terms
def blkTo (p : ProgD) (k : Nat) : List ETerm := (p.lines.take k).flatMap fun l => blkT l.terms
def blkR (p : ProgD) : List ETerm × Int := if wB p = true then (blkP p, 0) else ([], 1)
theorem blkT_yes {ts : List ETerm} {j : Nat} (h : j < ts.length) (hb : isBlkB ts[j] = true) : blkT (ts.take (j + 1)) = blkT (ts.take j) ++ [ts[j]] := by
  rw [blkT, List.take_succ_eq_append_getElem h, List.filter_append]; simp [blkT, hb]
theorem blkT_no {ts : List ETerm} {j : Nat} (h : j < ts.length) (hb : isBlkB ts[j] = false) : blkT (ts.take (j + 1)) = blkT (ts.take j) := by
  rw [blkT, List.take_succ_eq_append_getElem h, List.filter_append]; simp [blkT, hb]
theorem blkT_len (ts : List ETerm) : (blkT ts).length ≤ ts.length := List.length_filter_le _ _
theorem blkTo_next {p : ProgD} {k : Nat} (h : k < p.lines.length) : blkTo p (k + 1) = blkTo p k ++ blkT p.lines[k].terms := by
  rw [blkTo, List.take_succ_eq_append_getElem h, List.flatMap_append]; simp [blkTo]
theorem blkTo_all (p : ProgD) : blkTo p p.lines.length = blkP p := by rw [blkTo, List.take_length]; rfl
theorem linesB_get {p : ProgD} {ps : List LV} (h : ps.map Prod.fst = p.lines) (k : Nat) (h1 : k < ps.length) : ∃ h2 : k < p.lines.length, p.lines[k] = ps[k].1 := by
  have hl : p.lines.length = ps.length := by rw [← h, List.length_map]
  exact ⟨by omega, by simp [← h]⟩
theorem wB_terms {p : ProgD} (h : wB p = true) : p.lines.length ≤ 40 ∧ ∀ l ∈ p.lines, l.terms.length ≤ 40 := by
  simp only [wB, Bool.and_eq_true, List.all_eq_true, inB, decide_eq_true_eq] at h
  refine ⟨by omega, fun l hl => ?_⟩
  have := h.2.1 l hl
  simp only [lineB, Bool.and_eq_true] at this
  exact okH_len this.2
theorem blkTo_len {p : ProgD} (h : ∀ l ∈ p.lines, l.terms.length ≤ 40) : ∀ k, k ≤ p.lines.length → (blkTo p k).length ≤ k * 40
  | 0, _ => by simp [blkTo]
  | k + 1, hk => by
    rw [blkTo_next (by omega), List.length_append]
    have h1 := blkTo_len h k (by omega)
    have h2 := blkT_len p.lines[k].terms
    have h3 := h p.lines[k] (List.getElem_mem _)
    omega
/-- The bounds that the walks want: a program of a few lines. -/
def fewL (p : ProgD) : Prop := p.lines.length ≤ 40 ∧ ∀ l ∈ p.lines, l.terms.length ≤ 40
def RetTC (w : World) (r : List ETerm × Int) (e : Ending) (w' : World) : Prop := ∃ v, e = .returned (.tuple #[v, .int .i64 r.2]) ∧ New w w' ∧ w'.ownsRow w.heap.size 66 3 v r.1.length (r.1.flatMap encTerm)
set_option maxHeartbeats 4000000 in
theorem sBlocksF_any (p : ProgD) (iv vv ov lv : Value) (w : World) (hp : RdP w p iv vv ov lv) (hw : fewL p) :
    Calls Tryz.prog 109 #[valP p iv vv ov lv] w fun e w' => ∃ r, e = .returned r ∧ New w w' ∧ w'.ownsRow (w.heap.size + 1) 66 3 r (blkP p).length ((blkP p).flatMap encTerm) := by
  obtain ⟨i0, hi, hz0, hz1, hz2⟩ := info_parts infoTerm
  obtain ⟨_, _, _, ps, hps, hl1, hl2⟩ := hp
  obtain ⟨a, cap, rfl, hm, HC⟩ := Rd.flat encLV_len (by omega) hl1
  have HT := Lib.hid hl2
  obtain ⟨h40, ht40⟩ := hw
  have hpm : ps.length ≤ 40 := by rw [← hps, List.length_map] at h40; exact h40
  have HLG := Lib.hid (fun k (h : k < ps.length) => linesB_get hps k h)
  have HPL := Lib.hid (show p.lines.length = ps.length by rw [← hps, List.length_map])
  have HBL := Lib.hid (fun k hk => blkTo_len ht40 k hk)
  have H40 := Lib.hid ht40
  clear hl1 hl2 hps h40 ht40
  have zz : w.heap.size < w.heap.size + 1 := by omega
  go_enter Tryz.func109, Tryz.ntmps109
  go_wp2_with fail
  go_loopw [3, 4] (fun o i wr => ∃ k : Nat, k ≤ ps.length ∧ i = .int .i64 k ∧ New (w.alloc (.cells #[.string p.name, iv, vv, ov, .string p.guard, .slice a ps.length cap] 48)) wr ∧ wr.ownsRow (w.heap.size + 1) 66 3 o (blkTo p k).length ((blkTo p k).flatMap encTerm)) (fun _ i _ => ps.length - (intOf i).toNat)
  case atStart => exact ⟨0, Nat.zero_le _, rfl, (by repeat (first | with_reducible exact New.refl _ | with_reducible assumption | with_reducible refine New.drew ?_ | with_reducible refine New.drewN ?_ _ | with_reducible refine New.alloc ?_ _ | with_reducible refine New.setCell ?_ (by first | (simp; done) | (simp; omega) | omega) _ | with_reducible refine New.trans ?_ (by with_reducible assumption))), (by have := own_empty (w := (w.alloc (.cells #[.string p.name, iv, vv, ov, .string p.guard, .slice a ps.length cap] 48))) (base := w.heap.size + 1) (e := 66) (sz := 3) (by rw [World.size_alloc]; exact Nat.le_refl _); simp only [World.size_alloc] at this; exact this)⟩
  case round =>
    rename World => wr1
    obtain ⟨k, hk, rfl, hb, hown⟩ := hrel
    have hbz := hb.size
    simp only [World.size_alloc] at hbz
    have hb0 : New w wr1 := ((New.refl w).alloc _).trans hb
    obtain ⟨cc, f'⟩ := hb.rules
    by_cases hlt : k < ps.length
    · obtain ⟨b, off, rfl, hbl, hx⟩ := HC.out k hlt
      obtain ⟨ea, ec, hev, hem, HE⟩ := Rd.flat encTerm_len (by omega) (HT.out ps[k] (List.getElem_mem hlt))
      rw [show encLV ps[k] = [.string ps[k].1.target, ps[k].2] from rfl, hev] at hx
      have x1 := hx 1 _ (by omega) rfl
      replace hx := Lib.hid hx
      clear hev
      have hbw : b < wr1.heap.size := by omega
      have hbw1 : b < w.heap.size + 1 := by omega
      obtain ⟨hlp, hle⟩ := HLG.out k hlt
      have HTN := Lib.hid (blkTo_next hlp)
      rw [hle] at HTN
      have hx40 : ps[k].1.terms.length ≤ 40 := by have := H40.out _ (List.getElem_mem hlp); rwa [hle] at this
      have hbk : (blkTo p k).length ≤ 1600 := by have := HBL.out k (by omega); omega
      clear hle
      replace hown := Lib.hid hown
      generalize ps[k].1 = X at *
      generalize blkTo p k = acc at *
      go_wp2_with fail
      go_loopw [3, 5] (fun o i wr2 => ∃ j : Nat, j ≤ X.terms.length ∧ i = .int .i64 j ∧ New (w.alloc (.cells #[.string p.name, iv, vv, ov, .string p.guard, .slice (some ⟨b, off, none⟩) ps.length cap] 48)) wr2 ∧ wr2.ownsRow (w.heap.size + 1) 66 3 o (acc ++ blkT (X.terms.take j)).length ((acc ++ blkT (X.terms.take j)).flatMap encTerm)) (fun _ i _ => X.terms.length - (intOf i).toNat)
      case atStart => exact ⟨0, Nat.zero_le _, rfl, hb, by simpa [blkT] using hown.out⟩
      case round =>
        rename World => wr2
        obtain ⟨j, hj, rfl, he2, hown2⟩ := hrel
        obtain ⟨c3, f3⟩ := he2.rules
        have hz3 := he2.size
        simp only [World.size_alloc] at hz3
        by_cases hlj : j < X.terms.length
        · obtain ⟨b', off', rfl, hbl', hy⟩ := HE.out j hlj
          have y0 := hy 0 _ (by omega) rfl
          have y1 := hy 1 _ (by omega) rfl
          have y2 := hy 2 _ (by omega) rfl
          rw [Nat.add_zero] at y0
          replace hy := Lib.hid hy
          have hbw2 : b' < wr2.heap.size := by omega
          have hbw4 : b' < w.heap.size + 1 := by omega
          have hbw5 : b < wr2.heap.size := by omega
          have hww5 : w.heap.size < wr2.heap.size := by omega
          have hlen2 : (acc ++ blkT (X.terms.take j)).length ≤ 1700 := by have := blkT_len (X.terms.take j); rw [List.length_append]; simp at this ⊢; omega
          rcases Bool.eq_false_or_eq_true (decide (7 ≤ X.terms[j].kind)) with g1 | g1
          · have HA := Lib.hid (blkT_yes hlj (show isBlkB X.terms[j] = true from g1))
            go_wp2_with (first | ((at_builtin; refine wpList_append_own _ rfl _ _ 24 rfl (w.heap.size + 1) 66 i0 (Value.agg #[.int .i64 0, .string ⟨#[]⟩, .int .i64 0]) 3 32 Tryz.underlying24 hi hz0 hz1 hz2 rfl (by decide) _ _ _ rfl (hown2.alloc _) ⟨wr2.heap.size, 0, none⟩ 1 1 [.int .i64 (X.terms[j]).kind, .string (X.terms[j]).name, .int .i64 (X.terms[j]).num] rfl rfl (fun j u hj => alloc_row (by first | rfl | simp) j u hj) (by intro u hu; simp at hu; rcases hu with rfl | rfl | rfl <;> rfl) (by unfold maxLen; omega) (by omega) (by first | (simp; done) | (simp; omega) | omega) ?_; intro va wa howna hgra _)))
            have ba := New.grown (he2.alloc _) hgra (fun q hq => by have := (own_block_lt hown2 q hq).1; simpa using this)
            have HE2 := Lib.hid (show acc ++ blkT (X.terms.take (j + 1)) = (acc ++ blkT (X.terms.take j)) ++ [X.terms[j]] by rw [HA.out, List.append_assoc])
            go_roundw
            case rel => exact ⟨j + 1, by omega, by go_num, ba, by rw [HE2.out, List.length_append, List.flatMap_append]; exact howna⟩
            case measure => simp [intOf]; omega
          · have HA := Lib.hid (blkT_no hlj (show isBlkB X.terms[j] = false from g1))
            go_wp2_with fail
            go_roundw
            case rel => exact ⟨j + 1, by omega, by go_num, he2, by rw [HA.out]; exact hown2⟩
            case measure => simp [intOf]; omega
        · obtain rfl : j = X.terms.length := by omega
          go_wp2_with fail
          go_roundw
          case rel => exact ⟨k + 1, by omega, by go_num, he2, by rw [HTN.out]; rw [List.take_length] at hown2; exact hown2⟩
          case measure => simp [intOf]; omega
    · obtain rfl : k = ps.length := by omega
      go_wp2_with fail
      go_ret
      refine ⟨_, rfl, hb0, ?_⟩
      rw [← blkTo_all, HPL.out]; exact hown
theorem sBlocks0_any (p : ProgD) (iv vv ov lv : Value) (w : World) (hp : RdP w p iv vv ov lv) (hw : wB p = true) :
    Calls Tryz.prog 109 #[valP p iv vv ov lv] w fun e w' => ∃ r, e = .returned r ∧ New w w' ∧ w'.ownsRow (w.heap.size + 1) 66 3 r (blkP p).length ((blkP p).flatMap encTerm) := sBlocksF_any p iv vv ov lv w hp (wB_terms hw)
end Go.Proofs.YteielmihlfakgaaGreatDoor
