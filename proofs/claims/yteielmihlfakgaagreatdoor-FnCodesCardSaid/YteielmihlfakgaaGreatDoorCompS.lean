/- Contracts: the reference's compiling of a program. -/
import Derived.Test.YteielmihlfakgaaGreatDoorProg
import Derived.Test.YteielmihlfakgaaGreatDoorCompP
import Derived.Test.YteielmihlfakgaaGreatDoorAppF
import Derived.Test.YteielmihlfakgaaGreatDoorSound
import Derived.Test.YteielmihlfakgaaGreatDoorUE
import Derived.Test.YteielmihlfakgaaGreatDoorUD
import Derived.Test.YteielmihlfakgaaGreatDoorUC
import Derived.Test.YteielmihlfakgaaGreatDoorUG
namespace Go.Proofs.YteielmihlfakgaaGreatDoor
open Go Go.Proofs Go.RowKit
set_option linter.unusedVariables false
set_option linter.unusedSimpArgs false
set_option maxRecDepth 100000
theorem own_empty_atI {w : World} {base b : Nat} {e : TypeId} {sz : Nat} (h : base ≤ w.heap.size) (hb : b = w.heap.size) : (w.alloc (.cells #[] e)).ownsRow base e sz (.slice (some ⟨b, 0, none⟩) 0 0) 0 [] := by subst hb; exact own_empty h
theorem sIdS_any (x : ByteArray) (v : Value) (xs : List ByteArray) (w : World) (hv : RdS w v xs) :
    Calls Tryz.prog 108 #[v, .string x] w fun e w' => e = .returned (.int .i64 (idS xs x)) ∧ w = w' := sIndex14_any x v xs w hv
theorem sIdN_any (x : ByteArray) (v : Value) (xs : List ByteArray) (w : World) (hv : RdS w v xs) :
    Calls Tryz.prog 108 #[v, .string x] w fun e w' => e = .returned (.int .i64 (idS xs x)) ∧ New w w' := (sIndex14_any x v xs w hv).mono (by rintro e w' ⟨h1, rfl⟩; exact ⟨h1, New.refl _⟩)
set_option maxHeartbeats 1000000 in
theorem sName17_any (p : ProgD) (iv vv ov lv : Value) (s : ByteArray) (i v : Int) (w : World) (hp : RdP w p iv vv ov lv) :
    Calls Tryz.prog 107 #[valP p iv vv ov lv, .string s, .int .i64 i, .int .i64 v] w fun e w' => e = .returned (.agg #[.int .i64 (nameI p s i v).op, .int .i64 (nameI p s i v).arg]) ∧ New w w' := by
  have HP := Lib.hid hp
  obtain ⟨ia, ic, rfl, _⟩ := id hp.ins
  obtain ⟨va, vc, rfl, _⟩ := id hp.vars
  clear hp
  by_cases h : 0 ≤ idS p.inputs s
  · have HN := Lib.hid (show nameI p s i v = ⟨i, idS p.inputs s⟩ by rw [nameI, if_pos h])
    go_enter Tryz.func107, Tryz.ntmps107
    go_wp2_with fail
    refine (sIdS_any s _ p.inputs _ (Rd.new HP.out.ins (by repeat (first | with_reducible exact New.refl _ | with_reducible assumption | with_reducible refine New.drew ?_ | with_reducible refine New.drewN ?_ _ | with_reducible refine New.alloc ?_ _ | with_reducible refine New.setCell ?_ (by first | (simp; done) | (simp; omega) | omega) _ | with_reducible refine New.trans ?_ (by with_reducible assumption))))).mono ?_; rintro e w1 ⟨rfl, rfl⟩
    go_wp2_with fail
    refine bodyPost_ret (v := .agg #[.int .i64 i, .int .i64 (idS p.inputs s)]) (by simp [results, Tryz.results107, go_sem, idS]) rfl ?_
    exact ⟨by rw [HN.out], (by repeat (first | with_reducible exact New.refl _ | with_reducible assumption | with_reducible refine New.drew ?_ | with_reducible refine New.drewN ?_ _ | with_reducible refine New.alloc ?_ _ | with_reducible refine New.setCell ?_ (by first | (simp; done) | (simp; omega) | omega) _ | with_reducible refine New.trans ?_ (by with_reducible assumption)))⟩
  · have HN := Lib.hid (show nameI p s i v = ⟨v, idS p.vars s⟩ by rw [nameI, if_neg h])
    go_enter Tryz.func107, Tryz.ntmps107
    go_wp2_with fail
    refine (sIdS_any s _ p.inputs _ (Rd.new HP.out.ins (by repeat (first | with_reducible exact New.refl _ | with_reducible assumption | with_reducible refine New.drew ?_ | with_reducible refine New.drewN ?_ _ | with_reducible refine New.alloc ?_ _ | with_reducible refine New.setCell ?_ (by first | (simp; done) | (simp; omega) | omega) _ | with_reducible refine New.trans ?_ (by with_reducible assumption))))).mono ?_; rintro e w1 ⟨rfl, rfl⟩
    go_wp2_with fail
    refine (sIdS_any s _ p.vars _ (Rd.new HP.out.vars (by repeat (first | with_reducible exact New.refl _ | with_reducible assumption | with_reducible refine New.drew ?_ | with_reducible refine New.drewN ?_ _ | with_reducible refine New.alloc ?_ _ | with_reducible refine New.setCell ?_ (by first | (simp; done) | (simp; omega) | omega) _ | with_reducible refine New.trans ?_ (by with_reducible assumption))))).mono ?_; rintro e w1 ⟨rfl, rfl⟩
    go_wp2_with fail
    refine bodyPost_ret (v := .agg #[.int .i64 v, .int .i64 (idS p.vars s)]) (by simp [results, Tryz.results107, go_sem, idS]) rfl ?_
    exact ⟨by rw [HN.out], (by repeat (first | with_reducible exact New.refl _ | with_reducible assumption | with_reducible refine New.drew ?_ | with_reducible refine New.drewN ?_ _ | with_reducible refine New.alloc ?_ _ | with_reducible refine New.setCell ?_ (by first | (simp; done) | (simp; omega) | omega) _ | with_reducible refine New.trans ?_ (by with_reducible assumption)))⟩
theorem rd_of_blkI {w : World} {q : Nat} {x : EInstruction} {T : TypeId} (h : Blk w q #[.int .i64 x.op, .int .i64 x.arg] T) : Rd w (.slice (some ⟨q, 0, none⟩) 1 1) 1 ([x].flatMap encInstruction) := by
  refine ⟨some ⟨q, 0, none⟩, 1, rfl, by decide, ⟨(fun e => by cases e), Nat.le_refl _⟩, fun j u hj => ⟨q, 0, rfl, h.lt, ?_⟩⟩
  rw [h.rules.1, Nat.zero_add]
  rw [show [x].flatMap encInstruction = [.int .i64 x.op, .int .i64 x.arg] from rfl] at hj
  simpa using hj
theorem flatI_app2 (xs : List EInstruction) (x : EInstruction) : (xs ++ [x]).flatMap encInstruction = xs.flatMap encInstruction ++ [.int .i64 x.op, .int .i64 x.arg] := by rw [List.flatMap_append]; rfl
def RetC0 (w : World) (c : CodeD) (e : Ending) (w' : World) : Prop := ∃ bv sv, e = .returned (valC c bv sv) ∧ New w w' ∧ w'.ownsRow w.heap.size 66 3 bv c.blocks.length (c.blocks.flatMap encTerm) ∧ w'.ownsRow w.heap.size 70 2 sv c.steps.length (c.steps.flatMap encInstruction)
set_option maxHeartbeats 4000000 in
theorem sCompile0_any (p : ProgD) (iv vv ov lv : Value) (w : World) (hp : RdP w p iv vv ov lv) (hw : fewL p) :
    Calls Tryz.prog 62 #[valP p iv vv ov lv] w (RetC0 w (compC p)) := by
  obtain ⟨i0, hi, hz0, hz1, hz2⟩ := info_parts infoInstruction
  have HP := Lib.hid hp
  have HW := Lib.hid hw
  obtain ⟨hpi, hpv, hpo, ps, hps, hl1, hl2⟩ := hp
  obtain ⟨ia, ic, rfl, hmi, _⟩ := hpi
  obtain ⟨da, dc, rfl, hmv, _⟩ := hpv
  obtain ⟨oa, oc, rfl, hmo, _⟩ := hpo
  obtain ⟨la, cap, rfl, hm, HC⟩ := Rd.flat encLV_len (by omega) hl1
  have HT := Lib.hid hl2
  have hpm : ps.length ≤ 40 := by have := hw.1; rw [← hps, List.length_map] at this; exact this
  have HLG := Lib.hid (fun k (h : k < ps.length) => linesB_get hps k h)
  have HPL := Lib.hid (show p.lines.length = ps.length by rw [← hps, List.length_map])
  have HBD := Lib.hid (fun k hk => linesA_bd hw k hk)
  clear hl1 hl2 hps hw
  go_enter Tryz.func62, Tryz.ntmps62
  go_wp2_with fail
  go_loopw [3, 4, 5] (fun o bb i wr => ∃ (k : Nat) (acc : List EInstruction) (bk : Int), k ≤ ps.length ∧ i = .int .i64 k ∧ bb = .int .i64 bk ∧ Hid (linesA p k = (acc, bk)) ∧ New ((w.alloc (.cells #[.string p.name, .slice ia p.inputs.length ic, .slice da p.vars.length dc, .slice oa p.outputs.length oc, .string p.guard, .slice la ps.length cap] 48)).alloc (.cells #[.int .i64 0, .int .i64 0, .int .i64 0, .slice none 0 0, .slice none 0 0] 27)) wr ∧ wr.ownsRow (w.heap.size + 2) 70 2 o acc.length (acc.flatMap encInstruction)) (fun _ _ i _ => ps.length - (intOf i).toNat)
  case atStart => exact ⟨0, [], 0, Nat.zero_le _, rfl, rfl, rfl, (by repeat (first | with_reducible exact New.refl _ | with_reducible assumption | with_reducible refine New.drew ?_ | with_reducible refine New.drewN ?_ _ | with_reducible refine New.alloc ?_ _ | with_reducible refine New.setCell ?_ (by first | (simp; done) | (simp; omega) | omega) _ | with_reducible refine New.trans ?_ (by with_reducible assumption))), own_empty_atI (by simp) (by simp)⟩
  case round =>
    rename World => wr1
    obtain ⟨k, acc0, b0, hk, rfl, rfl, hst0, hb, hown⟩ := hrel
    have hbz := hb.size
    simp only [World.size_alloc] at hbz
    have hb0 : New w wr1 := (((New.refl w).alloc _).alloc _).trans hb
    obtain ⟨cc, f'⟩ := hb.rules
    have hww1 : w.heap.size < wr1.heap.size := by omega
    have hww2 : w.heap.size + 1 < wr1.heap.size := by omega
    have hbd0 := HBD.out k (by rw [HPL.out]; exact hk)
    rw [hst0.out] at hbd0
    dsimp only at hbd0
    by_cases hlt : k < ps.length
    · obtain ⟨b, off, rfl, hbl, hx⟩ := HC.out k hlt
      obtain ⟨ea, ec, hev, hem, HE⟩ := Rd.flat encTerm_len (by omega) (HT.out ps[k] (List.getElem_mem hlt))
      rw [show encLV ps[k] = [.string ps[k].1.target, ps[k].2] from rfl, hev] at hx
      have x0 := hx 0 _ (by omega) rfl
      have x1 := hx 1 _ (by omega) rfl
      rw [Nat.add_zero] at x0
      replace hx := Lib.hid hx
      clear hev
      have hbw : b < wr1.heap.size := by omega
      have hbw1 : b < w.heap.size + 1 + 1 := by omega
      obtain ⟨hlp, hle⟩ := HLG.out k hlt
      have HNX := Lib.hid (linesA_next hlp)
      rw [hle, hst0.out] at HNX
      have hx40 : ps[k].1.terms.length ≤ 40 := by have := HW.out.2 _ (List.getElem_mem hlp); rwa [hle] at this
      clear hle
      replace hown := Lib.hid hown
      generalize ps[k].1 = X at *
      go_wp2_with fail
      go_loopw [3, 4, 6] (fun o bb i wr2 => ∃ (j : Nat) (acc : List EInstruction) (bk : Int), j ≤ X.terms.length ∧ i = .int .i64 j ∧ bb = .int .i64 bk ∧ Hid (termsA p (acc0, b0) (X.terms.take j) = (acc, bk)) ∧ acc.length ≤ acc0.length + j ∧ 0 ≤ bk ∧ bk ≤ b0 + j ∧ New ((w.alloc (.cells #[.string p.name, .slice ia p.inputs.length ic, .slice da p.vars.length dc, .slice oa p.outputs.length oc, .string p.guard, .slice (some ⟨b, off, none⟩) ps.length cap] 48)).alloc (.cells #[.int .i64 0, .int .i64 0, .int .i64 0, .slice none 0 0, .slice none 0 0] 27)) wr2 ∧ wr2.ownsRow (w.heap.size + 2) 70 2 o acc.length (acc.flatMap encInstruction)) (fun _ _ i _ => X.terms.length - (intOf i).toNat)
      case atStart => exact ⟨0, acc0, b0, Nat.zero_le _, rfl, rfl, rfl, Nat.le_refl _, by omega, by omega, hb, hown.out⟩
      case round =>
        rename World => wr2
        obtain ⟨j, acc, bk, hj, rfl, rfl, hst, hal, hb1, hb2, he2, hown2⟩ := hrel
        obtain ⟨c3, f3⟩ := he2.rules
        have hz3 := he2.size
        simp only [World.size_alloc] at hz3
        have hbw5 : b < wr2.heap.size := by omega
        have hww5 : w.heap.size < wr2.heap.size := by omega
        have hww6 : w.heap.size + 1 < wr2.heap.size := by omega
        by_cases hlj : j < X.terms.length
        · obtain ⟨b', off', rfl, hbl', hy⟩ := HE.out j hlj
          have y0 := hy 0 _ (by omega) rfl
          have y1 := hy 1 _ (by omega) rfl
          have y2 := hy 2 _ (by omega) rfl
          rw [Nat.add_zero] at y0
          replace hy := Lib.hid hy
          have hbw2 : b' < wr2.heap.size := by omega
          have hbw4 : b' < w.heap.size + 1 + 1 := by omega
          have HST := Lib.hid (termsA_next p (acc0, b0) hlj)
          generalize X.terms[j] = T at *
          obtain ⟨kd, nm, nu⟩ := T
          dsimp only at y0 y1 y2
          rcases (by omega : kd = 1 ∨ kd = 2 ∨ kd = 3 ∨ kd = 4 ∨ kd = 5 ∨ kd = 6 ∨ (¬ kd = 1 ∧ ¬ kd = 2 ∧ ¬ kd = 3 ∧ ¬ kd = 4 ∧ ¬ kd = 5 ∧ ¬ kd = 6)) with rfl | rfl | rfl | rfl | rfl | rfl | ⟨g1, g2, g3, g4, g5, g6⟩
          · have HA := Lib.hid (show termsA p (acc0, b0) (X.terms.take (j + 1)) = (acc ++ [nameI p nm 2 3], bk) by rw [HST.out, hst.out]; simp [termA, termI, callT])
            clear HST
            have HN := Lib.hid (fun (w0 : World) (h : RdP w0 p (.slice ia p.inputs.length ic) (.slice da p.vars.length dc) (.slice oa p.outputs.length oc) (.slice (some ⟨b, off, none⟩) ps.length cap)) => sName17_any p _ _ _ _ nm 2 3 w0 h)
            generalize nameI p nm 2 3 = NI at HA HN
            obtain ⟨o1, a1⟩ := NI
            dsimp only at HN
            have hw2 : New w wr2 := (((New.refl w).alloc _).alloc _).trans he2
            go_wp2_with fail
            refine (HN.out _ (HP.out.new (hw2.alloc _))).mono ?_; rintro e w4 ⟨rfl, b4⟩
            try with_reducible replace b4 := New.undrawN b4
            try with_reducible replace b4 := New.undraw b4
            obtain ⟨c4, f4⟩ := b4.rules
            have z4 := b4.size
            try simp only [World.size_alloc, World.size_drew, World.heap_drewN, World.size_setCell] at z4
            have z4_0 : w.heap.size < w4.heap.size := by omega
            have z4_1 : b < w4.heap.size := by omega
            have z4_2 : b' < w4.heap.size := by omega
            go_wp2_with (first | (at_builtin; refine wpList_append_own _ rfl _ _ 25 rfl (w.heap.size + 2) 70 i0 (Value.agg #[.int .i64 0, .int .i64 0]) 2 16 Tryz.underlying25 hi hz0 hz1 hz2 rfl (by decide) _ _ _ rfl ((own_new hown2 (show New wr2 _ by exact (((New.refl wr2).alloc _).trans b4).alloc _))) ⟨w4.heap.size, 0, none⟩ 1 1 [.int .i64 o1, .int .i64 a1] rfl rfl (fun j u hj => alloc_row (by first | rfl | simp) j u hj) (by intro u hu; simp at hu; rcases hu with rfl | rfl <;> rfl) (by unfold maxLen; omega) (by omega) (by first | (simp; done) | (simp; omega) | omega) ?_; intro va wa howna hgra _))
            have ba := New.grown ((((he2.alloc _).trans b4)).alloc _) hgra (fun q hq => by have := (own_block_lt hown2 q hq).1; simpa using this)
            go_roundw
            case rel => exact ⟨j + 1, acc ++ [⟨o1, a1⟩], bk, by omega, by go_num, rfl, HA, by rw [List.length_append, List.length_singleton]; omega, by omega, by omega, ba, by rw [List.length_append, flatI_app2]; exact howna⟩
            case measure => simp [intOf]; omega
          · skip
            have HA := Lib.hid (show termsA p (acc0, b0) (X.terms.take (j + 1)) = (acc ++ [⟨1, 1⟩], bk) by rw [HST.out, hst.out]; simp [termA, termI, callT])
            clear HST
            go_wp2_with (first | (at_builtin; refine wpList_append_own _ rfl _ _ 25 rfl (w.heap.size + 2) 70 i0 (Value.agg #[.int .i64 0, .int .i64 0]) 2 16 Tryz.underlying25 hi hz0 hz1 hz2 rfl (by decide) _ _ _ rfl ((hown2.alloc _).alloc _) ⟨wr2.heap.size + 1, 0, none⟩ 1 1 [.int .i64 1, .int .i64 1] rfl rfl (fun j u hj => alloc_row (by first | rfl | simp) j u hj) (by intro u hu; simp at hu; rcases hu with rfl | rfl <;> rfl) (by unfold maxLen; omega) (by omega) (by first | (simp; done) | (simp; omega) | omega) ?_; intro va wa howna hgra _))
            have ba := New.grown ((he2.alloc _).alloc _) hgra (fun q hq => by have := (own_block_lt hown2 q hq).1; simpa using this)
            go_roundw
            case rel => exact ⟨j + 1, acc ++ [⟨1, 1⟩], bk, by omega, by go_num, rfl, HA, by rw [List.length_append, List.length_singleton]; omega, by omega, by omega, ba, by rw [List.length_append, flatI_app2]; exact howna⟩
            case measure => simp [intOf]; omega
          · skip
            have HA := Lib.hid (show termsA p (acc0, b0) (X.terms.take (j + 1)) = (acc ++ [⟨1, 0⟩], bk) by rw [HST.out, hst.out]; simp [termA, termI, callT])
            clear HST
            go_wp2_with (first | (at_builtin; refine wpList_append_own _ rfl _ _ 25 rfl (w.heap.size + 2) 70 i0 (Value.agg #[.int .i64 0, .int .i64 0]) 2 16 Tryz.underlying25 hi hz0 hz1 hz2 rfl (by decide) _ _ _ rfl ((hown2.alloc _).alloc _) ⟨wr2.heap.size + 1, 0, none⟩ 1 1 [.int .i64 1, .int .i64 0] rfl rfl (fun j u hj => alloc_row (by first | rfl | simp) j u hj) (by intro u hu; simp at hu; rcases hu with rfl | rfl <;> rfl) (by unfold maxLen; omega) (by omega) (by first | (simp; done) | (simp; omega) | omega) ?_; intro va wa howna hgra _))
            have ba := New.grown ((he2.alloc _).alloc _) hgra (fun q hq => by have := (own_block_lt hown2 q hq).1; simpa using this)
            go_roundw
            case rel => exact ⟨j + 1, acc ++ [⟨1, 0⟩], bk, by omega, by go_num, rfl, HA, by rw [List.length_append, List.length_singleton]; omega, by omega, by omega, ba, by rw [List.length_append, flatI_app2]; exact howna⟩
            case measure => simp [intOf]; omega
          · skip
            have HA := Lib.hid (show termsA p (acc0, b0) (X.terms.take (j + 1)) = (acc ++ [⟨4, 0⟩], bk) by rw [HST.out, hst.out]; simp [termA, termI, callT])
            clear HST
            go_wp2_with (first | (at_builtin; refine wpList_append_own _ rfl _ _ 25 rfl (w.heap.size + 2) 70 i0 (Value.agg #[.int .i64 0, .int .i64 0]) 2 16 Tryz.underlying25 hi hz0 hz1 hz2 rfl (by decide) _ _ _ rfl ((hown2.alloc _).alloc _) ⟨wr2.heap.size + 1, 0, none⟩ 1 1 [.int .i64 4, .int .i64 0] rfl rfl (fun j u hj => alloc_row (by first | rfl | simp) j u hj) (by intro u hu; simp at hu; rcases hu with rfl | rfl <;> rfl) (by unfold maxLen; omega) (by omega) (by first | (simp; done) | (simp; omega) | omega) ?_; intro va wa howna hgra _))
            have ba := New.grown ((he2.alloc _).alloc _) hgra (fun q hq => by have := (own_block_lt hown2 q hq).1; simpa using this)
            go_roundw
            case rel => exact ⟨j + 1, acc ++ [⟨4, 0⟩], bk, by omega, by go_num, rfl, HA, by rw [List.length_append, List.length_singleton]; omega, by omega, by omega, ba, by rw [List.length_append, flatI_app2]; exact howna⟩
            case measure => simp [intOf]; omega
          · skip
            have HA := Lib.hid (show termsA p (acc0, b0) (X.terms.take (j + 1)) = (acc ++ [⟨5, 0⟩], bk) by rw [HST.out, hst.out]; simp [termA, termI, callT])
            clear HST
            go_wp2_with (first | (at_builtin; refine wpList_append_own _ rfl _ _ 25 rfl (w.heap.size + 2) 70 i0 (Value.agg #[.int .i64 0, .int .i64 0]) 2 16 Tryz.underlying25 hi hz0 hz1 hz2 rfl (by decide) _ _ _ rfl ((hown2.alloc _).alloc _) ⟨wr2.heap.size + 1, 0, none⟩ 1 1 [.int .i64 5, .int .i64 0] rfl rfl (fun j u hj => alloc_row (by first | rfl | simp) j u hj) (by intro u hu; simp at hu; rcases hu with rfl | rfl <;> rfl) (by unfold maxLen; omega) (by omega) (by first | (simp; done) | (simp; omega) | omega) ?_; intro va wa howna hgra _))
            have ba := New.grown ((he2.alloc _).alloc _) hgra (fun q hq => by have := (own_block_lt hown2 q hq).1; simpa using this)
            go_roundw
            case rel => exact ⟨j + 1, acc ++ [⟨5, 0⟩], bk, by omega, by go_num, rfl, HA, by rw [List.length_append, List.length_singleton]; omega, by omega, by omega, ba, by rw [List.length_append, flatI_app2]; exact howna⟩
            case measure => simp [intOf]; omega
          · skip
            have HA := Lib.hid (show termsA p (acc0, b0) (X.terms.take (j + 1)) = (acc ++ [⟨6, 0⟩], bk) by rw [HST.out, hst.out]; simp [termA, termI, callT])
            clear HST
            go_wp2_with (first | (at_builtin; refine wpList_append_own _ rfl _ _ 25 rfl (w.heap.size + 2) 70 i0 (Value.agg #[.int .i64 0, .int .i64 0]) 2 16 Tryz.underlying25 hi hz0 hz1 hz2 rfl (by decide) _ _ _ rfl ((hown2.alloc _).alloc _) ⟨wr2.heap.size + 1, 0, none⟩ 1 1 [.int .i64 6, .int .i64 0] rfl rfl (fun j u hj => alloc_row (by first | rfl | simp) j u hj) (by intro u hu; simp at hu; rcases hu with rfl | rfl <;> rfl) (by unfold maxLen; omega) (by omega) (by first | (simp; done) | (simp; omega) | omega) ?_; intro va wa howna hgra _))
            have ba := New.grown ((he2.alloc _).alloc _) hgra (fun q hq => by have := (own_block_lt hown2 q hq).1; simpa using this)
            go_roundw
            case rel => exact ⟨j + 1, acc ++ [⟨6, 0⟩], bk, by omega, by go_num, rfl, HA, by rw [List.length_append, List.length_singleton]; omega, by omega, by omega, ba, by rw [List.length_append, flatI_app2]; exact howna⟩
            case measure => simp [intOf]; omega
          · have HA := Lib.hid (show termsA p (acc0, b0) (X.terms.take (j + 1)) = (acc ++ [⟨7, bk⟩], bk + 1) by rw [HST.out, hst.out]; simp [termA, termI, callT, g1, g2, g3, g4, g5, g6]; omega)
            clear HST
            go_wp2_with (first | (at_builtin; refine wpList_append_own _ rfl _ _ 25 rfl (w.heap.size + 2) 70 i0 (Value.agg #[.int .i64 0, .int .i64 0]) 2 16 Tryz.underlying25 hi hz0 hz1 hz2 rfl (by decide) _ _ _ rfl ((hown2.alloc _).alloc _) ⟨wr2.heap.size + 1, 0, none⟩ 1 1 [.int .i64 7, .int .i64 bk] rfl rfl (fun j u hj => alloc_row (by first | rfl | simp) j u hj) (by intro u hu; simp at hu; rcases hu with rfl | rfl <;> rfl) (by unfold maxLen; omega) (by omega) (by first | (simp; done) | (simp; omega) | omega) ?_; intro va wa howna hgra _))
            have ba := New.grown ((he2.alloc _).alloc _) hgra (fun q hq => by have := (own_block_lt hown2 q hq).1; simpa using this)
            go_roundw
            case rel => exact ⟨j + 1, acc ++ [⟨7, bk⟩], bk + 1, by omega, by go_num, by go_num, HA, by rw [List.length_append, List.length_singleton]; omega, by omega, by omega, ba, by rw [List.length_append, flatI_app2]; exact howna⟩
            case measure => simp [intOf]; omega
        · obtain rfl : j = X.terms.length := by omega
          have HTT := Lib.hid (show termsA p (acc0, b0) X.terms = (acc, bk) by have := hst.out; rwa [List.take_length] at this)
          have hw2 : New w wr2 := (((New.refl w).alloc _).alloc _).trans he2
          have HIV := Lib.hid (fun (w0 : World) (h : New w w0) => sIdN_any X.target _ p.vars w0 (Rd.new HP.out.vars h))
          have HIO := Lib.hid (fun (w0 : World) (h : New w w0) => sIdN_any X.target _ p.outputs w0 (Rd.new HP.out.outs h))
          have HTG : tgtI p X.target = if 0 ≤ idS p.vars X.target then ⟨8, idS p.vars X.target⟩ else ⟨9, idS p.outputs X.target⟩ := rfl
          have HLA := Lib.hid (show linesA p (k + 1) = (acc ++ [tgtI p X.target], bk) by rw [HNX.out, lineA, HTT.out])
          generalize idS p.vars X.target = qv at HIV HTG
          generalize idS p.outputs X.target = qo at HIO HTG
          clear hst HNX HTT
          have k2 : wr2.cell? ⟨w.heap.size, 2, none⟩ = some (.slice da p.vars.length dc) := by simp (disch := first | (simp only [World.size_alloc, World.size_drew, World.size_setCell]; omega) | omega | (simp; done) | (simp; omega)) only [c3, cell_alloc_old, cell_alloc_new, World.cell?_drewN, World.cell?_drew]; first | done | rfl | (simp; done)
          have k3 : wr2.cell? ⟨w.heap.size, 3, none⟩ = some (.slice oa p.outputs.length oc) := by simp (disch := first | (simp only [World.size_alloc, World.size_drew, World.size_setCell]; omega) | omega | (simp; done) | (simp; omega)) only [c3, cell_alloc_old, cell_alloc_new, World.cell?_drewN, World.cell?_drew]; first | done | rfl | (simp; done)
          have k5 : wr2.cell? ⟨w.heap.size, 5, none⟩ = some (.slice (some ⟨b, off, none⟩) ps.length cap) := by simp (disch := first | (simp only [World.size_alloc, World.size_drew, World.size_setCell]; omega) | omega | (simp; done) | (simp; omega)) only [c3, cell_alloc_old, cell_alloc_new, World.cell?_drewN, World.cell?_drew]; first | done | rfl | (simp; done)
          have kx : wr2.cell? ⟨b, off + k * 2, none⟩ = some (.string X.target) := by rw [c3 _ _ (by simp only [World.size_alloc]; omega), cell_alloc_old _ _ _ _ (by simp only [World.size_alloc]; omega), cell_alloc_old _ _ _ _ (by omega)]; exact x0
          generalize X.target = tg at x0 kx HIV HIO HTG HLA
          go_wp2_with fail
          by_cases hq : 0 ≤ qv
          · rw [if_pos hq] at HTG
            rw [HTG] at HLA
            clear HTG
            refine RG.wp_facts [fun X _ => X = .pointer (some ⟨w.heap.size, 2, none⟩), fun X _ => X = .slice da p.vars.length dc, fun X _ => X = .pointer (some ⟨w.heap.size, 5, none⟩), fun X _ => X = .slice (some ⟨b, off, none⟩) ps.length cap, fun X _ => X = .int .i64 k, fun X _ => X = .pointer (some ⟨b, off + k * 2, none⟩), fun X _ => X = .pointer (some ⟨b, off + k * 2, none⟩), fun X _ => X = .string tg, fun X _ => X = .int .i64 qv] (by kernel_rfl) (by kernel_rfl) ⟨RG.stable_eq _, RG.stable_eq _, RG.stable_eq _, RG.stable_eq _, RG.stable_eq _, RG.stable_eq _, RG.stable_eq _, RG.stable_eq _, RG.stable_eq _, trivial⟩ ?_ ?_
            · refine ⟨?_, ?_, ?_, ?_, ?_, ?_, ?_, ?_, ?_, trivial⟩
              · intro a w9 hw ho hk
                refine .inl ⟨by rfl, ?_⟩
                have t2 := ho 1 rfl
                dsimp at t2
                try with_reducible replace hw := New.undrawN hw
                try with_reducible replace hw := New.undraw hw
                obtain ⟨c, f'⟩ := hw.rules
                go_simp
                exact New.refl _
              · intro a w9 hw ho hk
                refine .inl ⟨by rfl, ?_⟩
                have t79 : a.tmps[79]?.getD undef = .pointer (some ⟨w.heap.size, 2, none⟩) := hk 0 79 (by kernel_rfl) rfl
                try with_reducible replace hw := New.undrawN hw
                try with_reducible replace hw := New.undraw hw
                obtain ⟨c, f'⟩ := hw.rules
                go_simp
                exact New.refl _
              · intro a w9 hw ho hk
                refine .inl ⟨by rfl, ?_⟩
                have t2 := ho 1 rfl
                dsimp at t2
                try with_reducible replace hw := New.undrawN hw
                try with_reducible replace hw := New.undraw hw
                obtain ⟨c, f'⟩ := hw.rules
                go_simp
                exact New.refl _
              · intro a w9 hw ho hk
                refine .inl ⟨by rfl, ?_⟩
                have t81 : a.tmps[81]?.getD undef = .pointer (some ⟨w.heap.size, 5, none⟩) := hk 2 81 (by kernel_rfl) rfl
                try with_reducible replace hw := New.undrawN hw
                try with_reducible replace hw := New.undraw hw
                obtain ⟨c, f'⟩ := hw.rules
                go_simp
                exact New.refl _
              · intro a w9 hw ho hk
                refine .inl ⟨by rfl, ?_⟩
                have t2 := ho 5 rfl
                dsimp at t2
                try with_reducible replace hw := New.undrawN hw
                try with_reducible replace hw := New.undraw hw
                obtain ⟨c, f'⟩ := hw.rules
                go_simp
                exact New.refl _
              · intro a w9 hw ho hk
                refine .inl ⟨by rfl, ?_⟩
                have t82 : a.tmps[82]?.getD undef = .slice (some ⟨b, off, none⟩) ps.length cap := hk 3 82 (by kernel_rfl) rfl
                have t83 : a.tmps[83]?.getD undef = .int .i64 k := hk 4 83 (by kernel_rfl) rfl
                go_simp
                exact New.refl _
              · intro a w9 hw ho hk
                refine .inl ⟨by rfl, ?_⟩
                have t84 : a.tmps[84]?.getD undef = .pointer (some ⟨b, off + k * 2, none⟩) := hk 5 84 (by kernel_rfl) rfl
                go_simp
                exact New.refl _
              · intro a w9 hw ho hk
                refine .inl ⟨by rfl, ?_⟩
                have t85 : a.tmps[85]?.getD undef = .pointer (some ⟨b, off + k * 2, none⟩) := hk 6 85 (by kernel_rfl) rfl
                try with_reducible replace hw := New.undrawN hw
                try with_reducible replace hw := New.undraw hw
                obtain ⟨c, f'⟩ := hw.rules
                go_simp
                exact New.refl _
              · intro a w9 hw ho hk
                refine .inl ⟨by rfl, ?_⟩
                have t80 : a.tmps[80]?.getD undef = .slice da p.vars.length dc := hk 1 80 (by kernel_rfl) rfl
                have t86 : a.tmps[86]?.getD undef = .string tg := hk 7 86 (by kernel_rfl) rfl
                go_simp
                refine (HIV.out _ (hw2.trans hw)).mono ?_; rintro e w2 ⟨rfl, hb⟩
                first | exact ⟨hb, _, rfl, by simp⟩ | exact ⟨hb, by simp⟩
            intro w5 b5
            rintro _ rfl _ rfl _ rfl _ rfl _ rfl _ rfl _ rfl _ rfl _ rfl
            try with_reducible replace b5 := New.undrawN b5
            try with_reducible replace b5 := New.undraw b5
            obtain ⟨c5, f5⟩ := b5.rules
            have z5 := b5.size
            try simp only [World.size_alloc, World.size_drew, World.heap_drewN, World.size_setCell] at z5
            have z5_0 : w.heap.size < w5.heap.size := by omega
            have z5_1 : w.heap.size + 1 < w5.heap.size := by omega
            have z5_2 : b < w5.heap.size := by omega
            simp only [RG.EndAll, List.nil_append, List.cons_append, List.length_cons, List.length_nil, Nat.zero_add, Nat.reduceAdd, List.take_succ_cons, List.take_zero, List.drop_succ_cons, List.drop_zero, RG.putAll, Act.put, List.setIfInBounds_toArray, List.set_cons_succ, List.set_cons_zero]
            go_wp2_with (first | (at_builtin; refine wpList_append_own _ rfl _ _ 25 rfl (w.heap.size + 2) 70 i0 (Value.agg #[.int .i64 0, .int .i64 0]) 2 16 Tryz.underlying25 hi hz0 hz1 hz2 rfl (by decide) _ _ _ rfl ((own_new hown2 b5).alloc _) ⟨w5.heap.size, 0, none⟩ 1 1 [.int .i64 8, .int .i64 qv] rfl rfl (fun j u hj => alloc_row (by first | rfl | simp) j u hj) (by intro u hu; simp at hu; rcases hu with rfl | rfl <;> rfl) (by unfold maxLen; omega) (by omega) (by first | (simp; done) | (simp; omega) | omega) ?_; intro va wa howna hgra _))
            have ba := New.grown ((he2.trans b5).alloc _) hgra (fun q hq => by have := (own_block_lt hown2 q hq).1; simpa using this)
            go_roundw
            case rel => exact ⟨k + 1, acc ++ [⟨8, qv⟩], bk, by omega, by go_num, rfl, HLA, ba, by rw [List.length_append, flatI_app2]; exact howna⟩
            case measure => simp [intOf]; omega
          · rw [if_neg hq] at HTG
            rw [HTG] at HLA
            clear HTG
            refine RG.wp_facts [fun X _ => X = .pointer (some ⟨w.heap.size, 2, none⟩), fun X _ => X = .slice da p.vars.length dc, fun X _ => X = .pointer (some ⟨w.heap.size, 5, none⟩), fun X _ => X = .slice (some ⟨b, off, none⟩) ps.length cap, fun X _ => X = .int .i64 k, fun X _ => X = .pointer (some ⟨b, off + k * 2, none⟩), fun X _ => X = .pointer (some ⟨b, off + k * 2, none⟩), fun X _ => X = .string tg, fun X _ => X = .int .i64 qv] (by kernel_rfl) (by kernel_rfl) ⟨RG.stable_eq _, RG.stable_eq _, RG.stable_eq _, RG.stable_eq _, RG.stable_eq _, RG.stable_eq _, RG.stable_eq _, RG.stable_eq _, RG.stable_eq _, trivial⟩ ?_ ?_
            · refine ⟨?_, ?_, ?_, ?_, ?_, ?_, ?_, ?_, ?_, trivial⟩
              · intro a w9 hw ho hk
                refine .inl ⟨by rfl, ?_⟩
                have t2 := ho 1 rfl
                dsimp at t2
                try with_reducible replace hw := New.undrawN hw
                try with_reducible replace hw := New.undraw hw
                obtain ⟨c, f'⟩ := hw.rules
                go_simp
                exact New.refl _
              · intro a w9 hw ho hk
                refine .inl ⟨by rfl, ?_⟩
                have t79 : a.tmps[79]?.getD undef = .pointer (some ⟨w.heap.size, 2, none⟩) := hk 0 79 (by kernel_rfl) rfl
                try with_reducible replace hw := New.undrawN hw
                try with_reducible replace hw := New.undraw hw
                obtain ⟨c, f'⟩ := hw.rules
                go_simp
                exact New.refl _
              · intro a w9 hw ho hk
                refine .inl ⟨by rfl, ?_⟩
                have t2 := ho 1 rfl
                dsimp at t2
                try with_reducible replace hw := New.undrawN hw
                try with_reducible replace hw := New.undraw hw
                obtain ⟨c, f'⟩ := hw.rules
                go_simp
                exact New.refl _
              · intro a w9 hw ho hk
                refine .inl ⟨by rfl, ?_⟩
                have t81 : a.tmps[81]?.getD undef = .pointer (some ⟨w.heap.size, 5, none⟩) := hk 2 81 (by kernel_rfl) rfl
                try with_reducible replace hw := New.undrawN hw
                try with_reducible replace hw := New.undraw hw
                obtain ⟨c, f'⟩ := hw.rules
                go_simp
                exact New.refl _
              · intro a w9 hw ho hk
                refine .inl ⟨by rfl, ?_⟩
                have t2 := ho 5 rfl
                dsimp at t2
                try with_reducible replace hw := New.undrawN hw
                try with_reducible replace hw := New.undraw hw
                obtain ⟨c, f'⟩ := hw.rules
                go_simp
                exact New.refl _
              · intro a w9 hw ho hk
                refine .inl ⟨by rfl, ?_⟩
                have t82 : a.tmps[82]?.getD undef = .slice (some ⟨b, off, none⟩) ps.length cap := hk 3 82 (by kernel_rfl) rfl
                have t83 : a.tmps[83]?.getD undef = .int .i64 k := hk 4 83 (by kernel_rfl) rfl
                go_simp
                exact New.refl _
              · intro a w9 hw ho hk
                refine .inl ⟨by rfl, ?_⟩
                have t84 : a.tmps[84]?.getD undef = .pointer (some ⟨b, off + k * 2, none⟩) := hk 5 84 (by kernel_rfl) rfl
                go_simp
                exact New.refl _
              · intro a w9 hw ho hk
                refine .inl ⟨by rfl, ?_⟩
                have t85 : a.tmps[85]?.getD undef = .pointer (some ⟨b, off + k * 2, none⟩) := hk 6 85 (by kernel_rfl) rfl
                try with_reducible replace hw := New.undrawN hw
                try with_reducible replace hw := New.undraw hw
                obtain ⟨c, f'⟩ := hw.rules
                go_simp
                exact New.refl _
              · intro a w9 hw ho hk
                refine .inl ⟨by rfl, ?_⟩
                have t80 : a.tmps[80]?.getD undef = .slice da p.vars.length dc := hk 1 80 (by kernel_rfl) rfl
                have t86 : a.tmps[86]?.getD undef = .string tg := hk 7 86 (by kernel_rfl) rfl
                go_simp
                refine (HIV.out _ (hw2.trans hw)).mono ?_; rintro e w2 ⟨rfl, hb⟩
                first | exact ⟨hb, _, rfl, by simp⟩ | exact ⟨hb, by simp⟩
            intro w5 b5
            rintro _ rfl _ rfl _ rfl _ rfl _ rfl _ rfl _ rfl _ rfl _ rfl
            try with_reducible replace b5 := New.undrawN b5
            try with_reducible replace b5 := New.undraw b5
            obtain ⟨c5, f5⟩ := b5.rules
            have z5 := b5.size
            try simp only [World.size_alloc, World.size_drew, World.heap_drewN, World.size_setCell] at z5
            have z5_0 : w.heap.size < w5.heap.size := by omega
            have z5_1 : w.heap.size + 1 < w5.heap.size := by omega
            have z5_2 : b < w5.heap.size := by omega
            simp only [RG.EndAll, List.nil_append, List.cons_append, List.length_cons, List.length_nil, Nat.zero_add, Nat.reduceAdd, List.take_succ_cons, List.take_zero, List.drop_succ_cons, List.drop_zero, RG.putAll, Act.put, List.setIfInBounds_toArray, List.set_cons_succ, List.set_cons_zero]
            have k53 : w5.cell? ⟨w.heap.size, 3, none⟩ = some (.slice oa p.outputs.length oc) := by simp (disch := first | (simp only [World.size_alloc, World.size_drew, World.size_setCell]; omega) | omega | (simp; done) | (simp; omega)) only [c5, k3, cell_alloc_old, cell_alloc_new, World.cell?_drewN, World.cell?_drew]; first | done | rfl | (simp; done)
            have k55 : w5.cell? ⟨w.heap.size, 5, none⟩ = some (.slice (some ⟨b, off, none⟩) ps.length cap) := by simp (disch := first | (simp only [World.size_alloc, World.size_drew, World.size_setCell]; omega) | omega | (simp; done) | (simp; omega)) only [c5, k5, cell_alloc_old, cell_alloc_new, World.cell?_drewN, World.cell?_drew]; first | done | rfl | (simp; done)
            have k5x : w5.cell? ⟨b, off + k * 2, none⟩ = some (.string tg) := by rw [c5 _ _ hbw5]; exact kx
            have hw5 : New w w5 := hw2.trans b5
            go_wp2_with fail
            refine RG.wp_facts [fun X _ => X = u3, fun X _ => X = .pointer (some ⟨w.heap.size, 3, none⟩), fun X _ => X = .slice oa p.outputs.length oc, fun X _ => X = .pointer (some ⟨w.heap.size, 5, none⟩), fun X _ => X = .slice (some ⟨b, off, none⟩) ps.length cap, fun X _ => X = .int .i64 k, fun X _ => X = .pointer (some ⟨b, off + k * 2, none⟩), fun X _ => X = .pointer (some ⟨b, off + k * 2, none⟩), fun X _ => X = .string tg, fun X _ => X = .int .i64 qo, fun X _ => X = .agg #[.int .i64 9, .int .i64 qo], fun X W' => ∃ q, X = .slice (some ⟨q, 0, none⟩) 1 1 ∧ Blk W' q #[.int .i64 9, .int .i64 qo] 70] (by kernel_rfl) (by kernel_rfl) ⟨RG.stable_eq _, RG.stable_eq _, RG.stable_eq _, RG.stable_eq _, RG.stable_eq _, RG.stable_eq _, RG.stable_eq _, RG.stable_eq _, RG.stable_eq _, RG.stable_eq _, RG.stable_eq _, fun X w0 w1 hn ⟨q106, t106, o106⟩ => ⟨q106, t106, o106.new hn⟩, trivial⟩ ?_ ?_
            · refine ⟨?_, ?_, ?_, ?_, ?_, ?_, ?_, ?_, ?_, ?_, ?_, ?_, trivial⟩
              · intro a w9 hw ho hk
                refine .inl ⟨by rfl, ?_⟩
                have t2 := ho 3 rfl
                dsimp at t2
                try with_reducible replace hw := New.undrawN hw
                try with_reducible replace hw := New.undraw hw
                obtain ⟨c, f'⟩ := hw.rules
                go_simp
                exact New.refl _
              · intro a w9 hw ho hk
                refine .inl ⟨by rfl, ?_⟩
                have t2 := ho 1 rfl
                dsimp at t2
                try with_reducible replace hw := New.undrawN hw
                try with_reducible replace hw := New.undraw hw
                obtain ⟨c, f'⟩ := hw.rules
                go_simp
                exact New.refl _
              · intro a w9 hw ho hk
                refine .inl ⟨by rfl, ?_⟩
                have t96 : a.tmps[96]?.getD undef = .pointer (some ⟨w.heap.size, 3, none⟩) := hk 1 96 (by kernel_rfl) rfl
                try with_reducible replace hw := New.undrawN hw
                try with_reducible replace hw := New.undraw hw
                obtain ⟨c, f'⟩ := hw.rules
                go_simp
                exact New.refl _
              · intro a w9 hw ho hk
                refine .inl ⟨by rfl, ?_⟩
                have t2 := ho 1 rfl
                dsimp at t2
                try with_reducible replace hw := New.undrawN hw
                try with_reducible replace hw := New.undraw hw
                obtain ⟨c, f'⟩ := hw.rules
                go_simp
                exact New.refl _
              · intro a w9 hw ho hk
                refine .inl ⟨by rfl, ?_⟩
                have t98 : a.tmps[98]?.getD undef = .pointer (some ⟨w.heap.size, 5, none⟩) := hk 3 98 (by kernel_rfl) rfl
                try with_reducible replace hw := New.undrawN hw
                try with_reducible replace hw := New.undraw hw
                obtain ⟨c, f'⟩ := hw.rules
                go_simp
                exact New.refl _
              · intro a w9 hw ho hk
                refine .inl ⟨by rfl, ?_⟩
                have t2 := ho 5 rfl
                dsimp at t2
                try with_reducible replace hw := New.undrawN hw
                try with_reducible replace hw := New.undraw hw
                obtain ⟨c, f'⟩ := hw.rules
                go_simp
                exact New.refl _
              · intro a w9 hw ho hk
                refine .inl ⟨by rfl, ?_⟩
                have t99 : a.tmps[99]?.getD undef = .slice (some ⟨b, off, none⟩) ps.length cap := hk 4 99 (by kernel_rfl) rfl
                have t100 : a.tmps[100]?.getD undef = .int .i64 k := hk 5 100 (by kernel_rfl) rfl
                go_simp
                exact New.refl _
              · intro a w9 hw ho hk
                refine .inl ⟨by rfl, ?_⟩
                have t101 : a.tmps[101]?.getD undef = .pointer (some ⟨b, off + k * 2, none⟩) := hk 6 101 (by kernel_rfl) rfl
                go_simp
                exact New.refl _
              · intro a w9 hw ho hk
                refine .inl ⟨by rfl, ?_⟩
                have t102 : a.tmps[102]?.getD undef = .pointer (some ⟨b, off + k * 2, none⟩) := hk 7 102 (by kernel_rfl) rfl
                try with_reducible replace hw := New.undrawN hw
                try with_reducible replace hw := New.undraw hw
                obtain ⟨c, f'⟩ := hw.rules
                go_simp
                exact New.refl _
              · intro a w9 hw ho hk
                refine .inl ⟨by rfl, ?_⟩
                have t97 : a.tmps[97]?.getD undef = .slice oa p.outputs.length oc := hk 2 97 (by kernel_rfl) rfl
                have t103 : a.tmps[103]?.getD undef = .string tg := hk 8 103 (by kernel_rfl) rfl
                go_simp
                refine (HIO.out _ (hw5.trans hw)).mono ?_; rintro e w2 ⟨rfl, hb⟩
                first | exact ⟨hb, _, rfl, by simp⟩ | exact ⟨hb, by simp⟩
              · intro a w9 hw ho hk
                refine .inl ⟨by rfl, ?_⟩
                have t104 : a.tmps[104]?.getD undef = .int .i64 qo := hk 9 104 (by kernel_rfl) rfl
                go_simp
                exact New.refl _
              · intro a w9 hw ho hk
                refine .inl ⟨by rfl, ?_⟩
                have t105 : a.tmps[105]?.getD undef = .agg #[.int .i64 9, .int .i64 qo] := hk 10 105 (by kernel_rfl) rfl
                go_simp; first | exact ⟨(New.refl _).alloc _, _, rfl, _, rfl, Blk.alloc_at rfl⟩ | exact ⟨(New.refl _).alloc _, _, by simp, Blk.alloc_at rfl⟩
            intro w7 b7
            rintro _ rfl _ rfl _ rfl _ rfl _ rfl _ rfl _ rfl _ rfl _ rfl _ rfl _ rfl _ ⟨q106, rfl, o106⟩
            try with_reducible replace b7 := New.undrawN b7
            try with_reducible replace b7 := New.undraw b7
            obtain ⟨c7, f7⟩ := b7.rules
            have z7 := b7.size
            try simp only [World.size_alloc, World.size_drew, World.heap_drewN, World.size_setCell] at z7
            have z7_0 : w.heap.size < w7.heap.size := by omega
            have z7_1 : w.heap.size + 1 < w7.heap.size := by omega
            have z7_2 : b < w7.heap.size := by omega
            simp only [RG.EndAll, List.nil_append, List.cons_append, List.length_cons, List.length_nil, Nat.zero_add, Nat.reduceAdd, List.take_succ_cons, List.take_zero, List.drop_succ_cons, List.drop_zero, RG.putAll, Act.put, List.setIfInBounds_toArray, List.set_cons_succ, List.set_cons_zero]
            go_wp2_with (first | (at_builtin; refine wpList_append_rd rfl _ _ 25 rfl (w.heap.size + 2) 70 i0 (Value.agg #[.int .i64 0, .int .i64 0]) 2 16 Tryz.underlying25 hi hz0 hz1 hz2 rfl (by decide) _ _ _ rfl (own_new (own_new hown2 b5) b7) _ _ (([(⟨9, qo⟩ : EInstruction)]).flatMap encInstruction) rfl (rd_of_blkI o106) (flat_length encInstruction 2 encInstruction_len _) (encI_one _) (by unfold maxLen; omega) (by omega) (by first | (simp; done) | (simp; omega) | omega) ?_; intro va wa howna hgra))
            have ba := New.grown ((he2.trans b5).trans b7) hgra (fun q hq => by have := (own_block_lt hown2 q hq).1; simpa using this)
            go_roundw
            case rel => exact ⟨k + 1, acc ++ [⟨9, qo⟩], bk, by omega, by go_num, rfl, HLA, ba, by rw [List.length_append, List.flatMap_append]; exact howna⟩
            case measure => simp [intOf]; omega
    · obtain rfl : k = ps.length := by omega
      have HLN := Lib.hid (show linesA p p.lines.length = (acc0, b0) by rw [HPL.out]; exact hst0.out)
      have HBK := Lib.hid (fun (w0 : World) (h : New w w0) => sBlocksF_any p _ _ _ _ w0 (HP.out.new h) HW.out)
      have HNG := Lib.hid (fun (w0 : World) (h : New w w0) => sName17_any p _ _ _ _ p.guard 10 11 w0 (HP.out.new h))
      obtain ⟨sa, sc, rfl⟩ := own_slice hown
      clear hst0
      have k1 : wr1.cell? ⟨w.heap.size, 1, none⟩ = some (.slice ia p.inputs.length ic) := by simp (disch := first | (simp only [World.size_alloc, World.size_drew, World.size_setCell]; omega) | omega | (simp; done) | (simp; omega)) only [cc, cell_alloc_old, cell_alloc_new, World.cell?_drewN, World.cell?_drew]; first | done | rfl | (simp; done)
      have k2 : wr1.cell? ⟨w.heap.size, 2, none⟩ = some (.slice da p.vars.length dc) := by simp (disch := first | (simp only [World.size_alloc, World.size_drew, World.size_setCell]; omega) | omega | (simp; done) | (simp; omega)) only [cc, cell_alloc_old, cell_alloc_new, World.cell?_drewN, World.cell?_drew]; first | done | rfl | (simp; done)
      have k3 : wr1.cell? ⟨w.heap.size, 3, none⟩ = some (.slice oa p.outputs.length oc) := by simp (disch := first | (simp only [World.size_alloc, World.size_drew, World.size_setCell]; omega) | omega | (simp; done) | (simp; omega)) only [cc, cell_alloc_old, cell_alloc_new, World.cell?_drewN, World.cell?_drew]; first | done | rfl | (simp; done)
      have k4 : wr1.cell? ⟨w.heap.size, 4, none⟩ = some (.string p.guard) := by simp (disch := first | (simp only [World.size_alloc, World.size_drew, World.size_setCell]; omega) | omega | (simp; done) | (simp; omega)) only [cc, cell_alloc_old, cell_alloc_new, World.cell?_drewN, World.cell?_drew]; first | done | rfl | (simp; done)
      have k0 : wr1.cell? ⟨w.heap.size, 0, none⟩ = some (.string p.name) := by simp (disch := first | (simp only [World.size_alloc, World.size_drew, World.size_setCell]; omega) | omega | (simp; done) | (simp; omega)) only [cc, cell_alloc_old, cell_alloc_new, World.cell?_drewN, World.cell?_drew]; first | done | rfl | (simp; done)
      have k5 : wr1.cell? ⟨w.heap.size, 5, none⟩ = some (.slice la ps.length cap) := by simp (disch := first | (simp only [World.size_alloc, World.size_drew, World.size_setCell]; omega) | omega | (simp; done) | (simp; omega)) only [cc, cell_alloc_old, cell_alloc_new, World.cell?_drewN, World.cell?_drew]; first | done | rfl | (simp; done)
      rcases Bool.eq_false_or_eq_true (p.guard.toList.isEmpty) with he | he
      · have HC := Lib.hid (show compC p = ⟨p.inputs.length, p.vars.length, p.outputs.length, blkP p, acc0⟩ by rw [compC, compS, HLN.out, if_pos he]; simp)
        go_wp2_with fail
        refine RG.wp_facts [fun X _ => X = .pointer (some ⟨w.heap.size, 1, none⟩), fun X _ => X = .slice ia p.inputs.length ic, fun X _ => X = .int .i64 p.inputs.length, fun X _ => X = .pointer (some ⟨w.heap.size, 2, none⟩), fun X _ => X = .slice da p.vars.length dc, fun X _ => X = .int .i64 p.vars.length, fun X _ => X = .pointer (some ⟨w.heap.size, 3, none⟩), fun X _ => X = .slice oa p.outputs.length oc, fun X _ => X = .int .i64 p.outputs.length, fun X _ => X = .agg #[.string p.name, .slice ia p.inputs.length ic, .slice da p.vars.length dc, .slice oa p.outputs.length oc, .string p.guard, .slice la ps.length cap], fun X W' => ∃ q c, X = .slice q (blkP p).length c ∧ W'.ownsRow wr1.heap.size 66 3 (.slice q (blkP p).length c) (blkP p).length ((blkP p).flatMap encTerm), fun X _ => X = .slice sa acc0.length sc] (by kernel_rfl) (by kernel_rfl) ⟨RG.stable_eq _, RG.stable_eq _, RG.stable_eq _, RG.stable_eq _, RG.stable_eq _, RG.stable_eq _, RG.stable_eq _, RG.stable_eq _, RG.stable_eq _, RG.stable_eq _, fun X w0 w1 hn ⟨q128, k128, t128, r128⟩ => ⟨q128, k128, t128, own_new r128 hn⟩, RG.stable_eq _, trivial⟩ ?_ ?_
        · refine ⟨?_, ?_, ?_, ?_, ?_, ?_, ?_, ?_, ?_, ?_, ?_, ?_, trivial⟩
          · intro a w9 hw ho hk
            refine .inl ⟨by rfl, ?_⟩
            have t2 := ho 1 rfl
            dsimp at t2
            try with_reducible replace hw := New.undrawN hw
            try with_reducible replace hw := New.undraw hw
            obtain ⟨c, f'⟩ := hw.rules
            go_simp
            exact New.refl _
          · intro a w9 hw ho hk
            refine .inl ⟨by rfl, ?_⟩
            have t118 : a.tmps[118]?.getD undef = .pointer (some ⟨w.heap.size, 1, none⟩) := hk 0 118 (by kernel_rfl) rfl
            try with_reducible replace hw := New.undrawN hw
            try with_reducible replace hw := New.undraw hw
            obtain ⟨c, f'⟩ := hw.rules
            go_simp
            exact New.refl _
          · intro a w9 hw ho hk
            refine .inl ⟨by rfl, ?_⟩
            have t119 : a.tmps[119]?.getD undef = .slice ia p.inputs.length ic := hk 1 119 (by kernel_rfl) rfl
            go_simp
            exact New.refl _
          · intro a w9 hw ho hk
            refine .inl ⟨by rfl, ?_⟩
            have t2 := ho 1 rfl
            dsimp at t2
            try with_reducible replace hw := New.undrawN hw
            try with_reducible replace hw := New.undraw hw
            obtain ⟨c, f'⟩ := hw.rules
            go_simp
            exact New.refl _
          · intro a w9 hw ho hk
            refine .inl ⟨by rfl, ?_⟩
            have t121 : a.tmps[121]?.getD undef = .pointer (some ⟨w.heap.size, 2, none⟩) := hk 3 121 (by kernel_rfl) rfl
            try with_reducible replace hw := New.undrawN hw
            try with_reducible replace hw := New.undraw hw
            obtain ⟨c, f'⟩ := hw.rules
            go_simp
            exact New.refl _
          · intro a w9 hw ho hk
            refine .inl ⟨by rfl, ?_⟩
            have t122 : a.tmps[122]?.getD undef = .slice da p.vars.length dc := hk 4 122 (by kernel_rfl) rfl
            go_simp
            exact New.refl _
          · intro a w9 hw ho hk
            refine .inl ⟨by rfl, ?_⟩
            have t2 := ho 1 rfl
            dsimp at t2
            try with_reducible replace hw := New.undrawN hw
            try with_reducible replace hw := New.undraw hw
            obtain ⟨c, f'⟩ := hw.rules
            go_simp
            exact New.refl _
          · intro a w9 hw ho hk
            refine .inl ⟨by rfl, ?_⟩
            have t124 : a.tmps[124]?.getD undef = .pointer (some ⟨w.heap.size, 3, none⟩) := hk 6 124 (by kernel_rfl) rfl
            try with_reducible replace hw := New.undrawN hw
            try with_reducible replace hw := New.undraw hw
            obtain ⟨c, f'⟩ := hw.rules
            go_simp
            exact New.refl _
          · intro a w9 hw ho hk
            refine .inl ⟨by rfl, ?_⟩
            have t125 : a.tmps[125]?.getD undef = .slice oa p.outputs.length oc := hk 7 125 (by kernel_rfl) rfl
            go_simp
            exact New.refl _
          · intro a w9 hw ho hk
            refine .inl ⟨by rfl, ?_⟩
            have t2 := ho 1 rfl
            dsimp at t2
            try with_reducible replace hw := New.undrawN hw
            try with_reducible replace hw := New.undraw hw
            obtain ⟨c, f'⟩ := hw.rules
            go_simp
            exact New.refl _
          · intro a w9 hw ho hk
            refine .inl ⟨by rfl, ?_⟩
            have t127 : a.tmps[127]?.getD undef = .agg #[.string p.name, .slice ia p.inputs.length ic, .slice da p.vars.length dc, .slice oa p.outputs.length oc, .string p.guard, .slice la ps.length cap] := hk 9 127 (by kernel_rfl) rfl
            go_simp
            refine (HBK.out _ (hb0.trans hw)).mono ?_; rintro e w2 ⟨r, rfl, hb, o1⟩
            obtain ⟨qa, qc, rfl⟩ := own_slice o1; have hws := hw.size; first | exact ⟨hb, _, rfl, _, _, rfl, own_base o1 (by omega)⟩ | exact ⟨hb, _, _, by simp, own_base o1 (by omega)⟩
          · intro a w9 hw ho hk
            refine .inl ⟨by rfl, ?_⟩
            have t2 := ho 3 rfl
            dsimp at t2
            try with_reducible replace hw := New.undrawN hw
            try with_reducible replace hw := New.undraw hw
            obtain ⟨c, f'⟩ := hw.rules
            go_simp
            exact New.refl _
        intro w8 b8
        rintro _ rfl _ rfl _ rfl _ rfl _ rfl _ rfl _ rfl _ rfl _ rfl _ rfl _ ⟨q128, k128, rfl, r128⟩ _ rfl
        try with_reducible replace b8 := New.undrawN b8
        try with_reducible replace b8 := New.undraw b8
        obtain ⟨c8, f8⟩ := b8.rules
        have z8 := b8.size
        try simp only [World.size_alloc, World.size_drew, World.heap_drewN, World.size_setCell] at z8
        have z8_0 : w.heap.size < w8.heap.size := by omega
        have z8_1 : w.heap.size + 1 < w8.heap.size := by omega
        have own8 := own_new hown b8
        have m0 : w8.cell? ⟨w.heap.size + 1, 0, none⟩ = some (.int .i64 0) := by simp (disch := first | (simp only [World.size_alloc, World.size_drew, World.size_setCell]; omega) | omega | (simp; done) | (simp; omega)) only [c8, cc, cell_alloc_old, cell_alloc_new, World.cell?_drewN, World.cell?_drew]; first | done | rfl | (simp; done)
        have m1 : w8.cell? ⟨w.heap.size + 1, 1, none⟩ = some (.int .i64 0) := by simp (disch := first | (simp only [World.size_alloc, World.size_drew, World.size_setCell]; omega) | omega | (simp; done) | (simp; omega)) only [c8, cc, cell_alloc_old, cell_alloc_new, World.cell?_drewN, World.cell?_drew]; first | done | rfl | (simp; done)
        have m2 : w8.cell? ⟨w.heap.size + 1, 2, none⟩ = some (.int .i64 0) := by simp (disch := first | (simp only [World.size_alloc, World.size_drew, World.size_setCell]; omega) | omega | (simp; done) | (simp; omega)) only [c8, cc, cell_alloc_old, cell_alloc_new, World.cell?_drewN, World.cell?_drew]; first | done | rfl | (simp; done)
        have m3 : w8.cell? ⟨w.heap.size + 1, 3, none⟩ = some (.slice none 0 0) := by simp (disch := first | (simp only [World.size_alloc, World.size_drew, World.size_setCell]; omega) | omega | (simp; done) | (simp; omega)) only [c8, cc, cell_alloc_old, cell_alloc_new, World.cell?_drewN, World.cell?_drew]; first | done | rfl | (simp; done)
        have m4 : w8.cell? ⟨w.heap.size + 1, 4, none⟩ = some (.slice none 0 0) := by simp (disch := first | (simp only [World.size_alloc, World.size_drew, World.size_setCell]; omega) | omega | (simp; done) | (simp; omega)) only [c8, cc, cell_alloc_old, cell_alloc_new, World.cell?_drewN, World.cell?_drew]; first | done | rfl | (simp; done)
        clear k0 k1 k2 k3 k4 k5
        simp only [RG.EndAll, List.nil_append, List.cons_append, List.length_cons, List.length_nil, Nat.zero_add, Nat.reduceAdd, List.take_succ_cons, List.take_zero, List.drop_succ_cons, List.drop_zero, RG.putAll, Act.put, List.setIfInBounds_toArray, List.set_cons_succ, List.set_cons_zero]
        go_wp2_with fail
        refine bodyPost_ret (v := valC ⟨p.inputs.length, p.vars.length, p.outputs.length, blkP p, acc0⟩ (.slice q128 (blkP p).length k128) (.slice sa acc0.length sc)) (by simp [results, Tryz.results62, go_sem, m0, m1, m2, m3, m4, f8, z8_0, z8_1]) rfl ?_
        rw [HC.out]
        refine ⟨_, _, rfl, (by repeat (first | with_reducible exact New.refl _ | with_reducible assumption | with_reducible refine New.drew ?_ | with_reducible refine New.drewN ?_ _ | with_reducible refine New.alloc ?_ _ | with_reducible refine New.setCell ?_ (by first | (simp; done) | (simp; omega) | omega) _ | with_reducible refine New.trans ?_ (by with_reducible assumption))), ?_, ?_⟩
        · refine own_base (base := wr1.heap.size) ?_ (by omega)
          repeat (apply ownsRow_setCell_below)
          exact r128
          all_goals (dsimp; omega)
        · refine own_base (base := w.heap.size + 2) ?_ (by omega)
          repeat (apply ownsRow_setCell_below)
          first | exact own8 | (rw [List.length_append, flatI_app2]; exact own8)
          all_goals (dsimp; omega)
      · have HC := Lib.hid (show compC p = ⟨p.inputs.length, p.vars.length, p.outputs.length, blkP p, acc0 ++ [nameI p p.guard 10 11]⟩ by rw [compC, compS, HLN.out, if_neg (by rw [he]; simp)])
        generalize nameI p p.guard 10 11 = NI at HC HNG
        obtain ⟨no, na⟩ := NI
        dsimp only at HNG
        go_wp2_with fail
        refine (HNG.out _ hb0).mono ?_; rintro e w4 ⟨rfl, b4⟩
        try with_reducible replace b4 := New.undrawN b4
        try with_reducible replace b4 := New.undraw b4
        obtain ⟨c4, f4⟩ := b4.rules
        have z4 := b4.size
        try simp only [World.size_alloc, World.size_drew, World.heap_drewN, World.size_setCell] at z4
        have z4_0 : w.heap.size < w4.heap.size := by omega
        have z4_1 : w.heap.size + 1 < w4.heap.size := by omega
        go_wp2_with (first | (at_builtin; refine wpList_append_own _ rfl _ _ 25 rfl (w.heap.size + 2) 70 i0 (Value.agg #[.int .i64 0, .int .i64 0]) 2 16 Tryz.underlying25 hi hz0 hz1 hz2 rfl (by decide) _ _ _ rfl ((own_new hown b4).alloc _) ⟨w4.heap.size, 0, none⟩ 1 1 [.int .i64 no, .int .i64 na] rfl rfl (fun j u hj => alloc_row (by first | rfl | simp) j u hj) (by intro u hu; simp at hu; rcases hu with rfl | rfl <;> rfl) (by unfold maxLen; omega) (by omega) (by first | (simp; done) | (simp; omega) | omega) ?_; intro va wa howna hgra _))
        have ba := New.grown ((hb.trans b4).alloc _) hgra (fun q hq => by have := (own_block_lt hown q hq).1; simpa using this)
        have ba0 : New w wa := (((New.refl w).alloc _).alloc _).trans ba
        obtain ⟨ra, rc, rfl⟩ := own_slice howna
        clear k0 k1 k2 k3 k4 k5 c4 f4
        obtain ⟨ca, fa⟩ := ba.rules
        have hza := ba.size
        simp only [World.size_alloc] at hza
        have hww1 : w.heap.size < wa.heap.size := by omega
        have hww2 : w.heap.size + 1 < wa.heap.size := by omega
        have k1 : wa.cell? ⟨w.heap.size, 1, none⟩ = some (.slice ia p.inputs.length ic) := by simp (disch := first | (simp only [World.size_alloc, World.size_drew, World.size_setCell]; omega) | omega | (simp; done) | (simp; omega)) only [ca, cell_alloc_old, cell_alloc_new, World.cell?_drewN, World.cell?_drew]; first | done | rfl | (simp; done)
        have k2 : wa.cell? ⟨w.heap.size, 2, none⟩ = some (.slice da p.vars.length dc) := by simp (disch := first | (simp only [World.size_alloc, World.size_drew, World.size_setCell]; omega) | omega | (simp; done) | (simp; omega)) only [ca, cell_alloc_old, cell_alloc_new, World.cell?_drewN, World.cell?_drew]; first | done | rfl | (simp; done)
        have k3 : wa.cell? ⟨w.heap.size, 3, none⟩ = some (.slice oa p.outputs.length oc) := by simp (disch := first | (simp only [World.size_alloc, World.size_drew, World.size_setCell]; omega) | omega | (simp; done) | (simp; omega)) only [ca, cell_alloc_old, cell_alloc_new, World.cell?_drewN, World.cell?_drew]; first | done | rfl | (simp; done)
        have k4 : wa.cell? ⟨w.heap.size, 4, none⟩ = some (.string p.guard) := by simp (disch := first | (simp only [World.size_alloc, World.size_drew, World.size_setCell]; omega) | omega | (simp; done) | (simp; omega)) only [ca, cell_alloc_old, cell_alloc_new, World.cell?_drewN, World.cell?_drew]; first | done | rfl | (simp; done)
        have k0 : wa.cell? ⟨w.heap.size, 0, none⟩ = some (.string p.name) := by simp (disch := first | (simp only [World.size_alloc, World.size_drew, World.size_setCell]; omega) | omega | (simp; done) | (simp; omega)) only [ca, cell_alloc_old, cell_alloc_new, World.cell?_drewN, World.cell?_drew]; first | done | rfl | (simp; done)
        have k5 : wa.cell? ⟨w.heap.size, 5, none⟩ = some (.slice la ps.length cap) := by simp (disch := first | (simp only [World.size_alloc, World.size_drew, World.size_setCell]; omega) | omega | (simp; done) | (simp; omega)) only [ca, cell_alloc_old, cell_alloc_new, World.cell?_drewN, World.cell?_drew]; first | done | rfl | (simp; done)
        go_wp2_with fail
        refine RG.wp_facts [fun X _ => X = .pointer (some ⟨w.heap.size, 1, none⟩), fun X _ => X = .slice ia p.inputs.length ic, fun X _ => X = .int .i64 p.inputs.length, fun X _ => X = .pointer (some ⟨w.heap.size, 2, none⟩), fun X _ => X = .slice da p.vars.length dc, fun X _ => X = .int .i64 p.vars.length, fun X _ => X = .pointer (some ⟨w.heap.size, 3, none⟩), fun X _ => X = .slice oa p.outputs.length oc, fun X _ => X = .int .i64 p.outputs.length, fun X _ => X = .agg #[.string p.name, .slice ia p.inputs.length ic, .slice da p.vars.length dc, .slice oa p.outputs.length oc, .string p.guard, .slice la ps.length cap], fun X W' => ∃ q c, X = .slice q (blkP p).length c ∧ W'.ownsRow wa.heap.size 66 3 (.slice q (blkP p).length c) (blkP p).length ((blkP p).flatMap encTerm), fun X _ => X = .slice ra (acc0.length + 1) rc] (by kernel_rfl) (by kernel_rfl) ⟨RG.stable_eq _, RG.stable_eq _, RG.stable_eq _, RG.stable_eq _, RG.stable_eq _, RG.stable_eq _, RG.stable_eq _, RG.stable_eq _, RG.stable_eq _, RG.stable_eq _, fun X w0 w1 hn ⟨q128, k128, t128, r128⟩ => ⟨q128, k128, t128, own_new r128 hn⟩, RG.stable_eq _, trivial⟩ ?_ ?_
        · refine ⟨?_, ?_, ?_, ?_, ?_, ?_, ?_, ?_, ?_, ?_, ?_, ?_, trivial⟩
          · intro a w9 hw ho hk
            refine .inl ⟨by rfl, ?_⟩
            have t2 := ho 1 rfl
            dsimp at t2
            try with_reducible replace hw := New.undrawN hw
            try with_reducible replace hw := New.undraw hw
            obtain ⟨c, f'⟩ := hw.rules
            go_simp
            exact New.refl _
          · intro a w9 hw ho hk
            refine .inl ⟨by rfl, ?_⟩
            have t118 : a.tmps[118]?.getD undef = .pointer (some ⟨w.heap.size, 1, none⟩) := hk 0 118 (by kernel_rfl) rfl
            try with_reducible replace hw := New.undrawN hw
            try with_reducible replace hw := New.undraw hw
            obtain ⟨c, f'⟩ := hw.rules
            go_simp
            exact New.refl _
          · intro a w9 hw ho hk
            refine .inl ⟨by rfl, ?_⟩
            have t119 : a.tmps[119]?.getD undef = .slice ia p.inputs.length ic := hk 1 119 (by kernel_rfl) rfl
            go_simp
            exact New.refl _
          · intro a w9 hw ho hk
            refine .inl ⟨by rfl, ?_⟩
            have t2 := ho 1 rfl
            dsimp at t2
            try with_reducible replace hw := New.undrawN hw
            try with_reducible replace hw := New.undraw hw
            obtain ⟨c, f'⟩ := hw.rules
            go_simp
            exact New.refl _
          · intro a w9 hw ho hk
            refine .inl ⟨by rfl, ?_⟩
            have t121 : a.tmps[121]?.getD undef = .pointer (some ⟨w.heap.size, 2, none⟩) := hk 3 121 (by kernel_rfl) rfl
            try with_reducible replace hw := New.undrawN hw
            try with_reducible replace hw := New.undraw hw
            obtain ⟨c, f'⟩ := hw.rules
            go_simp
            exact New.refl _
          · intro a w9 hw ho hk
            refine .inl ⟨by rfl, ?_⟩
            have t122 : a.tmps[122]?.getD undef = .slice da p.vars.length dc := hk 4 122 (by kernel_rfl) rfl
            go_simp
            exact New.refl _
          · intro a w9 hw ho hk
            refine .inl ⟨by rfl, ?_⟩
            have t2 := ho 1 rfl
            dsimp at t2
            try with_reducible replace hw := New.undrawN hw
            try with_reducible replace hw := New.undraw hw
            obtain ⟨c, f'⟩ := hw.rules
            go_simp
            exact New.refl _
          · intro a w9 hw ho hk
            refine .inl ⟨by rfl, ?_⟩
            have t124 : a.tmps[124]?.getD undef = .pointer (some ⟨w.heap.size, 3, none⟩) := hk 6 124 (by kernel_rfl) rfl
            try with_reducible replace hw := New.undrawN hw
            try with_reducible replace hw := New.undraw hw
            obtain ⟨c, f'⟩ := hw.rules
            go_simp
            exact New.refl _
          · intro a w9 hw ho hk
            refine .inl ⟨by rfl, ?_⟩
            have t125 : a.tmps[125]?.getD undef = .slice oa p.outputs.length oc := hk 7 125 (by kernel_rfl) rfl
            go_simp
            exact New.refl _
          · intro a w9 hw ho hk
            refine .inl ⟨by rfl, ?_⟩
            have t2 := ho 1 rfl
            dsimp at t2
            try with_reducible replace hw := New.undrawN hw
            try with_reducible replace hw := New.undraw hw
            obtain ⟨c, f'⟩ := hw.rules
            go_simp
            exact New.refl _
          · intro a w9 hw ho hk
            refine .inl ⟨by rfl, ?_⟩
            have t127 : a.tmps[127]?.getD undef = .agg #[.string p.name, .slice ia p.inputs.length ic, .slice da p.vars.length dc, .slice oa p.outputs.length oc, .string p.guard, .slice la ps.length cap] := hk 9 127 (by kernel_rfl) rfl
            go_simp
            refine (HBK.out _ (ba0.trans hw)).mono ?_; rintro e w2 ⟨r, rfl, hb, o1⟩
            obtain ⟨qa, qc, rfl⟩ := own_slice o1; have hws := hw.size; first | exact ⟨hb, _, rfl, _, _, rfl, own_base o1 (by omega)⟩ | exact ⟨hb, _, _, by simp, own_base o1 (by omega)⟩
          · intro a w9 hw ho hk
            refine .inl ⟨by rfl, ?_⟩
            have t2 := ho 3 rfl
            dsimp at t2
            try with_reducible replace hw := New.undrawN hw
            try with_reducible replace hw := New.undraw hw
            obtain ⟨c, f'⟩ := hw.rules
            go_simp
            exact New.refl _
        intro w8 b8
        rintro _ rfl _ rfl _ rfl _ rfl _ rfl _ rfl _ rfl _ rfl _ rfl _ rfl _ ⟨q128, k128, rfl, r128⟩ _ rfl
        try with_reducible replace b8 := New.undrawN b8
        try with_reducible replace b8 := New.undraw b8
        obtain ⟨c8, f8⟩ := b8.rules
        have z8 := b8.size
        try simp only [World.size_alloc, World.size_drew, World.heap_drewN, World.size_setCell] at z8
        have z8_0 : w.heap.size < w8.heap.size := by omega
        have z8_1 : w.heap.size + 1 < w8.heap.size := by omega
        have own8 := own_new howna b8
        have m0 : w8.cell? ⟨w.heap.size + 1, 0, none⟩ = some (.int .i64 0) := by simp (disch := first | (simp only [World.size_alloc, World.size_drew, World.size_setCell]; omega) | omega | (simp; done) | (simp; omega)) only [c8, ca, cell_alloc_old, cell_alloc_new, World.cell?_drewN, World.cell?_drew]; first | done | rfl | (simp; done)
        have m1 : w8.cell? ⟨w.heap.size + 1, 1, none⟩ = some (.int .i64 0) := by simp (disch := first | (simp only [World.size_alloc, World.size_drew, World.size_setCell]; omega) | omega | (simp; done) | (simp; omega)) only [c8, ca, cell_alloc_old, cell_alloc_new, World.cell?_drewN, World.cell?_drew]; first | done | rfl | (simp; done)
        have m2 : w8.cell? ⟨w.heap.size + 1, 2, none⟩ = some (.int .i64 0) := by simp (disch := first | (simp only [World.size_alloc, World.size_drew, World.size_setCell]; omega) | omega | (simp; done) | (simp; omega)) only [c8, ca, cell_alloc_old, cell_alloc_new, World.cell?_drewN, World.cell?_drew]; first | done | rfl | (simp; done)
        have m3 : w8.cell? ⟨w.heap.size + 1, 3, none⟩ = some (.slice none 0 0) := by simp (disch := first | (simp only [World.size_alloc, World.size_drew, World.size_setCell]; omega) | omega | (simp; done) | (simp; omega)) only [c8, ca, cell_alloc_old, cell_alloc_new, World.cell?_drewN, World.cell?_drew]; first | done | rfl | (simp; done)
        have m4 : w8.cell? ⟨w.heap.size + 1, 4, none⟩ = some (.slice none 0 0) := by simp (disch := first | (simp only [World.size_alloc, World.size_drew, World.size_setCell]; omega) | omega | (simp; done) | (simp; omega)) only [c8, ca, cell_alloc_old, cell_alloc_new, World.cell?_drewN, World.cell?_drew]; first | done | rfl | (simp; done)
        clear k0 k1 k2 k3 k4 k5
        simp only [RG.EndAll, List.nil_append, List.cons_append, List.length_cons, List.length_nil, Nat.zero_add, Nat.reduceAdd, List.take_succ_cons, List.take_zero, List.drop_succ_cons, List.drop_zero, RG.putAll, Act.put, List.setIfInBounds_toArray, List.set_cons_succ, List.set_cons_zero]
        go_wp2_with fail
        refine bodyPost_ret (v := valC ⟨p.inputs.length, p.vars.length, p.outputs.length, blkP p, acc0 ++ [(⟨no, na⟩ : EInstruction)]⟩ (.slice q128 (blkP p).length k128) (.slice ra (acc0.length + 1) rc)) (by simp [results, Tryz.results62, go_sem, m0, m1, m2, m3, m4, f8, z8_0, z8_1]) rfl ?_
        rw [HC.out]
        refine ⟨_, _, rfl, (by repeat (first | with_reducible exact New.refl _ | with_reducible assumption | with_reducible refine New.drew ?_ | with_reducible refine New.drewN ?_ _ | with_reducible refine New.alloc ?_ _ | with_reducible refine New.setCell ?_ (by first | (simp; done) | (simp; omega) | omega) _ | with_reducible refine New.trans ?_ (by with_reducible assumption))), ?_, ?_⟩
        · refine own_base (base := wa.heap.size) ?_ (by omega)
          repeat (apply ownsRow_setCell_below)
          exact r128
          all_goals (dsimp; omega)
        · refine own_base (base := w.heap.size + 2) ?_ (by omega)
          repeat (apply ownsRow_setCell_below)
          first | exact own8 | (rw [List.length_append, flatI_app2]; exact own8)
          all_goals (dsimp; omega)
end Go.Proofs.YteielmihlfakgaaGreatDoor
