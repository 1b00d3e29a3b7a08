/- Contracts: the reference's split. -/
import Derived.Test.YteielmihlfakgaaGreatDoorProg
import Derived.Test.YteielmihlfakgaaGreatDoorSpl
import Derived.Test.YteielmihlfakgaaGreatDoorVA
import Derived.Test.YteielmihlfakgaaGreatDoorNumW
namespace Go.Proofs.YteielmihlfakgaaGreatDoor
open Go Go.Proofs Go.RowKit
set_option linter.unusedVariables false
set_option linter.unusedSimpArgs false
set_option maxRecDepth 100000
/-- The pieces that are left, cur being begun. -/
def splF (c : UInt8) (cur rest : List UInt8) : List (List UInt8) := (cur ++ (spl c rest).headD []) :: (spl c rest).tail
theorem splF_start (c : UInt8) (l : List UInt8) : spl c l = splF c [] l := by
  rw [splF, List.nil_append]; exact spl_cons c l
theorem splF_hit (c : UInt8) (cur rest : List UInt8) : splF c cur (c :: rest) = cur :: splF c [] rest := by
  rw [splF, spl, if_pos rfl]
  simp only [List.headD_cons, List.append_nil, List.tail_cons]
  rw [← splF_start]
theorem splF_miss {c b : UInt8} (h : b ≠ c) (cur rest : List UInt8) : splF c cur (b :: rest) = splF c (cur ++ [b]) rest := by
  rw [splF, spl, if_neg h, splF]; simp
theorem splF_end (c : UInt8) (cur : List UInt8) : splF c cur [] = [cur] := by simp [splF, spl]
/-- Where the loop stands at index k, the piece having begun at st. -/
def SplAt (c : UInt8) (l : List UInt8) (k st : Nat) (done : List (List UInt8)) : Prop :=
  (k ≤ l.length ∧ st ≤ k ∧ spl c l = done ++ splF c ((l.drop st).take (k - st)) (l.drop k)) ∨ (k = l.length + 1 ∧ spl c l = done)
theorem splAt_start (c : UInt8) (l : List UInt8) : SplAt c l 0 0 [] := .inl ⟨Nat.zero_le _, Nat.le_refl _, by rw [splF_start]; simp⟩
theorem splAt_end {c : UInt8} {l : List UInt8} {st : Nat} {done : List (List UInt8)} (h : SplAt c l l.length st done) : st ≤ l.length ∧ SplAt c l (l.length + 1) (l.length + 1) (done ++ [(l.drop st).take (l.length - st)]) := by
  rcases h with ⟨_, h1, h2⟩ | ⟨h1, _⟩
  · refine ⟨h1, .inr ⟨rfl, ?_⟩⟩
    rw [h2, List.drop_length, splF_end]
  · omega
theorem splAt_hit {c : UInt8} {l : List UInt8} {k st : Nat} {done : List (List UInt8)} (hk : k < l.length) (hc : l[k] = c) (h : SplAt c l k st done) : st ≤ k ∧ SplAt c l (k + 1) (k + 1) (done ++ [(l.drop st).take (k - st)]) := by
  rcases h with ⟨_, h1, h2⟩ | ⟨h1, _⟩
  · refine ⟨h1, .inl ⟨hk, Nat.le_refl _, ?_⟩⟩
    rw [h2, List.drop_eq_getElem_cons hk, hc, splF_hit]; simp
  · omega
theorem splAt_miss {c : UInt8} {l : List UInt8} {k st : Nat} {done : List (List UInt8)} (hk : k < l.length) (hc : l[k] ≠ c) (h : SplAt c l k st done) : SplAt c l (k + 1) st done := by
  rcases h with ⟨_, h1, h2⟩ | ⟨h1, _⟩
  · refine .inl ⟨hk, by omega, ?_⟩
    rw [h2, List.drop_eq_getElem_cons hk, splF_miss hc]
    congr 2
    rw [show k + 1 - st = (k - st) + 1 by omega, List.take_succ_eq_append_getElem (by rw [List.length_drop]; omega), List.getElem_drop]
    simp [show st + (k - st) = k by omega]
  · omega
theorem infoStrS : (Tryz.prog.info? 9).map (fun i => (i.zero, i.size, i.bytes)) = some (some (.string ⟨#[]⟩), 1, 16) := by kernel_rfl
theorem ext_piece (s : ByteArray) (st k : Nat) : s.extract st k = strL ((s.data.toList.drop st).take (k - st)) := by
  apply bytesL_eq
  rw [strL_list, ByteArray.data_extract]
  simp
theorem spl_cells (L : List (List UInt8)) (x : List UInt8) : (L ++ [x]).map (fun y => Value.string (strL y)) = L.map (fun y => Value.string (strL y)) ++ [.string (strL x)] := by simp
set_option maxHeartbeats 1000000 in
theorem sSplit_any (s : ByteArray) (c : UInt8) (w : World) (hs : s.size ≤ 1048576) :
    Calls Tryz.prog 34 #[.string s, .int .u8 c.toNat] w fun e w' => ∃ r, e = .returned r ∧ New w w' ∧ w'.ownsRow w.heap.size 9 1 r (spl c s.data.toList).length ((spl c s.data.toList).map (fun y => Value.string (strL y))) := by
  obtain ⟨i0, hi, hz0, hz1, hz2⟩ := info_parts infoStrS
  have hlen : s.data.toList.length = s.size := by rw [Array.length_toList]; rfl
  have HLEN := Lib.hid hlen
  have hS0 := Lib.hid (splAt_start c s.data.toList)
  have own0 : (w.alloc (.cells #[] 9)).ownsRow w.heap.size 9 1 (.slice (some ⟨w.heap.size, 0, none⟩) 0 0) 0 [] := own_empty (Nat.le_refl _)
  clear hlen
  go_enter Tryz.func34, Tryz.ntmps34
  go_wp2_with fail
  go_loopw [5, 6, 7] (fun o st i wr => ∃ (k t : Nat) (done : List (List UInt8)), k ≤ s.size + 1 ∧ t ≤ k ∧ i = .int .i64 k ∧ st = .int .i64 t ∧ Hid (SplAt c s.data.toList k t done) ∧ done.length ≤ k ∧ New w wr ∧ wr.ownsRow w.heap.size 9 1 o done.length (done.map (fun y => Value.string (strL y)))) (fun _ _ i _ => s.size + 1 - (intOf i).toNat)
  case atStart => exact ⟨0, 0, [], by omega, by omega, rfl, rfl, hS0, by simp, (by repeat (first | with_reducible exact New.refl _ | with_reducible assumption | with_reducible refine New.drew ?_ | with_reducible refine New.drewN ?_ _ | with_reducible refine New.alloc ?_ _ | with_reducible refine New.setCell ?_ (by first | (simp; done) | (simp; omega) | omega) _ | with_reducible refine New.trans ?_ (by with_reducible assumption))), own0⟩
  case round =>
    obtain ⟨k, t, done, hk, htk, rfl, rfl, hA, hdl, hb, hown⟩ := hrel
    clear own0 hS0
    have hbz := hb.size
    rcases Nat.lt_trichotomy k s.size with hlt | heq | hgt
    · have HC := Lib.hid (show s.data.toList[k]'(by rw [HLEN.out]; exact hlt) = s[k] by simp [ByteArray.getElem_eq_getElem_data])
      by_cases hc : s[k] = c
      · have HH := splAt_hit (by rw [HLEN.out]; exact hlt) (HC.out.trans hc) hA.out
        obtain ⟨_, HH⟩ := HH
        replace HH := Lib.hid HH
        have HXP := Lib.hid (ext_piece s t k)
        have heq : ((s[k].toNat : Int) == (c.toNat : Int)) = true := by simp [hc]
        go_wp2_with (first | ((at_builtin; refine wpList_append_own _ rfl _ _ 39 rfl (w.heap.size) 9 i0 (.string ⟨#[]⟩) 1 16 Tryz.underlying39 hi hz0 hz1 hz2 rfl (by decide) _ _ _ rfl (hown.alloc _) ⟨wr.heap.size, 0, none⟩ 1 1 [.string (s.extract t k)] rfl rfl (by intro j u hj; match j, hj with | 0, hj => simp at hj; subst hj; first | (simp [Addr.add]; done) | exact alloc_one rfl) (by intro u hu; simp at hu; subst hu; rfl) (by unfold maxLen; omega) (by omega) (by first | (simp; done) | (simp; omega) | omega) ?_; intro va wa howna hgra _)))
        have ba := New.grown (hb.alloc _) hgra (fun q hq => by have := (own_block_lt hown q hq).1; simpa using this)
        go_roundw
        case rel => exact ⟨k + 1, k + 1, done ++ [(s.data.toList.drop t).take (k - t)], by omega, by omega, by go_num, by go_num, HH, by simp; omega, ba, by rw [List.length_append, List.length_singleton, spl_cells, ← HXP.out]; exact howna⟩
        case measure => simp [intOf]; omega
      · have HH := Lib.hid (splAt_miss (by rw [HLEN.out]; exact hlt) (fun e => hc (HC.out.symm.trans e)) hA.out)
        have hne : ((s[k].toNat : Int) == (c.toNat : Int)) = false := by
          simp only [beq_eq_false_iff_ne, ne_eq]; intro e; exact hc (UInt8.toNat_inj.1 (Int.ofNat_inj.1 e))
        go_wp2_with fail
        go_roundw
        case rel => exact ⟨k + 1, t, done, by omega, by omega, by go_num, rfl, HH, by omega, hb, hown⟩
        case measure => simp [intOf]; omega
    · subst heq
      have hA2 := hA.out
      rw [← HLEN.out] at hA2
      have HH := splAt_end hA2
      rw [HLEN.out] at HH
      obtain ⟨_, HH⟩ := HH
      replace HH := Lib.hid HH
      have HXP := Lib.hid (ext_piece s t s.size)
      go_wp2_with (first | ((at_builtin; refine wpList_append_own _ rfl _ _ 39 rfl (w.heap.size) 9 i0 (.string ⟨#[]⟩) 1 16 Tryz.underlying39 hi hz0 hz1 hz2 rfl (by decide) _ _ _ rfl (hown.alloc _) ⟨wr.heap.size, 0, none⟩ 1 1 [.string (s.extract t s.size)] rfl rfl (by intro j u hj; match j, hj with | 0, hj => simp at hj; subst hj; first | (simp [Addr.add]; done) | exact alloc_one rfl) (by intro u hu; simp at hu; subst hu; rfl) (by unfold maxLen; omega) (by omega) (by first | (simp; done) | (simp; omega) | omega) ?_; intro va wa howna hgra _)))
      have ba := New.grown (hb.alloc _) hgra (fun q hq => by have := (own_block_lt hown q hq).1; simpa using this)
      go_roundw
      case rel => exact ⟨s.size + 1, s.size + 1, done ++ [(s.data.toList.drop t).take (s.size - t)], by omega, by omega, by go_num, by go_num, HH, by simp; omega, ba, by rw [List.length_append, List.length_singleton, spl_cells, ← HXP.out]; exact howna⟩
      case measure => simp [intOf]
    · have hk2 : k = s.size + 1 := by omega
      subst hk2
      have hd : spl c s.data.toList = done := by
        rcases hA.out with ⟨h1, _⟩ | ⟨_, h2⟩
        · rw [HLEN.out] at h1; omega
        · exact h2
      go_wp2_with fail
      go_ret
      exact ⟨_, rfl, hb, by rw [hd]; exact hown⟩
end Go.Proofs.YteielmihlfakgaaGreatDoor
