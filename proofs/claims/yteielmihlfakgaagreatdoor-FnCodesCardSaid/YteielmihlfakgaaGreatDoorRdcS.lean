/- Contracts: the reference's reading of a code. -/
import Derived.Deep.RegionHeld3
import Derived.Deep.RegionLaw
import Derived.Deep.AppendLies
import Derived.Test.YteielmihlfakgaaGreatDoorProg
import Derived.Test.YteielmihlfakgaaGreatDoorRdcW
import Derived.Test.YteielmihlfakgaaGreatDoorSplW
import Derived.Test.YteielmihlfakgaaGreatDoorCtxtS
import Derived.Test.YteielmihlfakgaaGreatDoorVB
import Derived.Test.YteielmihlfakgaaGreatDoorUC
import Derived.Test.YteielmihlfakgaaGreatDoorUG
import Derived.Test.YteielmihlfakgaaGreatDoorVA
namespace Go.Proofs.YteielmihlfakgaaGreatDoor
open Go Go.Proofs Go.RowKit
set_option linter.unusedVariables false
set_option linter.unusedSimpArgs false
set_option maxRecDepth 100000
theorem tail_ext (s : ByteArray) : s.extract 1 s.size = strL s.data.toList.tail := by
  apply bytesL_eq
  rw [strL_list, ByteArray.data_extract]
  have : s.data.size = s.size := rfl
  simp [this, List.take_of_length_le]
theorem sgn_neg {s : ByteArray} (h : 0 < s.size) (hc : s[0] = 45) : sgn s.data.toList = (-(sval s.data.toList.tail).1, (sval s.data.toList.tail).2 && decide (0 < (sval s.data.toList.tail).1)) := by
  rw [sgn, if_pos]
  have hl : 0 < s.data.toList.length := by rw [Array.length_toList]; exact h
  rw [List.head?_eq_getElem?, List.getElem?_eq_getElem hl]
  have : s.data.toList[0] = s[0] := by simp [ByteArray.getElem_eq_getElem_data]
  rw [this, hc]
theorem sgn_pos {s : ByteArray} (h : 0 < s.size) (hc : s[0] ≠ 45) : sgn s.data.toList = sval s.data.toList := by
  rw [sgn, if_neg]
  have hl : 0 < s.data.toList.length := by rw [Array.length_toList]; exact h
  rw [List.head?_eq_getElem?, List.getElem?_eq_getElem hl]
  have : s.data.toList[0] = s[0] := by simp [ByteArray.getElem_eq_getElem_data]
  rw [this]
  intro e; exact hc (Option.some.inj e)
theorem sgn_nil {s : ByteArray} (h : s.size = 0) : sgn s.data.toList = sval s.data.toList := by
  have hl : s.data.toList.length = 0 := by rw [Array.length_toList]; exact h
  rw [List.eq_nil_of_length_eq_zero hl]; rfl
set_option maxHeartbeats 1000000 in
theorem sSigned_any (s : ByteArray) (w : World) (hs : s.size ≤ 1048576) :
    Calls Tryz.prog 75 #[.string s] w fun e w' => e = .returned (.tuple #[.int .i64 (sgn s.data.toList).1, .bool (sgn s.data.toList).2]) ∧ New w w' := by
  have HV := Lib.hid (fun (w0 : World) => sValue_any s w0 hs)
  by_cases h : 0 < s.size
  · by_cases hc : s[0] = 45
    · have hce : ((s[0].toNat : Int) == 45) = true := by rw [hc]; rfl
      have HT := Lib.hid (fun (w0 : World) => (by
        have h1 := sValue_any (strL s.data.toList.tail) w0 (by rw [strL_size, List.length_tail, Array.length_toList]; have : s.data.size = s.size := rfl; omega)
        rw [strL_list, ← tail_ext] at h1; exact h1 : Calls Tryz.prog 76 #[.string (s.extract 1 s.size)] w0 fun e w' => e = .returned (.tuple #[.int .i64 (sval s.data.toList.tail).1, .bool (sval s.data.toList.tail).2]) ∧ New w0 w'))
      rw [sgn_neg h hc]
      have hsv := sval_lt s.data.toList.tail
      have hsv0 := sval_nonneg s.data.toList.tail
      generalize sval s.data.toList.tail = V at HT hsv hsv0
      obtain ⟨n, ok⟩ := V
      dsimp only at HT hsv hsv0 ⊢
      have h1 : 1 ≤ s.size := h
      have hneg := i64_in' (-n) (by omega) (by omega)
      clear hc HV
      cases ok with
      | false =>
        go_enter Tryz.func75, Tryz.ntmps75
        go_wp2_with fail
        refine (HT.out _).mono ?_; rintro e w1 ⟨rfl, b1⟩
        go_wp2_with fail
        go_ret2
        exact ⟨by simp, b1⟩
      | true =>
        rcases Bool.eq_false_or_eq_true (decide (0 < n)) with hd | hd
        all_goals
          go_enter Tryz.func75, Tryz.ntmps75
          go_wp2_with fail
          refine (HT.out _).mono ?_; rintro e w1 ⟨rfl, b1⟩
          go_wp2_with fail
          go_ret2
          exact ⟨by simp [hd], b1⟩
    · have hce : ((s[0].toNat : Int) == 45) = false := by
        rw [beq_eq_false_iff_ne]; intro e; exact hc (UInt8.toNat_inj.1 (Int.ofNat_inj.1 e))
      rw [sgn_pos h hc]
      clear hc
      generalize sval s.data.toList = V at HV
      go_enter Tryz.func75, Tryz.ntmps75
      go_wp2_with fail
      refine (HV.out _).mono ?_; rintro e w1 ⟨rfl, b1⟩
      go_wp2_with fail
      go_ret2
      exact ⟨rfl, b1⟩
  · have h0 : s.size = 0 := by omega
    rw [sgn_nil h0]
    generalize sval s.data.toList = V at HV
    go_enter Tryz.func75, Tryz.ntmps75
    go_wp2_with fail
    refine (HV.out _).mono ?_; rintro e w1 ⟨rfl, b1⟩
    go_wp2_with fail
    go_ret2
    exact ⟨rfl, b1⟩
set_option maxHeartbeats 1000000 in
theorem sNumbers_any (v : Value) (L : List (List UInt8)) (w : World) (hv : RdS w v (L.map strL)) (hl : L.length ≤ 1048577) (hs : ∀ y ∈ L, y.length ≤ 1048576) :
    Calls Tryz.prog 35 #[v] w fun e w' => ∃ r, e = .returned (.tuple #[r, .bool (okN (numsF sgn L [])).2]) ∧ New w w' ∧ w'.ownsRow w.heap.size 2 1 r (okN (numsF sgn L [])).1.length ((okN (numsF sgn L [])).1.map (Value.int .i64)) := by
  obtain ⟨i0, hi, hz0, hz1, hz2⟩ := info_parts infoI64q
  obtain ⟨a, cap, rfl, hm, HC⟩ := hv.open
  clear hv
  simp only [List.length_map] at hm HC
  have HS := Lib.hid hs; clear hs
  go_enter Tryz.func35, Tryz.ntmps35
  go_wp2_with fail
  simp only [List.length_map]
  go_loopw [4, 5] (fun o i wr => ∃ (k : Nat) (acc : List Int), k ≤ L.length ∧ i = .int .i64 k ∧ Hid (numsF sgn L [] = numsF sgn (L.drop k) acc) ∧ acc.length ≤ k ∧ New w wr ∧ wr.ownsRow w.heap.size 2 1 o acc.length (acc.map (Value.int .i64))) (fun _ i _ => L.length - (intOf i).toNat)
  case atStart => exact ⟨0, [], Nat.zero_le _, rfl, Lib.hid rfl, Nat.le_refl _, (by repeat (first | with_reducible exact New.refl _ | with_reducible assumption | with_reducible refine New.drew ?_ | with_reducible refine New.drewN ?_ _ | with_reducible refine New.alloc ?_ _ | with_reducible refine New.setCell ?_ (by first | (simp; done) | (simp; omega) | omega) _ | with_reducible refine New.trans ?_ (by with_reducible assumption))), own_empty (Nat.le_refl _)⟩
  case round =>
    obtain ⟨k, acc, hk, rfl, hst, hal, hb, hown⟩ := hrel
    obtain ⟨cc, f'⟩ := hb.rules
    have hbz := hb.size
    by_cases hlt : k < L.length
    · obtain ⟨b, off, rfl, hbl, hx⟩ := HC.out w (New.refl w) k (by simpa using hlt)
      have hbw : b < wr.heap.size := by omega
      have hyl := HS.out L[k] (List.getElem_mem hlt)
      have HST := Lib.hid (numsF_next (f := sgn) hlt acc)
      rw [← hst.out] at HST
      simp only [List.getElem_map] at hx
      have HR := Lib.hid (fun (w0 : World) => sSigned_any (strL L[k]) w0 (by rw [strL_size]; exact hyl))
      rw [strL_list] at HR
      generalize strL L[k] = Y at hx HR
      generalize sgn L[k] = N at HST HR
      obtain ⟨n, ok⟩ := N
      dsimp only at HST HR
      cases ok with
      | true =>
        go_wp2_with fail
        refine (HR.out _).mono ?_
        rintro e w3 ⟨rfl, b3⟩
        obtain ⟨c3, f3⟩ := b3.rules
        have z3 := b3.size
        go_wp2_with (first | (at_builtin; refine wpList_append_own _ rfl _ _ 57 rfl (w.heap.size) 2 i0 (.int .i64 0) 1 8 Tryz.underlying57 hi hz0 hz1 hz2 rfl (by decide) _ _ _ rfl ((own_new hown b3).alloc _) ⟨w3.heap.size, 0, none⟩ 1 1 [.int .i64 (n)] rfl rfl (by intro j u hj; match j, hj with | 0, hj => simp at hj; subst hj; first | (simp [Addr.add]; done) | exact alloc_one rfl) (by intro u hu; simp at hu; subst hu; rfl) (by unfold maxLen; omega) (by omega) (by first | (simp; done) | (simp; omega) | omega) ?_; intro va wa howna hgra _))
        have ba := New.grown ((hb.trans b3).alloc _) hgra (fun q hq => by have := (own_block_lt hown q hq).1; simpa using this)
        go_roundw
        case rel => exact ⟨k + 1, acc ++ [n], by omega, by go_num, Lib.hid (by rw [HST.out]; simp), by rw [List.length_append, List.length_singleton]; omega, ba, by rw [List.length_append, List.map_append]; exact howna⟩
        case measure => simp [intOf]; omega
      | false =>
        go_wp2_with fail
        refine (HR.out _).mono ?_
        rintro e w3 ⟨rfl, b3⟩
        go_wp2_with fail
        go_ret2
        rw [show numsF sgn L [] = none by rw [HST.out]; simp]
        exact ⟨_, rfl, (by repeat (first | with_reducible exact New.refl _ | with_reducible assumption | with_reducible refine New.drew ?_ | with_reducible refine New.drewN ?_ _ | with_reducible refine New.alloc ?_ _ | with_reducible refine New.setCell ?_ (by first | (simp; done) | (simp; omega) | omega) _ | with_reducible refine New.trans ?_ (by with_reducible assumption))), World.ownsRow_nil _ _ _ _⟩
    · obtain rfl : k = L.length := by omega
      have HA := Lib.hid (show numsF sgn L [] = some acc by rw [hst.out, List.drop_length]; rfl)
      go_wp2_with fail
      go_ret2
      rw [HA.out]
      exact ⟨_, rfl, hb, hown⟩
theorem own_empty_at {w : World} {base b : Nat} {e : TypeId} {sz : Nat} (h : base ≤ w.heap.size) (hb : b = w.heap.size) : (w.alloc (.cells #[] e)).ownsRow base e sz (.slice (some ⟨b, 0, none⟩) 0 0) 0 [] := by subst hb; exact own_empty h
def lnR (o : Option StR) : StR := o.getD (false, [], [])
theorem rdLS_at {L : List (List UInt8)} {k : Nat} (h : k < L.length) (s : StR) : rdLS (L.drop k) s = (stR L[k] s).bind (rdLS (L.drop (k + 1))) := by
  rw [List.drop_eq_getElem_cons h, rdLS]
theorem stR_dash {l : List UInt8} {B : List ETerm} {S : List EInstruction} (h : l = [45]) : stR l (false, B, S) = some (true, B, S) := by rw [stR, if_pos ⟨h, rfl⟩]
theorem stR_none {l : List UInt8} {b : Bool} {B : List ETerm} {S : List EInstruction} (h : ¬ (l = [45] ∧ b = false)) (h2 : (spl 32 l).length ≠ 2 ∨ (sval ((spl 32 l).getD 1 [])).2 = false) : stR l (b, B, S) = none := by
  rw [stR, if_neg h, lnS, if_neg (fun hh => by rcases h2 with h2 | h2; exact h2 hh.1; rw [h2] at hh; cases hh.2)]
theorem stR_step0 {l : List UInt8} {S : List EInstruction} (h : ¬ (l = [45] ∧ true = false)) (h1 : (spl 32 l).length = 2) (h2 : (sval ((spl 32 l).getD 1 [])).2 = true) {B : List ETerm} (h3 : (sval ((spl 32 l).getD 0 [])).2 = false) : stR l (true, B, S) = none := by
  rw [stR, if_neg h, lnS, if_pos ⟨h1, h2⟩]
  dsimp only
  rw [if_pos rfl, if_neg (by simp only [h3]; decide)]
theorem stR_step {l : List UInt8} {S : List EInstruction} (h : ¬ (l = [45] ∧ true = false)) (h1 : (spl 32 l).length = 2) (h2 : (sval ((spl 32 l).getD 1 [])).2 = true) {B : List ETerm} (h3 : (sval ((spl 32 l).getD 0 [])).2 = true) :
    stR l (true, B, S) = some (true, B, S ++ [⟨(sval ((spl 32 l).getD 0 [])).1, (sval ((spl 32 l).getD 1 [])).1⟩]) := by
  rw [stR, if_neg h, lnS, if_pos ⟨h1, h2⟩]
  dsimp only
  rw [if_pos rfl, if_pos h3]
theorem stR_blk {l : List UInt8} {S : List EInstruction} (h : ¬ l = [45]) (h1 : (spl 32 l).length = 2) (h2 : (sval ((spl 32 l).getD 1 [])).2 = true) {B : List ETerm} :
    stR l (false, B, S) = some (false, B ++ [⟨keyOf (strL ((spl 32 l).getD 0 [])) - 4, ⟨#[]⟩, (sval ((spl 32 l).getD 1 [])).1⟩], S) := by
  rw [stR, if_neg (fun hh => h hh.1), lnS, if_pos ⟨h1, h2⟩]
  dsimp only
  rw [if_neg (by decide)]
theorem key_bd (s : ByteArray) : -1 ≤ keyOf s ∧ keyOf s ≤ 17 := by
  unfold keyOf idx
  split
  · rename_i k h
    have h1 := (List.findIdx?_eq_some_iff_findIdx_eq.1 h).1
    have h2 : keys.length = 17 := by decide
    omega
  · omega
theorem flatI_appR (xs : List EInstruction) (x : EInstruction) : (xs ++ [x]).flatMap encInstruction = xs.flatMap encInstruction ++ [.int .i64 x.op, .int .i64 x.arg] := by rw [List.flatMap_append]; rfl
theorem flatT_appR (xs : List ETerm) (x : ETerm) : (xs ++ [x]).flatMap encTerm = xs.flatMap encTerm ++ [.int .i64 x.kind, .string x.name, .int .i64 x.num] := by rw [List.flatMap_append]; rfl
theorem dash_eq (l : List UInt8) : ((strL l).toList == [45]) = (l == [45]) := by rw [ByteArray.toList_eq, strL_list]
def RetLs (w : World) (R : StR) (e : Ending) (w' : World) : Prop := ∃ r s, e = .returned (.tuple #[r, s, .bool R.1]) ∧ New w w' ∧ w'.ownsRow w.heap.size 66 3 r R.2.1.length (R.2.1.flatMap encTerm) ∧ w'.ownsRow w.heap.size 70 2 s R.2.2.length (R.2.2.flatMap encInstruction)
theorem retLs_none {fn : Func} {w0 w : World} {a : Act} (hd : a.defers = []) (hn : New w0 w) (hr : (results fn a.tmps).run Tryz.prog w = .ok (.tuple #[.slice none 0 0, .slice none 0 0, .bool false]) w) : bodyPost Tryz.prog fn (RetLs w0 (lnR none)) .ret a w :=
  ⟨hd, _, hr, _, _, rfl, hn, ⟨rfl, .inl ⟨rfl, rfl⟩⟩, ⟨rfl, .inl ⟨rfl, rfl⟩⟩⟩
theorem two_open {w' : World} {b : Nat} {r : Value} {X0 X1 : ByteArray} (h : w'.ownsRow b 9 1 r 2 [.string X0, .string X1]) :
    ∃ g cap, r = .slice (some ⟨g, 0, none⟩) 2 cap ∧ g < w'.heap.size ∧ w'.cell? ⟨g, 0, none⟩ = some (.string X0) ∧ w'.cell? ⟨g, 1, none⟩ = some (.string X1) := by
  obtain ⟨g, cap, rfl⟩ : ∃ g cap, r = .slice (some ⟨g, 0, none⟩) 2 cap := by
    rcases h.2 with ⟨_, h⟩ | ⟨g, cap, cur, h, _⟩
    · simp at h
    · exact ⟨g, cap, h⟩
  refine ⟨g, cap, rfl, (own_block_lt h g rfl).2, ?_, ?_⟩
  · rw [h.cellAt 0 (by simp)]; simp
  · rw [h.cellAt 1 (by simp)]; simp
set_option maxHeartbeats 4000000 in
theorem sReadLines_any (v : Value) (L : List (List UInt8)) (w : World) (hv : RdS w v (L.map strL)) (hl : L.length ≤ 1048577) (hs : ∀ y ∈ L, y.length ≤ 1048576) :
    Calls Tryz.prog 36 #[v] w (RetLs w (lnR (rdLS L (false, [], [])))) := by
  obtain ⟨i0, hi, hz0, hz1, hz2⟩ := info_parts infoTerm
  obtain ⟨j0, hj, hy0, hy1, hy2⟩ := info_parts infoInstruction
  obtain ⟨a, cap, rfl, hm, HC⟩ := hv.open
  clear hv
  simp only [List.length_map] at hm HC
  have HS := Lib.hid hs; clear hs
  have HV := Lib.hid (fun (y : List UInt8) (h : y.length ≤ 1048576) (w0 : World) => (by
    have h1 := sValue_any (strL y) w0 (by rw [strL_size]; omega)
    rw [strL_list] at h1; exact h1 : Calls Tryz.prog 76 #[.string (strL y)] w0 fun e w' => e = .returned (.tuple #[.int .i64 (sval y).1, .bool (sval y).2]) ∧ New w0 w'))
  obtain ⟨R, hR⟩ : ∃ R, rdLS L (false, [], []) = R := ⟨_, rfl⟩
  rw [hR]
  replace hR := Lib.hid hR
  have own1 : ((w.alloc (.cells #[] 66)).alloc (.cells #[] 70)).ownsRow w.heap.size 66 3 (.slice (some ⟨w.heap.size, 0, none⟩) 0 0) 0 [] := (own_empty (Nat.le_refl _)).alloc _
  have own2 : ((w.alloc (.cells #[] 66)).alloc (.cells #[] 70)).ownsRow w.heap.size 70 2 (.slice (some ⟨w.heap.size + 1, 0, none⟩) 0 0) 0 [] := own_empty_at (by simp) (by simp)
  replace own1 := Lib.hid own1
  replace own2 := Lib.hid own2
  go_enter Tryz.func36, Tryz.ntmps36
  go_wp2_with fail
  simp only [List.length_map]
  go_loopw [5, 6, 7, 8] (fun bv sv bh i wr => ∃ (k : Nat) (b : Bool) (B : List ETerm) (S : List EInstruction), k ≤ L.length ∧ i = .int .i64 k ∧ bh = .bool b ∧ Hid (rdLS (L.drop k) (b, B, S) = R) ∧ B.length ≤ k ∧ S.length ≤ k ∧ New w wr ∧
    Hid (wr.ownsRow w.heap.size 66 3 bv B.length (B.flatMap encTerm)) ∧ Hid (wr.ownsRow w.heap.size 70 2 sv S.length (S.flatMap encInstruction))) (fun _ _ _ i _ => L.length - (intOf i).toNat)
  case atStart => exact ⟨0, false, [], [], Nat.zero_le _, rfl, rfl, hR, Nat.le_refl _, Nat.le_refl _, (by repeat (first | with_reducible exact New.refl _ | with_reducible assumption | with_reducible refine New.drew ?_ | with_reducible refine New.drewN ?_ _ | with_reducible refine New.alloc ?_ _ | with_reducible refine New.setCell ?_ (by first | (simp; done) | (simp; omega) | omega) _ | with_reducible refine New.trans ?_ (by with_reducible assumption))), own1, own2⟩
  case round =>
    obtain ⟨k, bh, B, S, hk, rfl, rfl, hst, hBl, hSl, hb, oB, oS⟩ := hrel
    clear own1 own2 hR
    have hbz := hb.size
    by_cases hlt : k < L.length
    · obtain ⟨b, off, rfl, hbl, hx⟩ := HC.out wr hb k (by simpa using hlt)
      have hbw : b < wr.heap.size := by omega
      have hyl := HS.out L[k] (List.getElem_mem hlt)
      have HST := rdLS_at hlt (bh, B, S)
      rw [hst.out] at HST
      simp only [List.getElem_map] at hx
      generalize L[k] = y at hx hyl HST
      have hde := dash_eq y
      by_cases hd : y = [45] ∧ bh = false
      · obtain ⟨hd1, rfl⟩ := hd
        have HN := Lib.hid (show rdLS (L.drop (k + 1)) (true, B, S) = R by rw [HST, stR_dash hd1]; rfl)
        have hce : ((strL y).toList == [45]) = true := by rw [hde, hd1]; rfl
        clear HST hde
        generalize strL y = Y at hx hce
        go_wp2_with fail
        go_roundw
        case rel => exact ⟨k + 1, true, B, S, by omega, by go_num, rfl, HN, by omega, by omega, hb, oB, oS⟩
        case measure => simp [intOf]; omega
      · have HSP := Lib.hid (fun (w0 : World) => sSplit_any (strL y) 32 w0 (by rw [strL_size]; exact hyl))
        rw [strL_list] at HSP
        have hwl := spl_len 32 y
        have hml := spl_mem_len 32 y
        have hce : bh = true ∨ ((strL y).toList == [45]) = false := by
          cases bh with
          | true => exact .inl rfl
          | false => right; rw [hde]; simpa using fun e => hd ⟨e, rfl⟩
        have h3 : (bh = true ∧ ((strL y).toList == [45]) = true) ∨ (bh = true ∧ ((strL y).toList == [45]) = false) ∨ (bh = false ∧ ((strL y).toList == [45]) = false) := by
          rcases hce with h | h
          · rcases Bool.eq_false_or_eq_true ((strL y).toList == [45]) with h4 | h4
            · exact .inl ⟨h, h4⟩
            · exact .inr (.inl ⟨h, h4⟩)
          · cases bh with
            | true => exact .inr (.inl ⟨rfl, h⟩)
            | false => exact .inr (.inr ⟨rfl, h⟩)
        clear hce hde
        by_cases h2 : (spl 32 y).length = 2
        · obtain ⟨x0, x1, hW⟩ : ∃ x0 x1, spl 32 y = [x0, x1] := by
            generalize spl 32 y = W at h2
            match W, h2 with
            | [x0, x1], _ => exact ⟨x0, x1, rfl⟩
          have HE1 : (sval x1).2 = false → R = none := fun h => by rw [HST, stR_none hd (.inr (by rw [hW]; exact h))]; rfl
          have HE2 : bh = true → (sval x1).2 = true → (sval x0).2 = false → R = none := fun hb1 h h' => by
            subst hb1
            rw [HST, stR_step0 hd h2 (by rw [hW]; exact h) (by rw [hW]; exact h')]; rfl
          have HE3 : bh = true → (sval x1).2 = true → (sval x0).2 = true → rdLS (L.drop (k + 1)) (true, B, S ++ [⟨(sval x0).1, (sval x1).1⟩]) = R := fun hb1 h h' => by
            subst hb1
            rw [HST, stR_step hd h2 (by rw [hW]; exact h) (by rw [hW]; exact h'), hW]; rfl
          have HE4 : bh = false → (sval x1).2 = true → rdLS (L.drop (k + 1)) (false, B ++ [⟨keyOf (strL x0) - 4, ⟨#[]⟩, (sval x1).1⟩], S) = R := fun hb1 h => by
            subst hb1
            rw [HST, stR_blk (fun e => hd ⟨e, rfl⟩) h2 (by rw [hW]; exact h), hW]; rfl
          rw [hW] at HSP hml
          have HV0 := Lib.hid (HV.out x0 (by have := hml x0 (by simp); omega))
          have HV1 := Lib.hid (HV.out x1 (by have := hml x1 (by simp); omega))
          have HKY := Lib.hid (fun (w0 : World) => sKeyword_any (strL x0) w0)
          have hkb := key_bd (strL x0)
          generalize strL y = Y at hx h3 HSP
          clear HST hd hW hml hwl h2
          simp only [List.map_cons, List.map_nil, List.length_cons, List.length_nil, Nat.zero_add] at HSP
          generalize hX0 : strL x0 = X0 at *
          generalize hX1 : strL x1 = X1 at *
          generalize keyOf X0 = K at *
          generalize sval x0 = V0 at *
          generalize sval x1 = V1 at *
          obtain ⟨n0, ok0⟩ := V0
          obtain ⟨n1, ok1⟩ := V1
          dsimp only at HE1 HE2 HE3 HE4 HV0 HV1
          clear hX0 hX1
          cases ok1 with
          | false =>
            have hRN := HE1 rfl
            subst hRN
            clear HE1 HE2 HE3 HE4
            rcases h3 with ⟨rfl, hce⟩ | ⟨rfl, hce⟩ | ⟨rfl, hce⟩
            all_goals
              go_wp2_with fail
              refine (HSP.out _).mono ?_
              rintro e w3 ⟨r, rfl, b3, o3⟩
              obtain ⟨g, cp, rfl, hg, k0, k1⟩ := two_open o3
              clear o3
              go_wp2_with fail
              refine (HV1.out _).mono ?_
              rintro e w4 ⟨rfl, b4⟩
              go_wp2_with fail
              exact retLs_none rfl (by repeat (first | with_reducible exact New.refl _ | with_reducible assumption | with_reducible refine New.drew ?_ | with_reducible refine New.drewN ?_ _ | with_reducible refine New.alloc ?_ _ | with_reducible refine New.setCell ?_ (by first | (simp; done) | (simp; omega) | omega) _ | with_reducible refine New.trans ?_ (by with_reducible assumption))) (by simp [results, Tryz.results36, go_sem])
          | true =>
            clear HE1
            rcases h3 with ⟨rfl, hce⟩ | ⟨rfl, hce⟩ | ⟨rfl, hce⟩
            · skip
              cases ok0 with
              | false =>
                have hRN := HE2 rfl rfl rfl
                subst hRN
                clear HE2 HE3 HE4
                go_wp2_with fail
                refine (HSP.out _).mono ?_
                rintro e w3 ⟨r, rfl, b3, o3⟩
                obtain ⟨g, cp, rfl, hg, k0, k1⟩ := two_open o3
                clear o3
                go_wp2_with fail
                refine (HV1.out _).mono ?_
                rintro e w4 ⟨rfl, b4⟩
                have k4 := (b4.cell (o := 0) hg).trans k0
                have hg4 := Nat.lt_of_lt_of_le hg b4.size
                clear k0 k1
                go_wp2_with fail
                refine (HV0.out _).mono ?_
                rintro e w5 ⟨rfl, b5⟩
                go_wp2_with fail
                exact retLs_none rfl (by repeat (first | with_reducible exact New.refl _ | with_reducible assumption | with_reducible refine New.drew ?_ | with_reducible refine New.drewN ?_ _ | with_reducible refine New.alloc ?_ _ | with_reducible refine New.setCell ?_ (by first | (simp; done) | (simp; omega) | omega) _ | with_reducible refine New.trans ?_ (by with_reducible assumption))) (by simp [results, Tryz.results36, go_sem])
              | true =>
                have HN := Lib.hid (HE3 rfl rfl rfl)
                clear HE2 HE3 HE4
                go_wp2_with fail
                refine (HSP.out _).mono ?_
                rintro e w3 ⟨r, rfl, b3, o3⟩
                obtain ⟨g, cp, rfl, hg, k0, k1⟩ := two_open o3
                clear o3
                go_wp2_with fail
                refine (HV1.out _).mono ?_
                rintro e w4 ⟨rfl, b4⟩
                have k4 := (b4.cell (o := 0) hg).trans k0
                have hg4 := Nat.lt_of_lt_of_le hg b4.size
                clear k0 k1
                go_wp2_with fail
                refine (HV0.out _).mono ?_
                rintro e w5 ⟨rfl, b5⟩
                have N5 := (hb.trans (b3.trans (b4.trans b5)))
                have N3 := b3.trans (b4.trans b5)
                have o5 := own_new oS.out N3
                have oB5 := own_new oB.out N3
                have z5 := N5.size
                clear k4
                obtain ⟨i0, hi, hz0, hz1, hz2⟩ := info_parts infoInstruction
                go_wp2_with (first | (at_builtin; refine wpList_append_own _ rfl _ _ 25 rfl (w.heap.size) 70 i0 (Value.agg #[.int .i64 0, .int .i64 0]) 2 16 Tryz.underlying25 hi hz0 hz1 hz2 rfl (by decide) _ _ _ rfl (o5.alloc _) ⟨w5.heap.size, 0, none⟩ 1 1 [.int .i64 n0, .int .i64 n1] rfl rfl (fun j u hj => alloc_row (by first | rfl | simp) j u hj) (by intro u hu; simp at hu; rcases hu with rfl | rfl <;> rfl) (by unfold maxLen; omega) (by omega) (by first | (simp; done) | (simp; omega) | omega) ?_; intro va wa howna hgra _))
                have ba := New.grown (N5.alloc _) hgra (fun q hq => by have := (own_block_lt o5 q hq).1; simpa using this)
                have oBa := own_grK (oB5.alloc (.cells #[.int .i64 n0, .int .i64 n1] 70)) hgra (fun i j hi hj => own_ne_ownK o5 oB5 (by decide) i j hi hj)
                go_roundw
                case rel => exact ⟨k + 1, true, B, S ++ [⟨n0, n1⟩], by omega, by go_num, rfl, HN, by omega, by simp; omega, ba, Lib.hid oBa, Lib.hid (by rw [List.length_append, List.length_singleton, flatI_appR]; exact howna)⟩
                case measure => simp [intOf]; omega
            · skip
              cases ok0 with
              | false =>
                have hRN := HE2 rfl rfl rfl
                subst hRN
                clear HE2 HE3 HE4
                go_wp2_with fail
                refine (HSP.out _).mono ?_
                rintro e w3 ⟨r, rfl, b3, o3⟩
                obtain ⟨g, cp, rfl, hg, k0, k1⟩ := two_open o3
                clear o3
                go_wp2_with fail
                refine (HV1.out _).mono ?_
                rintro e w4 ⟨rfl, b4⟩
                have k4 := (b4.cell (o := 0) hg).trans k0
                have hg4 := Nat.lt_of_lt_of_le hg b4.size
                clear k0 k1
                go_wp2_with fail
                refine (HV0.out _).mono ?_
                rintro e w5 ⟨rfl, b5⟩
                go_wp2_with fail
                exact retLs_none rfl (by repeat (first | with_reducible exact New.refl _ | with_reducible assumption | with_reducible refine New.drew ?_ | with_reducible refine New.drewN ?_ _ | with_reducible refine New.alloc ?_ _ | with_reducible refine New.setCell ?_ (by first | (simp; done) | (simp; omega) | omega) _ | with_reducible refine New.trans ?_ (by with_reducible assumption))) (by simp [results, Tryz.results36, go_sem])
              | true =>
                have HN := Lib.hid (HE3 rfl rfl rfl)
                clear HE2 HE3 HE4
                go_wp2_with fail
                refine (HSP.out _).mono ?_
                rintro e w3 ⟨r, rfl, b3, o3⟩
                obtain ⟨g, cp, rfl, hg, k0, k1⟩ := two_open o3
                clear o3
                go_wp2_with fail
                refine (HV1.out _).mono ?_
                rintro e w4 ⟨rfl, b4⟩
                have k4 := (b4.cell (o := 0) hg).trans k0
                have hg4 := Nat.lt_of_lt_of_le hg b4.size
                clear k0 k1
                go_wp2_with fail
                refine (HV0.out _).mono ?_
                rintro e w5 ⟨rfl, b5⟩
                have N5 := (hb.trans (b3.trans (b4.trans b5)))
                have N3 := b3.trans (b4.trans b5)
                have o5 := own_new oS.out N3
                have oB5 := own_new oB.out N3
                have z5 := N5.size
                clear k4
                obtain ⟨i0, hi, hz0, hz1, hz2⟩ := info_parts infoInstruction
                go_wp2_with (first | (at_builtin; refine wpList_append_own _ rfl _ _ 25 rfl (w.heap.size) 70 i0 (Value.agg #[.int .i64 0, .int .i64 0]) 2 16 Tryz.underlying25 hi hz0 hz1 hz2 rfl (by decide) _ _ _ rfl (o5.alloc _) ⟨w5.heap.size, 0, none⟩ 1 1 [.int .i64 n0, .int .i64 n1] rfl rfl (fun j u hj => alloc_row (by first | rfl | simp) j u hj) (by intro u hu; simp at hu; rcases hu with rfl | rfl <;> rfl) (by unfold maxLen; omega) (by omega) (by first | (simp; done) | (simp; omega) | omega) ?_; intro va wa howna hgra _))
                have ba := New.grown (N5.alloc _) hgra (fun q hq => by have := (own_block_lt o5 q hq).1; simpa using this)
                have oBa := own_grK (oB5.alloc (.cells #[.int .i64 n0, .int .i64 n1] 70)) hgra (fun i j hi hj => own_ne_ownK o5 oB5 (by decide) i j hi hj)
                go_roundw
                case rel => exact ⟨k + 1, true, B, S ++ [⟨n0, n1⟩], by omega, by go_num, rfl, HN, by omega, by simp; omega, ba, Lib.hid oBa, Lib.hid (by rw [List.length_append, List.length_singleton, flatI_appR]; exact howna)⟩
                case measure => simp [intOf]; omega
            · have HN := Lib.hid (HE4 rfl rfl)
              clear HE2 HE3 HE4
              have hk1 := i64_in' (K - 11) (by omega) (by omega)
              have hk2 := i64_in' (K - 11 + 7) (by omega) (by omega)
              go_wp2_with fail
              refine (HSP.out _).mono ?_
              rintro e w3 ⟨r, rfl, b3, o3⟩
              obtain ⟨g, cp, rfl, hg, k0, k1⟩ := two_open o3
              clear o3
              go_wp2_with fail
              refine (HV1.out _).mono ?_
              rintro e w4 ⟨rfl, b4⟩
              have k4 := (b4.cell (o := 0) hg).trans k0
              have hg4 := Nat.lt_of_lt_of_le hg b4.size
              clear k0 k1
              go_wp2_with fail
              refine (HKY.out _).mono ?_
              rintro e w5 ⟨rfl, b5⟩
              have N5 := (hb.trans (b3.trans (b4.trans b5)))
              have N3 := b3.trans (b4.trans b5)
              have o5 := own_new oB.out N3
              have oS5 := own_new oS.out N3
              have z5 := N5.size
              clear k4
              go_wp2_with (first | (at_builtin; refine wpList_append_own _ rfl _ _ 24 rfl (w.heap.size) 66 i0 (Value.agg #[.int .i64 0, .string ⟨#[]⟩, .int .i64 0]) 3 32 Tryz.underlying24 hi hz0 hz1 hz2 rfl (by decide) _ _ _ rfl (o5.alloc _) ⟨w5.heap.size, 0, none⟩ 1 1 [.int .i64 (K - 11 + 7), .string ⟨#[]⟩, .int .i64 n1] rfl rfl (fun j u hj => alloc_row (by first | rfl | simp) j u hj) (by intro u hu; simp at hu; rcases hu with rfl | rfl | rfl <;> rfl) (by unfold maxLen; omega) (by omega) (by first | (simp; done) | (simp; omega) | omega) ?_; intro va wa howna hgra _))
              have ba := New.grown (N5.alloc _) hgra (fun q hq => by have := (own_block_lt o5 q hq).1; simpa using this)
              have oSa := own_grK (oS5.alloc (.cells #[.int .i64 (K - 11 + 7), .string ⟨#[]⟩, .int .i64 n1] 66)) hgra (fun i j hi hj => own_ne_ownK o5 oS5 (by decide) i j hi hj)
              go_roundw
              case rel => exact ⟨k + 1, false, B ++ [⟨K - 4, ⟨#[]⟩, n1⟩], S, by omega, by go_num, rfl, HN, by simp; omega, by omega, ba, Lib.hid (by rw [List.length_append, List.length_singleton, flatT_appR, show K - 4 = K - 11 + 7 by omega]; exact howna), Lib.hid oSa⟩
              case measure => simp [intOf]; omega
        · have hRN : R = none := by rw [HST, stR_none hd (.inl h2)]; rfl
          subst hRN
          generalize strL y = Y at hx h3 HSP
          generalize spl 32 y = W at *
          have hn2 : ((W.length : Int) != 2) = true := by simp; omega
          clear HST hd h2 hml
          rcases h3 with ⟨rfl, hce⟩ | ⟨rfl, hce⟩ | ⟨rfl, hce⟩
          all_goals
            go_wp2_with fail
            refine (HSP.out _).mono ?_
            rintro e w3 ⟨r, rfl, b3, o3⟩
            obtain ⟨ra, rc, rfl⟩ := own_slice o3
            clear o3
            go_wp2_with fail
            exact retLs_none rfl (by repeat (first | with_reducible exact New.refl _ | with_reducible assumption | with_reducible refine New.drew ?_ | with_reducible refine New.drewN ?_ _ | with_reducible refine New.alloc ?_ _ | with_reducible refine New.setCell ?_ (by first | (simp; done) | (simp; omega) | omega) _ | with_reducible refine New.trans ?_ (by with_reducible assumption))) (by simp [results, Tryz.results36, go_sem])
    · obtain rfl : k = L.length := by omega
      have HA := Lib.hid (show some (bh, B, S) = R by rw [← hst.out, List.drop_length]; rfl)
      clear hst
      go_wp2_with fail
      refine bodyPost_ret (v := .tuple #[_, _, .bool bh]) (by simp [results, Tryz.results36, go_sem]; exact ⟨rfl, rfl⟩) rfl ?_
      rw [← HA.out]
      exact ⟨_, _, rfl, hb, oB.out, oS.out⟩
def zC : CodeD := ⟨0, 0, 0, [], []⟩
def RetRC (w : World) (o : Option CodeD) (e : Ending) (w' : World) : Prop := ∃ r s, e = .returned (.tuple #[valC (o.getD zC) r s, .bool o.isSome]) ∧ New w w' ∧
  w'.ownsRow w.heap.size 66 3 r (o.getD zC).blocks.length ((o.getD zC).blocks.flatMap encTerm) ∧ w'.ownsRow w.heap.size 70 2 s (o.getD zC).steps.length ((o.getD zC).steps.flatMap encInstruction)
theorem retRC_none {fn : Func} {w0 w : World} {a : Act} (hd : a.defers = []) (hn : New w0 w) (hr : (results fn a.tmps).run Tryz.prog w = .ok (.tuple #[.agg #[.int .i64 0, .int .i64 0, .int .i64 0, .slice none 0 0, .slice none 0 0], .bool false]) w) : bodyPost Tryz.prog fn (RetRC w0 none) .ret a w :=
  ⟨hd, _, hr, _, _, rfl, hn, ⟨rfl, .inl ⟨rfl, rfl⟩⟩, ⟨rfl, .inl ⟨rfl, rfl⟩⟩⟩
theorem own_rdS {w : World} {base : Nat} {r : Value} {L : List (List UInt8)} (h : w.ownsRow base 9 1 r L.length (L.map fun y => Value.string (strL y))) : RdS w r (L.map strL) := by
  have := own_rd h
  rw [RdS, List.length_map, List.map_map]; exact this
theorem lines_open {w' : World} {b n : Nat} {r : Value} {L : List (List UInt8)} (hn : L.length = n) (hL : 0 < L.length) (h : w'.ownsRow b 9 1 r L.length (L.map (fun y => Value.string (strL y)))) :
    ∃ g cap, r = .slice (some ⟨g, 0, none⟩) n cap ∧ n ≤ cap ∧ g < w'.heap.size ∧ w'.cell? ⟨g, 0, none⟩ = some (.string (strL L[0])) ∧ Hid (∀ wr, New w' wr → ∀ k (hk : k < L.length), wr.cell? ⟨g, k, none⟩ = some (.string (strL L[k]))) := by
  subst hn
  obtain ⟨g, cap, rfl⟩ : ∃ g cap, r = .slice (some ⟨g, 0, none⟩) L.length cap := by
    rcases h.2 with ⟨_, h⟩ | ⟨g, cap, cur, h, _⟩
    · omega
    · exact ⟨g, cap, h⟩
  have hg := (own_block_lt h g rfl).2
  refine ⟨g, cap, rfl, (own_rd h).cap, hg, ?_, Lib.hid fun wr hn k hk => ?_⟩
  · rw [h.cellAt 0 (by omega)]; simp [hL]
  · rw [(own_new h hn).cellAt k (by omega)]; simp [hk]
theorem ints_open {w' : World} {b : Nat} {r : Value} {x y z : Int} (h : w'.ownsRow b 2 1 r 3 [.int .i64 x, .int .i64 y, .int .i64 z]) :
    ∃ g cap, r = .slice (some ⟨g, 0, none⟩) 3 cap ∧ g < w'.heap.size ∧ w'.cell? ⟨g, 0, none⟩ = some (.int .i64 x) ∧ w'.cell? ⟨g, 1, none⟩ = some (.int .i64 y) ∧ w'.cell? ⟨g, 2, none⟩ = some (.int .i64 z) := by
  obtain ⟨g, cap, rfl⟩ : ∃ g cap, r = .slice (some ⟨g, 0, none⟩) 3 cap := by
    rcases h.2 with ⟨_, h⟩ | ⟨g, cap, cur, h, _⟩
    · simp at h
    · exact ⟨g, cap, h⟩
  refine ⟨g, cap, rfl, (own_block_lt h g rfl).2, ?_, ?_, ?_⟩
  · rw [h.cellAt 0 (by simp)]; simp
  · rw [h.cellAt 1 (by simp)]; simp
  · rw [h.cellAt 2 (by simp)]; simp
theorem tail_lnR (l : List UInt8) (hd : List Int) (R : Option StR) : tailS l hd R = finS l ⟨hd.getD 0 0, hd.getD 1 0, hd.getD 2 0, (lnR R).2.1, (lnR R).2.2⟩ (lnR R).1 := by
  cases R with
  | none => rw [tailS, finS, if_neg (by simp [lnR])]
  | some r => obtain ⟨two, B, S⟩ := r; rfl
theorem midl_len (L : List (List UInt8)) : (L.tail.dropLast).length = L.length - 2 := by simp; omega
theorem midl_at {L : List (List UInt8)} {j : Nat} (h : j < (L.tail.dropLast).length) : (L.tail.dropLast)[j] = L[j + 1]'(by rw [midl_len] at h; omega) := by simp
theorem mid_rdS {w : World} {g q cap : Nat} {L : List (List UInt8)} (hq : L.length = q + 3) (hc : q + 1 ≤ cap) (hg : g < w.heap.size) (hx : ∀ k (hk : k < L.length), w.cell? ⟨g, k, none⟩ = some (.string (strL L[k]))) (hl : q ≤ 1048577) :
    RdS w (.slice (some ⟨g, 1, none⟩) (q + 1) cap) ((L.tail.dropLast).map strL) := by
  have hm : (L.tail.dropLast).length = q + 1 := by rw [midl_len]; omega
  refine ⟨_, cap, by rw [List.length_map, hm], by rw [List.length_map, hm]; omega, ⟨(fun h => by cases h), by rw [List.length_map, hm]; exact hc⟩, fun j u hu => ⟨g, 1, rfl, hg, ?_⟩⟩
  have hj : j < (L.tail.dropLast).length := by have := (List.getElem?_eq_some_iff.1 hu).1; simpa using this
  have h1 := hx (j + 1) (by omega)
  rw [← midl_at hj] at h1
  rw [Nat.add_comm 1 j, h1, ← hu, List.getElem?_map, List.getElem?_map, List.getElem?_eq_getElem hj]; rfl
theorem sCodeT0_any (c : CodeD) (bv sv : Value) (w : World) (hb : RdT w bv c.blocks) (hs : RdN w sv c.steps) (hc : isCodeB c = false) (hf : ∀ x ∈ c.blocks, fitTerm x) :
    Calls Tryz.prog 14 #[valC c bv sv] w fun e w' => e = .returned (.string ⟨#[]⟩) ∧ New w w' := by
  have HB := Lib.hid hb; have HS := Lib.hid hs
  obtain ⟨ba, bc, rfl, _⟩ := hb
  obtain ⟨sa, sc, rfl, _⟩ := hs
  go_enter Tryz.func14, Tryz.ntmps14
  go_wp2_with fail
  refine (sIsCode_any c _ _ _ (Rd.new HB.out (by repeat (first | with_reducible exact New.refl _ | with_reducible assumption | with_reducible refine New.drew ?_ | with_reducible refine New.drewN ?_ _ | with_reducible refine New.alloc ?_ _ | with_reducible refine New.setCell ?_ (by first | (simp; done) | (simp; omega) | omega) _ | with_reducible refine New.trans ?_ (by with_reducible assumption)))) (Rd.new HS.out (by repeat (first | with_reducible exact New.refl _ | with_reducible assumption | with_reducible refine New.drew ?_ | with_reducible refine New.drewN ?_ _ | with_reducible refine New.alloc ?_ _ | with_reducible refine New.setCell ?_ (by first | (simp; done) | (simp; omega) | omega) _ | with_reducible refine New.trans ?_ (by with_reducible assumption)))) hf).mono ?_; rintro e w1 ⟨rfl, b1⟩
  rw [hc]
  go_wp2_with fail
  go_ret
  exact ⟨rfl, ((New.refl w).alloc _).trans b1⟩
/-- The text of any code. -/
theorem sCodeTR_any (c : CodeD) (bv sv : Value) (w : World) (hb : RdT w bv c.blocks) (hs : RdN w sv c.steps) (hf : ∀ x ∈ c.blocks, fitTerm x) :
    Calls Tryz.prog 14 #[valC c bv sv] w fun e w' => e = .returned (.string (strL (ctextR c))) ∧ New w w' := by
  rcases Bool.eq_false_or_eq_true (isCodeB c) with h | h
  · rw [ctextR, if_pos h]; exact sCodeT_any c bv sv w hb hs h hf
  · rw [ctextR, if_neg (by simp [h])]; exact sCodeT0_any c bv sv w hb hs h hf
theorem rdLS_fit : ∀ (L : List (List UInt8)) (s : StR) (R : StR), (∀ x ∈ s.2.1, fitTerm x) → rdLS L s = some R → ∀ x ∈ R.2.1, fitTerm x
  | [], s, R, h, he => by cases he; exact h
  | l :: L, s, R, h, he => by
    rw [rdLS] at he
    cases hs : stR l s with
    | none => rw [hs] at he; cases he
    | some s1 =>
      rw [hs] at he
      refine rdLS_fit L s1 R ?_ he
      rw [stR] at hs
      split at hs
      · cases hs; exact h
      · split at hs
        · cases hs
        · split at hs
          · split at hs
            · cases hs; exact h
            · cases hs
          · cases hs
            intro x hx
            rcases List.mem_append.1 hx with hx | hx
            · exact h x hx
            · obtain rfl := List.mem_singleton.1 hx
              show (0 : Nat) ≤ 1048576; omega
theorem lnR_fit (L : List (List UInt8)) : ∀ x ∈ (lnR (rdLS L (false, [], []))).2.1, fitTerm x := by
  cases h : rdLS L (false, [], []) with
  | none => intro x hx; cases hx
  | some R => exact rdLS_fit L _ R (fun x hx => by cases hx) h
end Go.Proofs.YteielmihlfakgaaGreatDoor
