/- Contracts: the program's reading of a code. -/
import Derived.Deep.RegionHeld3
import Derived.Deep.RegionLaw
import Derived.Deep.AppendLies
import Derived.Test.YteielmihlfakgaaGreatDoorProg
import Derived.Test.YteielmihlfakgaaGreatDoorRdcS
import Derived.Test.YteielmihlfakgaaGreatDoorCtxtI
import Derived.Test.YteielmihlfakgaaGreatDoorCtxtS
import Derived.Test.YteielmihlfakgaaGreatDoorCodeH
import Derived.Test.YteielmihlfakgaaGreatDoorUG
import Derived.Test.YteielmihlfakgaaGreatDoorVC
import Derived.Test.YteielmihlfakgaaGreatDoorVA
namespace Go.Proofs.YteielmihlfakgaaGreatDoor
open Go Go.Proofs Go.RowKit
set_option linter.unusedVariables false
set_option linter.unusedSimpArgs false
set_option maxRecDepth 100000
theorem trim_len (l : List UInt8) : (trim10 l).length ≤ l.length := by
  unfold trim10 Lib.trimSuffix
  split <;> simp
theorem mid_idx (L : List (List UInt8)) : idx (fun y : ByteArray => (⟨#[45]⟩ : ByteArray).toList == y.toList) (L.map strL) = midI L := by
  rw [midI, ← idx_map strL (fun y : ByteArray => (⟨#[45]⟩ : ByteArray).toList == y.toList)]
  congr 1
  funext y
  rw [ByteArray.toList_eq, ByteArray.toList_eq, strL_list]
theorem mid_bd (L : List (List UInt8)) : midI L = -1 ∨ ∃ m : Nat, midI L = (m : Int) ∧ ∃ h : m < L.length, L[m] = [45] := by
  unfold midI idx
  cases h : L.findIdx? (fun y => ([45] : List UInt8) == y) with
  | none => exact .inl rfl
  | some i =>
    obtain ⟨h1, h2, _⟩ := List.findIdx?_eq_some_iff_getElem.1 h
    exact .inr ⟨i, rfl, h1, (beq_iff_eq.1 h2).symm⟩
theorem dash_bad : numsF rdN (spl 44 [45]) [] = none := by decide +kernel
theorem blk_idx {s : ByteArray} (h : isBlkW s = true) : ∃ q : Int, 0 ≤ q ∧ q ≤ 5 ∧ idx (fun y => s.toList == y.toList) (keys.drop 11) = q ∧ keyOf s - 4 = 7 + q := by
  rw [isBlkW, List.any_eq_true] at h
  obtain ⟨y, hy, he⟩ := h
  obtain rfl : s = y := by
    have h1 := beq_iff_eq.1 he
    rw [ByteArray.toList_eq, ByteArray.toList_eq] at h1
    exact bytesL_eq h1
  clear he
  have hall : (keys.drop 11).all (fun s => decide (0 ≤ idx (fun y => s.toList == y.toList) (keys.drop 11)) && decide (idx (fun y => s.toList == y.toList) (keys.drop 11) ≤ 5) && decide (keyOf s - 4 = 7 + idx (fun y => s.toList == y.toList) (keys.drop 11))) = true := by decide +kernel
  have := List.all_eq_true.1 hall s hy
  simp only [Bool.and_eq_true, decide_eq_true_eq] at this
  exact ⟨_, this.1.1, this.1.2, rfl, this.2⟩
theorem blkI_ok {y : List UInt8} (h1 : (rdN (Lib.cut y [32]).2.1).2 = true) (h2 : isBlkW (strL (Lib.cut y [32]).1) = true) : blkI y = some ⟨keyOf (strL (Lib.cut y [32]).1) - 4, ⟨#[]⟩, (rdN (Lib.cut y [32]).2.1).1⟩ := by rw [blkI, if_pos ⟨h1, h2⟩]
theorem blkI_no {y : List UInt8} (h : (rdN (Lib.cut y [32]).2.1).2 = false ∨ isBlkW (strL (Lib.cut y [32]).1) = false) : blkI y = none := by
  rw [blkI, if_neg (fun hh => by rcases h with h | h; rw [h] at hh; cases hh.1; rw [h] at hh; cases hh.2)]
theorem insI_yes {y : List UInt8} (h1 : (rdN (Lib.cut y [32]).2.1).2 = true) (h2 : (rdN (Lib.cut y [32]).1).2 = true) : insI y = some ⟨(rdN (Lib.cut y [32]).1).1, (rdN (Lib.cut y [32]).2.1).1⟩ := by rw [insI, if_pos ⟨h1, h2⟩]
theorem insI_no {y : List UInt8} (h : (rdN (Lib.cut y [32]).2.1).2 = false ∨ (rdN (Lib.cut y [32]).1).2 = false) : insI y = none := by
  rw [insI, if_neg (fun hh => by rcases h with h | h; rw [h] at hh; cases hh.1; rw [h] at hh; cases hh.2)]
theorem allF_at {α : Type} (f : List UInt8 → Option α) {L : List (List UInt8)} {k : Nat} (h : k < L.length) (a : List α) : allF f (L.drop k) a = (f L[k]).bind fun x => allF f (L.drop (k + 1)) (a ++ [x]) := by
  rw [List.drop_eq_getElem_cons h, allF]
theorem allF_some {α : Type} {f : List UInt8 → Option α} {L : List (List UInt8)} {k : Nat} (h : k < L.length) {a : List α} {x : α} (hx : f L[k] = some x) : allF f (L.drop k) a = allF f (L.drop (k + 1)) (a ++ [x]) := by rw [allF_at f h, hx]; rfl
theorem allF_none {α : Type} {f : List UInt8 → Option α} {L : List (List UInt8)} {k : Nat} (h : k < L.length) {a : List α} (hx : f L[k] = none) : allF f (L.drop k) a = none := by rw [allF_at f h, hx]; rfl
theorem allF_some' {α : Type} {f : List UInt8 → Option α} {L : List (List UInt8)} {k : Nat} {y : List UInt8} (h : L[k]? = some y) {a : List α} {x : α} (hx : f y = some x) : allF f (L.drop k) a = allF f (L.drop (k + 1)) (a ++ [x]) := by
  obtain ⟨hl, he⟩ := List.getElem?_eq_some_iff.1 h
  subst he
  exact allF_some hl hx
theorem allF_none' {α : Type} {f : List UInt8 → Option α} {L : List (List UInt8)} {k : Nat} {y : List UInt8} (h : L[k]? = some y) {a : List α} (hx : f y = none) : allF f (L.drop k) a = none := by
  obtain ⟨hl, he⟩ := List.getElem?_eq_some_iff.1 h
  subst he
  exact allF_none hl hx
theorem allF_end {α : Type} (f : List UInt8 → Option α) {L : List (List UInt8)} (a : List α) : allF f (L.drop L.length) a = some a := by rw [List.drop_length]; rfl
theorem blk_kw {w : World} (hk : KW w) : RdS w (.slice (some ⟨0, 11, none⟩) 6 6) (keys.drop 11) := by
  obtain ⟨a, cap, he, hn, ⟨_, h0⟩, hc⟩ := hk
  obtain ⟨rfl, -, rfl⟩ := Value.slice.inj he
  refine ⟨_, 6, rfl, by decide, ⟨(fun h => by cases h), Nat.le_refl _⟩, fun j u hu => ?_⟩
  have hu' : (keys.map Value.string)[11 + j]? = some u := by
    rw [List.map_drop, List.getElem?_drop] at hu; exact hu
  obtain ⟨b, off, hb, hl, hx⟩ := hc (11 + j) u hu'
  obtain ⟨rfl, rfl⟩ : b = 0 ∧ off = 0 := by simp at hb; exact ⟨hb.1.symm, hb.2.symm⟩
  exact ⟨_, 11, rfl, hl, by simpa using hx⟩
/-- A struct of five cells stored in a block. -/
abbrev setE5 (w : World) (b : Nat) (u0 u1 u2 u3 u4 : Value) : World := ((((w.setCell ⟨b, 0, none⟩ u0).setCell ⟨b, 1, none⟩ u1).setCell ⟨b, 2, none⟩ u2).setCell ⟨b, 3, none⟩ u3).setCell ⟨b, 4, none⟩ u4
theorem New.setD5 {a w : World} (h : New a w) {b : Nat} (hb : a.heap.size ≤ b) (u0 u1 u2 u3 u4 : Value) : New a (setE5 w b u0 u1 u2 u3 u4) := ((((h.setCell (p := ⟨b, 0, none⟩) hb u0).setCell (p := ⟨b, 1, none⟩) hb u1).setCell (p := ⟨b, 2, none⟩) hb u2).setCell (p := ⟨b, 3, none⟩) hb u3).setCell (p := ⟨b, 4, none⟩) hb u4
theorem Blk.setD5 {w : World} {b : Nat} {v0 v1 v2 v3 v4 : Value} {T : TypeId} (h : Blk w b #[v0, v1, v2, v3, v4] T) (u0 u1 u2 u3 u4 : Value) : Blk (setE5 w b u0 u1 u2 u3 u4) b #[u0, u1, u2, u3, u4] T := ((((h.set 0 u0).set 1 u1).set 2 u2).set 3 u3).set 4 u4
theorem Blk.setD5_ne {w : World} {b g : Nat} {cs : Array Value} {T : TypeId} (h : Blk w b cs T) (hne : b ≠ g) (u0 u1 u2 u3 u4 : Value) : Blk (setE5 w g u0 u1 u2 u3 u4) b cs T := ((((h.set_ne hne u0).set_ne hne u1).set_ne hne u2).set_ne hne u3).set_ne hne u4
theorem own_setD5 {w : World} {O base : Nat} {e : TypeId} {sz : Nat} {v : Value} {n : Nat} {ds : List Value} (h : w.ownsRow base e sz v n ds) (hne : some O ≠ v.ownBlock) (u0 u1 u2 u3 u4 : Value) : (setE5 w O u0 u1 u2 u3 u4).ownsRow base e sz v n ds := own_setK (own_setK (own_setK (own_setK (own_setK h hne u0) hne u1) hne u2) hne u3) hne u4
theorem cut_len1 (y : List UInt8) : (Lib.cut y [32]).1.length ≤ y.length := by
  rw [Lib.cut]; split
  · simp; omega
  · simp
set_option maxHeartbeats 4000000 in
theorem iReadCode_any (s : ByteArray) (w : World) (hs : s.size ≤ 1048576) (hm : ML w) (hk : KW w) (hp : PW w) (he : ER w) : Calls Tryz.prog 8 #[.string s] w (RetRC w (rdcI s.data.toList)) := by
  have HM := Lib.hid hm; have HK := Lib.hid hk; have HP := Lib.hid hp; have HE := Lib.hid he
  clear hm hk hp he
  have hlen : s.data.toList.length = s.size := by rw [Array.length_toList]; rfl
  have hR0 : rdcI s.data.toList = headI s.data.toList (spl 10 (trim10 s.data.toList)) (numsF rdN (spl 44 ((spl 10 (trim10 s.data.toList)).headD [])) []) := rfl
  have hT := trim_len s.data.toList
  have HTS := Lib.hid (fun (w0 : World) => show Calls Tryz.prog 26 #[.string s, .string ⟨#[10]⟩] w0 fun e w' => e = .returned (.string (strL (trim10 s.data.toList))) ∧ w' = w0 from Tryz.strings_TrimSuffix s ⟨#[10]⟩ w0 (by omega))
  have HSP1 := fun (w0 : World) (h : ML w0) => iSplit_any (strL (trim10 s.data.toList)) 10 w0 (by rw [strL_size]; omega) h
  rw [strL_list] at HSP1
  have hL0 : 0 < (spl 10 (trim10 s.data.toList)).length := by rw [spl_cons 10]; simp
  have hwl := spl_len 10 (trim10 s.data.toList)
  have hml0 := spl_mem_len 10 (trim10 s.data.toList)
  have hml : ∀ y ∈ spl 10 (trim10 s.data.toList), y.length ≤ 1048576 := fun y hy => by have := hml0 y hy; omega
  rw [hR0]
  clear hR0 hml0
  generalize strL (trim10 s.data.toList) = TR at HTS HSP1
  generalize spl 10 (trim10 s.data.toList) = L at *
  have hL1 : L.length ≤ 1048577 := by omega
  clear hwl hT
  have hhd : L.headD [] = L[0] := by cases L with | nil => simp at hL0 | cons a r => rfl
  rw [hhd]
  clear hhd
  have hy0 := hml L[0] (List.getElem_mem hL0)
  have HML := Lib.hid (fun (k : Nat) (h : k < L.length) => hml L[k] (List.getElem_mem h))
  clear hml
  have HSP2 := Lib.hid (fun (w0 : World) (h : ML w0) => (by
    have h1 := iSplit_any (strL L[0]) 44 w0 (by rw [strL_size]; omega) h
    rw [strL_list] at h1; exact h1 : Calls Tryz.prog 25 #[.string (strL L[0]), .string ⟨#[44]⟩] w0 fun e w' => ∃ r, e = .returned r ∧ New w0 w' ∧ w'.ownsRow w0.heap.size 9 1 r (spl 44 L[0]).length ((spl 44 L[0]).map (fun y => Value.string (strL y)))))
  replace HSP1 := Lib.hid HSP1
  have HN := fun (v : Value) (w0 : World) (h : RdS w0 v ((spl 44 L[0]).map strL)) (n : New w w0) => iReadNumbers_any v (spl 44 L[0]) w0 h (by have := spl_len 44 L[0]; omega) (fun y hy => by have := spl_mem_len 44 L[0] y hy; omega) (HP.out.new n) (HE.out.new n)
  have HIX := fun (v : Value) (w0 : World) (h : RdS w0 v (L.map strL)) => indexS_any ⟨#[45]⟩ v (L.map strL) w0 h
  rw [mid_idx] at HIX
  have hmb := mid_bd L
  have hdb : L[0] = [45] → numsF rdN (spl 44 L[0]) [] = none := fun h => by rw [h]; exact dash_bad
  have HPO := Lib.hid (fun (y : List UInt8) (h : y.length ≤ 1048576) (w0 : World) (n : New w w0) => iPairOf_any y w0 h (HM.out.new n) (HP.out.new n) (HE.out.new n))
  have HQ := Lib.hid (fun (s : ByteArray) (w0 : World) (n : New w w0) => iIsBlkW_any s w0 (HK.out.new n))
  have HLEN := Lib.hid hlen; clear hlen
  obtain ⟨n, hn⟩ : ∃ n, L.length = n := ⟨_, rfl⟩
  have hn0 : 0 < n := by omega
  have hn1 : n ≤ 1048577 := by omega
  have HLN := Lib.hid hn
  generalize hNN : numsF rdN (spl 44 L[0]) [] = N at *
  clear hNN
  cases N with
  | none =>
    clear hn
    rw [headI]
    replace HN := Lib.hid HN
    replace HIX := Lib.hid HIX
    unfold okN at HN
    clear hdb
    generalize midI L = M at *
    clear hmb
    go_enter Tryz.func8, Tryz.ntmps8
    go_wp2_with fail
    refine (HTS.out _).mono ?_; rintro e _ ⟨rfl, rfl⟩
    go_wp2_with fail
    refine (HSP1.out _ (HM.out.new (by repeat (first | with_reducible exact New.refl _ | with_reducible assumption | with_reducible refine New.drew ?_ | with_reducible refine New.drewN ?_ _ | with_reducible refine New.alloc ?_ _ | with_reducible refine New.setCell ?_ (by first | (simp; done) | (simp; omega) | omega) _ | with_reducible refine New.trans ?_ (by with_reducible assumption))))).mono ?_; rintro e w2 ⟨r1, rfl, b2, o2⟩
    have HRD := Lib.hid (own_rdS o2); obtain ⟨g, cap, rfl, hcap, hg, hx0, HX⟩ := lines_open HLN.out hL0 o2; clear o2
    obtain ⟨c2, f2⟩ := b2.rules
    have z2 := b2.size
    try simp only [World.size_alloc, World.size_drew, World.heap_drewN, World.size_setCell] at z2
    have z2_0 : w.heap.size < w2.heap.size := by omega
    go_wp2_with fail
    refine (HSP2.out _ (HM.out.new (by repeat (first | with_reducible exact New.refl _ | with_reducible assumption | with_reducible refine New.drew ?_ | with_reducible refine New.drewN ?_ _ | with_reducible refine New.alloc ?_ _ | with_reducible refine New.setCell ?_ (by first | (simp; done) | (simp; omega) | omega) _ | with_reducible refine New.trans ?_ (by with_reducible assumption))))).mono ?_; rintro e w3 ⟨r3, rfl, b3, o3⟩
    have HR3 := Lib.hid (own_rdS o3); clear o3
    obtain ⟨c3, f3⟩ := b3.rules
    have z3 := b3.size
    try simp only [World.size_alloc, World.size_drew, World.heap_drewN, World.size_setCell] at z3
    have z3_0 : w.heap.size < w3.heap.size := by omega
    go_wp2_with fail
    refine (HN.out _ _ HR3.out (by repeat (first | with_reducible exact New.refl _ | with_reducible assumption | with_reducible refine New.drew ?_ | with_reducible refine New.drewN ?_ _ | with_reducible refine New.alloc ?_ _ | with_reducible refine New.setCell ?_ (by first | (simp; done) | (simp; omega) | omega) _ | with_reducible refine New.trans ?_ (by with_reducible assumption)))).mono ?_; rintro e w4 ⟨r4, rfl, b4, o4⟩
    obtain ⟨a4, k4, rfl⟩ := own_slice o4
    obtain ⟨c4, f4⟩ := b4.rules
    have z4 := b4.size
    try simp only [World.size_alloc, World.size_drew, World.heap_drewN, World.size_setCell] at z4
    have z4_0 : w.heap.size < w4.heap.size := by omega
    go_wp2_with fail
    refine (HIX.out _ _ (Rd.new HRD.out (b3.trans b4))).mono ?_; rintro e _ ⟨rfl, rfl⟩
    go_wp2_with fail
    exact retRC_none rfl (by repeat (first | with_reducible exact New.refl _ | with_reducible assumption | with_reducible refine New.drew ?_ | with_reducible refine New.drewN ?_ _ | with_reducible refine New.alloc ?_ _ | with_reducible refine New.setCell ?_ (by first | (simp; done) | (simp; omega) | omega) _ | with_reducible refine New.trans ?_ (by with_reducible assumption))) (by simp [results, Tryz.results8, go_sem, c4, f4, c3, f3, c2, f2, z2_0, z3_0, z4_0])
  | some hd =>
    unfold okN at HN
    dsimp only at HN
    replace HN := Lib.hid HN
    by_cases h3 : hd.length = 3
    · rcases hmb with hM | ⟨M, hM, hMl, hM45⟩
      · rw [headI, if_neg (by rw [hM]; omega)]
        rw [hM] at HIX
        replace HIX := Lib.hid HIX
        clear hdb hn
        go_enter Tryz.func8, Tryz.ntmps8
        go_wp2_with fail
        refine (HTS.out _).mono ?_; rintro e _ ⟨rfl, rfl⟩
        go_wp2_with fail
        refine (HSP1.out _ (HM.out.new (by repeat (first | with_reducible exact New.refl _ | with_reducible assumption | with_reducible refine New.drew ?_ | with_reducible refine New.drewN ?_ _ | with_reducible refine New.alloc ?_ _ | with_reducible refine New.setCell ?_ (by first | (simp; done) | (simp; omega) | omega) _ | with_reducible refine New.trans ?_ (by with_reducible assumption))))).mono ?_; rintro e w2 ⟨r1, rfl, b2, o2⟩
        have HRD := Lib.hid (own_rdS o2); obtain ⟨g, cap, rfl, hcap, hg, hx0, HX⟩ := lines_open HLN.out hL0 o2; clear o2
        obtain ⟨c2, f2⟩ := b2.rules
        have z2 := b2.size
        try simp only [World.size_alloc, World.size_drew, World.heap_drewN, World.size_setCell] at z2
        have z2_0 : w.heap.size < w2.heap.size := by omega
        go_wp2_with fail
        refine (HSP2.out _ (HM.out.new (by repeat (first | with_reducible exact New.refl _ | with_reducible assumption | with_reducible refine New.drew ?_ | with_reducible refine New.drewN ?_ _ | with_reducible refine New.alloc ?_ _ | with_reducible refine New.setCell ?_ (by first | (simp; done) | (simp; omega) | omega) _ | with_reducible refine New.trans ?_ (by with_reducible assumption))))).mono ?_; rintro e w3 ⟨r3, rfl, b3, o3⟩
        have HR3 := Lib.hid (own_rdS o3); clear o3
        obtain ⟨c3, f3⟩ := b3.rules
        have z3 := b3.size
        try simp only [World.size_alloc, World.size_drew, World.heap_drewN, World.size_setCell] at z3
        have z3_0 : w.heap.size < w3.heap.size := by omega
        go_wp2_with fail
        refine (HN.out _ _ HR3.out (by repeat (first | with_reducible exact New.refl _ | with_reducible assumption | with_reducible refine New.drew ?_ | with_reducible refine New.drewN ?_ _ | with_reducible refine New.alloc ?_ _ | with_reducible refine New.setCell ?_ (by first | (simp; done) | (simp; omega) | omega) _ | with_reducible refine New.trans ?_ (by with_reducible assumption)))).mono ?_; rintro e w4 ⟨r4, rfl, b4, o4⟩
        obtain ⟨a4, k4, rfl⟩ := own_slice o4
        obtain ⟨c4, f4⟩ := b4.rules
        have z4 := b4.size
        try simp only [World.size_alloc, World.size_drew, World.heap_drewN, World.size_setCell] at z4
        have z4_0 : w.heap.size < w4.heap.size := by omega
        go_wp2_with fail
        refine (HIX.out _ _ (Rd.new HRD.out (b3.trans b4))).mono ?_; rintro e _ ⟨rfl, rfl⟩
        go_wp2_with fail
        exact retRC_none rfl (by repeat (first | with_reducible exact New.refl _ | with_reducible assumption | with_reducible refine New.drew ?_ | with_reducible refine New.drewN ?_ _ | with_reducible refine New.alloc ?_ _ | with_reducible refine New.setCell ?_ (by first | (simp; done) | (simp; omega) | omega) _ | with_reducible refine New.trans ?_ (by with_reducible assumption))) (by simp [results, Tryz.results8, go_sem, c4, f4, c3, f3, c2, f2, z2_0, z3_0, z4_0])
      · obtain ⟨m, rfl⟩ : ∃ m, M = m + 1 := ⟨M - 1, by
          rcases Nat.eq_zero_or_pos M with h0 | h0
          · subst h0
            exact absurd (hdb hM45) (fun h => by cases h)
          · omega⟩
        rw [headI, if_pos ⟨h3, by rw [hM]; omega⟩, show (midI L).toNat = m + 1 by rw [hM]; rfl]
        rw [hM] at HIX
        replace HIX := Lib.hid HIX
        obtain ⟨h0, h1, h2, rfl⟩ : ∃ x y z, hd = [x, y, z] := by
          match hd, h3 with
          | [x, y, z], _ => exact ⟨x, y, z, rfl⟩
        have HRS := Lib.hid (fun B => show blksI s.data.toList L [h0, h1, h2] (some B) = stepsI s.data.toList [h0, h1, h2] B (allF insI (L.drop (m + 2)) []) by rw [blksI, hM]; rfl)
        clear hdb h3 hM hM45 hL1 hn
        have hmn : m + 2 ≤ n := by have := HLN.out; omega
        have hI1 : ∀ k, k < m → k + 1 < L.length := fun k h => by have := HLN.out; omega
        have hI2 : ∀ k, k < n - (m + 2) → m + 2 + k < L.length := fun k h => by have := HLN.out; omega
        obtain ⟨X, hX⟩ : ∃ X, (L.take (m + 1)).drop 1 = X := ⟨_, rfl⟩
        obtain ⟨Y, hY⟩ : ∃ Y, L.drop (m + 2) = Y := ⟨_, rfl⟩
        rw [hX]
        rw [hY] at HRS
        have hXl : X.length = m := by have := HLN.out; rw [← hX]; simp; omega
        have HX0 := Lib.hid (fun (k : Nat) (h : k < m) => show X[k]? = some (L[k + 1]'(hI1 k h)) by have := HLN.out; rw [← hX, List.getElem?_drop, Nat.add_comm 1 k, List.getElem?_take, if_pos (by omega), List.getElem?_eq_getElem])
        have hYl : Y.length = n - (m + 2) := by have := HLN.out; rw [← hY]; simp; omega
        have HY0 := Lib.hid (fun (k : Nat) (h : k < n - (m + 2)) => show Y[k]? = some (L[m + 2 + k]'(hI2 k h)) by rw [← hY, List.getElem?_drop, List.getElem?_eq_getElem])
        clear hX hY
        obtain ⟨RB, hRB⟩ : ∃ R, allF blkI X [] = R := ⟨_, rfl⟩
        obtain ⟨RES, hRES⟩ : ∃ R, blksI s.data.toList L [h0, h1, h2] RB = R := ⟨_, rfl⟩
        rw [hRB, hRES]
        have HBS := Lib.hid (fun (k : Nat) (h : k < m) (B : List ETerm) (x : ETerm) (hx : blkI (L[k + 1]'(hI1 k h)) = some x) => show allF blkI (X.drop k) B = allF blkI (X.drop (k + 1)) (B ++ [x]) from allF_some' (HX0.out k h) hx)
        have HBN := Lib.hid (fun (k : Nat) (h : k < m) (B : List ETerm) (hx : blkI (L[k + 1]'(hI1 k h)) = none) => show allF blkI (X.drop k) B = none from allF_none' (HX0.out k h) hx)
        have HBE := Lib.hid (fun (B : List ETerm) => show allF blkI (X.drop m) B = some B by simp [← hXl, allF])
        have HSS := Lib.hid (fun (k : Nat) (h : k < n - (m + 2)) (S : List EInstruction) (x : EInstruction) (hx : insI (L[m + 2 + k]'(hI2 k h)) = some x) => show allF insI (Y.drop k) S = allF insI (Y.drop (k + 1)) (S ++ [x]) from allF_some' (HY0.out k h) hx)
        have HSN := Lib.hid (fun (k : Nat) (h : k < n - (m + 2)) (S : List EInstruction) (hx : insI (L[m + 2 + k]'(hI2 k h)) = none) => show allF insI (Y.drop k) S = none from allF_none' (HY0.out k h) hx)
        have HSE := Lib.hid (fun (S : List EInstruction) => show allF insI (Y.drop (n - (m + 2))) S = some S by simp [← hYl, allF])
        have HY1 := Lib.hid (show Y.drop 0 = Y by simp)
        have HX1 := Lib.hid (show X.drop 0 = X by simp)
        replace hRB := Lib.hid hRB
        replace hRES := Lib.hid hRES
        clear hXl hYl HX0 HY0
        replace hI1 := Lib.hid hI1
        replace hI2 := Lib.hid hI2
        simp only [List.length_cons, List.length_nil, List.map_cons, List.map_nil, Nat.zero_add] at HN
        go_enter Tryz.func8, Tryz.ntmps8
        go_wp2_with fail
        refine (HTS.out _).mono ?_; rintro e _ ⟨rfl, rfl⟩
        go_wp2_with fail
        refine (HSP1.out _ (HM.out.new (by repeat (first | with_reducible exact New.refl _ | with_reducible assumption | with_reducible refine New.drew ?_ | with_reducible refine New.drewN ?_ _ | with_reducible refine New.alloc ?_ _ | with_reducible refine New.setCell ?_ (by first | (simp; done) | (simp; omega) | omega) _ | with_reducible refine New.trans ?_ (by with_reducible assumption))))).mono ?_; rintro e w2 ⟨r1, rfl, b2, o2⟩
        have HRD := Lib.hid (own_rdS o2); obtain ⟨g, cap, rfl, hcap, hg, hx0, HX⟩ := lines_open HLN.out hL0 o2; clear o2
        obtain ⟨c2, f2⟩ := b2.rules
        have z2 := b2.size
        try simp only [World.size_alloc, World.size_drew, World.heap_drewN, World.size_setCell] at z2
        have z2_0 : w.heap.size < w2.heap.size := by omega
        go_wp2_with fail
        refine (HSP2.out _ (HM.out.new (by repeat (first | with_reducible exact New.refl _ | with_reducible assumption | with_reducible refine New.drew ?_ | with_reducible refine New.drewN ?_ _ | with_reducible refine New.alloc ?_ _ | with_reducible refine New.setCell ?_ (by first | (simp; done) | (simp; omega) | omega) _ | with_reducible refine New.trans ?_ (by with_reducible assumption))))).mono ?_; rintro e w3 ⟨r3, rfl, b3, o3⟩
        have HR3 := Lib.hid (own_rdS o3); clear o3
        obtain ⟨c3, f3⟩ := b3.rules
        have z3 := b3.size
        try simp only [World.size_alloc, World.size_drew, World.heap_drewN, World.size_setCell] at z3
        have z3_0 : w.heap.size < w3.heap.size := by omega
        go_wp2_with fail
        refine (HN.out _ _ HR3.out (by repeat (first | with_reducible exact New.refl _ | with_reducible assumption | with_reducible refine New.drew ?_ | with_reducible refine New.drewN ?_ _ | with_reducible refine New.alloc ?_ _ | with_reducible refine New.setCell ?_ (by first | (simp; done) | (simp; omega) | omega) _ | with_reducible refine New.trans ?_ (by with_reducible assumption)))).mono ?_; rintro e w4 ⟨r4, rfl, b4, o4⟩
        obtain ⟨a4, k4, rfl⟩ := own_slice o4
        obtain ⟨c4, f4⟩ := b4.rules
        have z4 := b4.size
        try simp only [World.size_alloc, World.size_drew, World.heap_drewN, World.size_setCell] at z4
        have z4_0 : w.heap.size < w4.heap.size := by omega
        go_wp2_with fail
        refine (HIX.out _ _ (Rd.new HRD.out (b3.trans b4))).mono ?_; rintro e _ ⟨rfl, rfl⟩
        obtain ⟨gh, kh, hev, hgh, k0, k1, k2⟩ := ints_open o4
        cases hev
        clear o4
        have N4 : New w w4 := by exact (by repeat (first | with_reducible exact New.refl _ | with_reducible assumption | with_reducible refine New.drew ?_ | with_reducible refine New.drewN ?_ _ | with_reducible refine New.alloc ?_ _ | with_reducible refine New.setCell ?_ (by first | (simp; done) | (simp; omega) | omega) _ | with_reducible refine New.trans ?_ (by with_reducible assumption)))
        have KR4 : Blk w4 w.heap.size #[.int .i64 0, .int .i64 0, .int .i64 0, .slice none 0 0, .slice none 0 0] 27 := (((Blk.alloc_at rfl).new b2).new b3).new b4
        have hw4 : w.heap.size < w4.heap.size := by omega
        have HX4 := Lib.hid (fun (wr : World) (hn : New w4 wr) => HX.out wr ((b3.trans b4).trans hn))
        have hg4 : g < w4.heap.size := by have := b3.size; have := b4.size; omega
        clear c2 f2 c3 f3 c4 f4 hx0 HX hg b2 b3 b4
        go_wp2_with fail
        refine RG.wp_facts [fun X _ => X = .slice (some ⟨gh, 0, none⟩) 3 k4, fun X _ => X = .pointer (some ⟨gh, 0, none⟩), fun X _ => X = .int .i64 h0, fun X _ => X = .slice (some ⟨gh, 0, none⟩) 3 k4, fun X _ => X = .pointer (some ⟨gh, 1, none⟩), fun X _ => X = .int .i64 h1, fun X _ => X = .slice (some ⟨gh, 0, none⟩) 3 k4, fun X _ => X = .pointer (some ⟨gh, 2, none⟩), fun X _ => X = .int .i64 h2, fun X _ => X = .agg #[.int .i64 h0, .int .i64 h1, .int .i64 h2, .slice none 0 0, .slice none 0 0], fun X W' => ∃ q, X = .pointer (some ⟨q, 0, none⟩) ∧ w4.heap.size ≤ q ∧ Blk W' q #[.int .i64 0, .int .i64 0, .int .i64 0, .slice none 0 0, .slice none 0 0] 27] (by kernel_rfl) (by kernel_rfl) ⟨RG.stable_eq _, RG.stable_eq _, RG.stable_eq _, RG.stable_eq _, RG.stable_eq _, RG.stable_eq _, RG.stable_eq _, RG.stable_eq _, RG.stable_eq _, RG.stable_eq _, fun X w0 w1 hn ⟨q4, t4, l4, o4⟩ => ⟨q4, t4, l4, o4.new hn⟩, trivial⟩ ?_ ?_
        · refine ⟨?_, ?_, ?_, ?_, ?_, ?_, ?_, ?_, ?_, ?_, ?_, trivial⟩
          · intro a w9 hw ho hk
            refine .inl ⟨by rfl, ?_⟩
            have t2 := ho 5 rfl
            dsimp at t2
            try with_reducible replace hw := New.undrawN hw
            try with_reducible replace hw := New.undraw hw
            obtain ⟨c, f'⟩ := hw.rules
            go_simp
            exact New.refl _
          · intro a w9 hw ho hk
            refine .inl ⟨by rfl, ?_⟩
            have t46 : a.tmps[46]?.getD undef = .slice (some ⟨gh, 0, none⟩) 3 k4 := hk 0 46 (by kernel_rfl) rfl
            go_simp
            exact New.refl _
          · intro a w9 hw ho hk
            refine .inl ⟨by rfl, ?_⟩
            have t47 : a.tmps[47]?.getD undef = .pointer (some ⟨gh, 0, none⟩) := hk 1 47 (by kernel_rfl) rfl
            try with_reducible replace hw := New.undrawN hw
            try with_reducible replace hw := New.undraw hw
            obtain ⟨c, f'⟩ := hw.rules
            go_simp
            exact New.refl _
          · intro a w9 hw ho hk
            refine .inl ⟨by rfl, ?_⟩
            have t2 := ho 5 rfl
            dsimp at t2
            try with_reducible replace hw := New.undrawN hw
            try with_reducible replace hw := New.undraw hw
            obtain ⟨c, f'⟩ := hw.rules
            go_simp
            exact New.refl _
          · intro a w9 hw ho hk
            refine .inl ⟨by rfl, ?_⟩
            have t49 : a.tmps[49]?.getD undef = .slice (some ⟨gh, 0, none⟩) 3 k4 := hk 3 49 (by kernel_rfl) rfl
            go_simp
            exact New.refl _
          · intro a w9 hw ho hk
            refine .inl ⟨by rfl, ?_⟩
            have t50 : a.tmps[50]?.getD undef = .pointer (some ⟨gh, 1, none⟩) := hk 4 50 (by kernel_rfl) rfl
            try with_reducible replace hw := New.undrawN hw
            try with_reducible replace hw := New.undraw hw
            obtain ⟨c, f'⟩ := hw.rules
            go_simp
            exact New.refl _
          · intro a w9 hw ho hk
            refine .inl ⟨by rfl, ?_⟩
            have t2 := ho 5 rfl
            dsimp at t2
            try with_reducible replace hw := New.undrawN hw
            try with_reducible replace hw := New.undraw hw
            obtain ⟨c, f'⟩ := hw.rules
            go_simp
            exact New.refl _
          · intro a w9 hw ho hk
            refine .inl ⟨by rfl, ?_⟩
            have t52 : a.tmps[52]?.getD undef = .slice (some ⟨gh, 0, none⟩) 3 k4 := hk 6 52 (by kernel_rfl) rfl
            go_simp
            exact New.refl _
          · intro a w9 hw ho hk
            refine .inl ⟨by rfl, ?_⟩
            have t53 : a.tmps[53]?.getD undef = .pointer (some ⟨gh, 2, none⟩) := hk 7 53 (by kernel_rfl) rfl
            try with_reducible replace hw := New.undrawN hw
            try with_reducible replace hw := New.undraw hw
            obtain ⟨c, f'⟩ := hw.rules
            go_simp
            exact New.refl _
          · intro a w9 hw ho hk
            refine .inl ⟨by rfl, ?_⟩
            have t48 : a.tmps[48]?.getD undef = .int .i64 h0 := hk 2 48 (by kernel_rfl) rfl
            have t51 : a.tmps[51]?.getD undef = .int .i64 h1 := hk 5 51 (by kernel_rfl) rfl
            have t54 : a.tmps[54]?.getD undef = .int .i64 h2 := hk 8 54 (by kernel_rfl) rfl
            go_simp
            exact New.refl _
          · intro a w9 hw ho hk
            refine .inl ⟨by rfl, ?_⟩
            have hws := hw.size; go_simp; first | exact ⟨(New.refl _).alloc _, _, rfl, _, rfl, hws, Blk.alloc_at rfl⟩ | exact ⟨(New.refl _).alloc _, _, by simp, hws, Blk.alloc_at rfl⟩
        intro w6 b6
        rintro _ rfl _ rfl _ rfl _ rfl _ rfl _ rfl _ rfl _ rfl _ rfl _ rfl _ ⟨O, rfl, hO, KO⟩
        obtain ⟨cO, fO⟩ := KO.rules
        have hO2 := KO.lt
        have hne : w.heap.size ≠ O := by omega
        have hne' : O ≠ w.heap.size := by omega
        have K7 := KO.setD5 (.int .i64 h0) (.int .i64 h1) (.int .i64 h2) (.slice none 0 0) (.slice none 0 0)
        have N7 : New w4 _ := New.setD5 b6 hO (.int .i64 h0) (.int .i64 h1) (.int .i64 h2) (.slice none 0 0) (.slice none 0 0)
        clear k0 k1 k2
        have KR7 := (KR4.new b6).setD5_ne hne (.int .i64 h0) (.int .i64 h1) (.int .i64 h2) (.slice none 0 0) (.slice none 0 0)
        simp only [RG.EndAll, List.nil_append, List.cons_append, List.length_cons, List.length_nil, Nat.zero_add, Nat.reduceAdd, List.take_succ_cons, List.take_zero, List.drop_succ_cons, List.drop_zero, RG.putAll, Act.put, List.setIfInBounds_toArray, List.set_cons_succ, List.set_cons_zero]
        go_wp2_with fail
        clear cO fO KO KR7 HN HIX
        have hwO : w.heap.size ≤ O := by omega
        have HKW := Lib.hid (blk_kw HK.out)
        have hz4 : w.heap.size ≤ w4.heap.size := by omega
        go_loopw [60] (fun i wr => ∃ (k : Nat) (B : List ETerm) (pa : Option Addr) (pc : Nat), k ≤ m ∧ i = .int .i64 (k : Int) ∧ Hid (allF blkI (X.drop k) B = RB) ∧ B.length ≤ k ∧ Hid (∀ x ∈ B, fitTerm x) ∧ New w4 wr ∧ Blk wr O #[.int .i64 h0, .int .i64 h1, .int .i64 h2, .slice pa B.length pc, .slice none 0 0] 27 ∧
          Hid (wr.ownsRow w4.heap.size 66 3 (.slice pa B.length pc) B.length (B.flatMap encTerm))) (fun i _ => m - (intOf i).toNat)
        case atStart => exact ⟨0, [], none, 0, Nat.zero_le _, rfl, by rw [HX1.out]; exact hRB, Nat.le_refl _, Lib.hid (fun x hx => by cases hx), N7, K7, Lib.hid ⟨rfl, .inl ⟨rfl, rfl⟩⟩⟩
        case round =>
          obtain ⟨k, B, pa, pc, hk, rfl, hA, hBl, hfB, hb, KB, OB⟩ := hrel
          clear K7 N7 hRB
          have KR := KR4.new hb
          obtain ⟨cR, fR⟩ := KR.rules
          obtain ⟨cB, fB⟩ := KB.rules
          have hwr : w.heap.size < wr.heap.size := KR.lt
          have hOr := KB.lt
          have hbz := hb.size
          have hgr : g < wr.heap.size := by omega
          by_cases hlt : k < m
          · have hx := HX4.out wr hb (k + 1) (hI1.out k hlt)
            have hyl := HML.out (k + 1) (hI1.out k hlt)
            have hS := HBS.out k hlt B
            have hN := HBN.out k hlt B
            generalize L[k + 1]'(hI1.out k hlt) = y at *
            have hxx : wr.cell? ⟨g, 1 + k, none⟩ = some (.string (strL y)) := by rw [Nat.add_comm]; exact hx
            have HPY := HPO.out y hyl
            have hno : (rdN (Lib.cut y [32]).2.1).2 = false ∨ isBlkW (strL (Lib.cut y [32]).1) = false → RB = none := fun h => hA.out.symm.trans (hN (blkI_no h))
            have hyes : (rdN (Lib.cut y [32]).2.1).2 = true → isBlkW (strL (Lib.cut y [32]).1) = true → allF blkI (X.drop (k + 1)) (B ++ [⟨keyOf (strL (Lib.cut y [32]).1) - 4, ⟨#[]⟩, (rdN (Lib.cut y [32]).2.1).1⟩]) = RB := fun h1 h2 => (hS _ (blkI_ok h1 h2)).symm.trans hA.out
            clear hS hN hx
            generalize strL (Lib.cut y [32]).1 = WD at *
            generalize rdN (Lib.cut y [32]).2.1 = NV at *
            generalize strL y = Y9 at *
            obtain ⟨n1, ok⟩ := NV
            dsimp only at hno hyes HPY
            replace HPY := Lib.hid HPY
            cases ok with
            | false =>
              have hRN := hno (.inl rfl)
              subst hRN
              have hRR : RES = none := hRES.out.symm
              subst hRR
              clear hno hyes
              go_wp2_with fail
              refine (HPY.out _ (by repeat (first | with_reducible exact New.refl _ | with_reducible assumption | with_reducible refine New.drew ?_ | with_reducible refine New.drewN ?_ _ | with_reducible refine New.alloc ?_ _ | with_reducible refine New.setCell ?_ (by first | (simp; done) | (simp; omega) | omega) _ | with_reducible refine New.trans ?_ (by with_reducible assumption)))).mono ?_
              rintro e w8 ⟨rfl, b8⟩
              obtain ⟨c8, f8⟩ := (KR.new b8).rules
              have hw8 := (KR.new b8).lt
              have N8 := (N4.trans hb).trans b8
              clear cR fR
              go_wp2_with fail
              exact retRC_none rfl (New.setD5 N8 (Nat.le_refl _) _ _ _ _ _) (by simp [results, Tryz.results8, go_sem, c8, f8, hw8, hne, hne'])
            | true =>
              have HQW := Lib.hid (fun (w0 : World) (n0 : New w w0) => HQ.out WD w0 n0)
              rcases Bool.eq_false_or_eq_true (isBlkW WD) with hW | hW
              · have HNX := Lib.hid (hyes rfl hW)
                obtain ⟨q, hq0, hq5, hqi, hqk⟩ := blk_idx hW
                rw [hW] at HQW
                have HIW := fun (v : Value) (w0 : World) (h : RdS w0 v (keys.drop 11)) => indexS_any WD v (keys.drop 11) w0 h
                rw [hqi] at HIW
                replace HIW := Lib.hid HIW
                replace hqk := Lib.hid hqk
                clear hno hyes hqi hW
                have e1 : IntKind.i64.wrap (7 + q) = 7 + q := i64_in' _ (by omega) (by omega)
                go_wp2_with fail
                refine (HPY.out _ (by repeat (first | with_reducible exact New.refl _ | with_reducible assumption | with_reducible refine New.drew ?_ | with_reducible refine New.drewN ?_ _ | with_reducible refine New.alloc ?_ _ | with_reducible refine New.setCell ?_ (by first | (simp; done) | (simp; omega) | omega) _ | with_reducible refine New.trans ?_ (by with_reducible assumption)))).mono ?_
                rintro e w8 ⟨rfl, b8⟩
                have K8 := KB.new b8
                have own8 := own_new OB.out b8
                have N8 := hb.trans b8
                have z8 := N8.size
                obtain ⟨c8, f8⟩ := K8.rules
                have hO8 := K8.lt
                clear cB fB cR fR
                go_wp2_with fail
                refine (HQW.out _ (by repeat (first | with_reducible exact New.refl _ | with_reducible assumption | with_reducible refine New.drew ?_ | with_reducible refine New.drewN ?_ _ | with_reducible refine New.alloc ?_ _ | with_reducible refine New.setCell ?_ (by first | (simp; done) | (simp; omega) | omega) _ | with_reducible refine New.trans ?_ (by with_reducible assumption)))).mono ?_
                rintro e _ ⟨rfl, rfl⟩
                go_wp2_with fail
                obtain ⟨i0, hi, hz0, hz1, hz2⟩ := info_parts infoTerm
                go_region_law (first | (go_simp; go_at_call 28; refine (HIW.out _ _ (Rd.new HKW.out (by repeat (first | with_reducible exact New.refl _ | with_reducible assumption | with_reducible refine New.drew ?_ | with_reducible refine New.drewN ?_ _ | with_reducible refine New.alloc ?_ _ | with_reducible refine New.setCell ?_ (by first | (simp; done) | (simp; omega) | omega) _ | with_reducible refine New.trans ?_ (by with_reducible assumption))))).mono ?_; rintro e w5 ⟨rfl, rfl⟩) | (refine step_append_lies _ (by rfl) _ _ _ (by rfl) w4.heap.size 66 i0 (Value.agg #[.int .i64 0, .string ⟨#[]⟩, .int .i64 0]) 3 32 Tryz.underlying24 hi hz0 hz1 hz2 rfl (by decide) _ B.length _ (by rfl) (own_new own8 (by repeat (first | with_reducible exact New.refl _ | with_reducible assumption | with_reducible refine New.drew ?_ | with_reducible refine New.drewN ?_ _ | with_reducible refine New.alloc ?_ _ | with_reducible refine New.setCell ?_ (by first | (simp; done) | (simp; omega) | omega) _ | with_reducible refine New.trans ?_ (by with_reducible assumption)))) _ 1 _ [.int .i64 (7 + q), .string ⟨#[]⟩, .int .i64 n1] (by rfl) (by simp) (fun j u hj => alloc_row (by first | rfl | simp) j u hj) (by simp [Value.oneCell']) (by omega) (by unfold maxLen; omega) (by omega) (by first | omega | (simp; omega)) _ rfl ?_; intro g5 cap5 wa howna hgra hat hlt5; have K9 := Blk.grown (K8.new (by repeat (first | with_reducible exact New.refl _ | with_reducible assumption | with_reducible refine New.drew ?_ | with_reducible refine New.drewN ?_ _ | with_reducible refine New.alloc ?_ _ | with_reducible refine New.setCell ?_ (by first | (simp; done) | (simp; omega) | omega) _ | with_reducible refine New.trans ?_ (by with_reducible assumption)))) hgra (blk_ne_ownK (K8.new (by repeat (first | with_reducible exact New.refl _ | with_reducible assumption | with_reducible refine New.drew ?_ | with_reducible refine New.drewN ?_ _ | with_reducible refine New.alloc ?_ _ | with_reducible refine New.setCell ?_ (by first | (simp; done) | (simp; omega) | omega) _ | with_reducible refine New.trans ?_ (by with_reducible assumption)))) (own_new own8 (by repeat (first | with_reducible exact New.refl _ | with_reducible assumption | with_reducible refine New.drew ?_ | with_reducible refine New.drewN ?_ _ | with_reducible refine New.alloc ?_ _ | with_reducible refine New.setCell ?_ (by first | (simp; done) | (simp; omega) | omega) _ | with_reducible refine New.trans ?_ (by with_reducible assumption)))) (by decide)); obtain ⟨c9, f9⟩ := K9.rules))
                all_goals
                  have ba : New w4 wa := New.grown (show New w4 _ from by exact (by repeat (first | with_reducible exact New.refl _ | with_reducible assumption | with_reducible refine New.drew ?_ | with_reducible refine New.drewN ?_ _ | with_reducible refine New.alloc ?_ _ | with_reducible refine New.setCell ?_ (by first | (simp; done) | (simp; omega) | omega) _ | with_reducible refine New.trans ?_ (by with_reducible assumption)))) hgra (fun q hq => (own_block_lt own8 q hq).1)
                  have K10 := K9.set 3 (.slice (some ⟨g5, 0, none⟩) (B.length + 1) cap5)
                  simp only [List.setIfInBounds_toArray, List.set_cons_succ, List.set_cons_zero] at K10
                  have own10 := own_setK howna (blk_ne_ownK K9 howna (by decide)) (o := 3) (.slice (some ⟨g5, 0, none⟩) (B.length + 1) cap5)
                  have n10 := ba.setCell (p := ⟨O, 3, none⟩) hO (.slice (some ⟨g5, 0, none⟩) (B.length + 1) cap5)
                  go_wp2_with fail
                  go_roundw
                  case rel => exact ⟨k + 1, B ++ [⟨keyOf WD - 4, ⟨#[]⟩, n1⟩], _, _, by omega, by go_num, HNX, by simp; omega, Lib.hid (fun x hx => by rcases List.mem_append.1 hx with hx | hx; exact hfB.out x hx; obtain rfl := List.mem_singleton.1 hx; show (0 : Nat) ≤ 1048576; omega), n10, by simpa using K10, Lib.hid (by rw [List.length_append, List.length_singleton, flatT_appR, hqk.out]; exact own10)⟩
                  case measure => simp [intOf]; omega
              · have hRN := hno (.inr hW)
                subst hRN
                have hRR : RES = none := hRES.out.symm
                subst hRR
                rw [hW] at HQW
                clear hno hyes hW
                go_wp2_with fail
                refine (HPY.out _ (by repeat (first | with_reducible exact New.refl _ | with_reducible assumption | with_reducible refine New.drew ?_ | with_reducible refine New.drewN ?_ _ | with_reducible refine New.alloc ?_ _ | with_reducible refine New.setCell ?_ (by first | (simp; done) | (simp; omega) | omega) _ | with_reducible refine New.trans ?_ (by with_reducible assumption)))).mono ?_
                rintro e w8 ⟨rfl, b8⟩
                obtain ⟨c8, f8⟩ := (KR.new b8).rules
                have hw8 := (KR.new b8).lt
                have N8 := (N4.trans hb).trans b8
                clear cR fR
                go_wp2_with fail
                refine (HQW.out _ (by repeat (first | with_reducible exact New.refl _ | with_reducible assumption | with_reducible refine New.drew ?_ | with_reducible refine New.drewN ?_ _ | with_reducible refine New.alloc ?_ _ | with_reducible refine New.setCell ?_ (by first | (simp; done) | (simp; omega) | omega) _ | with_reducible refine New.trans ?_ (by with_reducible assumption)))).mono ?_
                rintro e _ ⟨rfl, rfl⟩
                go_wp2_with fail
                exact retRC_none rfl (New.setD5 N8 (Nat.le_refl _) _ _ _ _ _) (by simp [results, Tryz.results8, go_sem, c8, f8, hw8, hne, hne'])
          · obtain rfl : k = m := by omega
            have hRBs : some B = RB := by rw [← hA.out]; exact (HBE.out B).symm
            subst hRBs
            have hRF0 := hRES.out
            rw [HRS.out B] at hRF0
            obtain ⟨RS, hRS⟩ : ∃ R, allF insI Y [] = R := ⟨_, rfl⟩
            rw [hRS] at hRF0
            replace hRS := Lib.hid hRS
            replace hRF0 := Lib.hid hRF0
            clear hRES hA HBS HBN HBE HRS
            by_cases hcp : cap = k + 2
            · have hYe : n - (k + 2) = 0 := by omega
              have hRSs : some [] = RS := by
                rw [← hRS.out, ← HSE.out [], hYe, HY1.out]
              subst hRSs
              have hRF : Hid (RES = finI s.data.toList ⟨h0, h1, h2, B, []⟩) := Lib.hid hRF0.out.symm
              clear hRF0 HSS HSN HSE hRS
              subst hcp
              have hn2 : n = k + 2 := by omega
              subst hn2
              clear cR fR cB fB
              go_wp2_with fail
              refine wp_loop_rounds 1 ?_
              rw [rounds_succ]
              have HBF := hb
              have KF := KB
              have OS : Hid (wr.ownsRow w4.heap.size 70 2 (.slice none 0 0) 0 []) := Lib.hid ⟨rfl, .inl ⟨rfl, rfl⟩⟩
              have KRF : Blk wr w.heap.size #[.int .i64 0, .int .i64 0, .int .i64 0, .slice none 0 0, .slice none 0 0] 27 := KR
              obtain ⟨cR, fR⟩ := KRF.rules
              obtain ⟨cO, fO⟩ := KF.rules
              have hwr : w.heap.size < wr.heap.size := KRF.lt
              have hOr := KF.lt
              have HIC := Lib.hid (fun (w0 : World) (a1 a2 : Value) (r1 : RdT w0 a1 B) (r2 : RdN w0 a2 []) (n : New w w0) => iIsCode_any ⟨h0, h1, h2, B, []⟩ a1 a2 w0 r1 r2 hfB.out (HK.out.new n))
              have NF : New w wr := N4.trans HBF
              rcases Bool.eq_false_or_eq_true (isCodeB ⟨h0, h1, h2, B, []⟩) with hC | hC
              · have HCT := Lib.hid (fun (w0 : World) (a1 a2 : Value) (r1 : RdT w0 a1 B) (r2 : RdN w0 a2 []) (n : New w w0) => iCodeT_any ⟨h0, h1, h2, B, []⟩ a1 a2 w0 r1 r2 hC (HK.out.new n) (HP.out.new n))
                have hcm := strL_cmp (ctext ⟨h0, h1, h2, B, []⟩) s
                have hFI : RES = if (ctext ⟨h0, h1, h2, B, []⟩ == s.data.toList) = true then some ⟨h0, h1, h2, B, []⟩ else none := by
                  rw [hRF.out, finI]; simp [hC]
                rw [hC] at HIC
                unfold ctext at hcm hFI
                dsimp only at HCT hcm hFI
                generalize ctS ⟨h0, h1, h2, B, []⟩ ([] : List EInstruction).length = TX at *
                clear hC
                rcases Bool.eq_false_or_eq_true (TX == s.data.toList) with hE | hE
                · have hRN : RES = some ⟨h0, h1, h2, B, []⟩ := by rw [hFI, if_pos hE]
                  subst hRN
                  clear hFI hRF
                  rw [hE] at hcm
                  clear hE
                  generalize strL TX = tx at *
                  go_wp2_with fail
                  refine (HIC.out _ _ _ (own_rd OB.out) (own_rd OS.out) NF).mono ?_
                  rintro e wx ⟨rfl, bx⟩
                  have NX := NF.trans bx
                  have KX := KF.new bx
                  have KRX := KRF.new bx
                  clear cR fR cO fO
                  obtain ⟨cX, fX⟩ := KX.rules
                  go_wp2_with fail
                  refine (HCT.out _ _ _ (own_rd (own_new OB.out bx)) (own_rd (own_new OS.out bx)) NX).mono ?_
                  rintro e wy ⟨rfl, by'⟩
                  have NY := NX.trans by'
                  have KY := KX.new by'
                  have KRY := KRX.new by'
                  have PB := own_new OB.out (bx.trans by')
                  have PS := own_new OS.out (bx.trans by')
                  clear cX fX
                  obtain ⟨cY, fY⟩ := KY.rules
                  obtain ⟨dY, gY⟩ := KRY.rules
                  have hwy := KRY.lt
                  have hOy := KY.lt
                  go_wp2_with fail
                  refine bodyPost_ret (v := .tuple #[valC ⟨h0, h1, h2, B, []⟩ (.slice pa B.length pc) (.slice none 0 0), .bool true]) (by simp [results, Tryz.results8, go_sem, cY, fY, dY, gY, hwy, hOy, hne, hne']) rfl ?_
                  refine ⟨_, _, rfl, New.setD5 NY (Nat.le_refl _) _ _ _ _ _, ?_, ?_⟩
                  · refine own_base (base := w4.heap.size) ?_ (by omega)
                    repeat (apply ownsRow_setCell_below)
                    exact PB
                    all_goals (dsimp; omega)
                  · refine own_base (base := w4.heap.size) ?_ (by omega)
                    repeat (apply ownsRow_setCell_below)
                    exact PS
                    all_goals (dsimp; omega)
                · have hRN : RES = none := by rw [hFI, if_neg (by simp [hE])]
                  subst hRN
                  clear hFI hRF
                  rw [hE] at hcm
                  clear hE
                  generalize strL TX = tx at *
                  go_wp2_with fail
                  refine (HIC.out _ _ _ (own_rd OB.out) (own_rd OS.out) NF).mono ?_
                  rintro e wx ⟨rfl, bx⟩
                  have NX := NF.trans bx
                  have KX := KF.new bx
                  have KRX := KRF.new bx
                  clear cR fR cO fO
                  obtain ⟨cX, fX⟩ := KX.rules
                  go_wp2_with fail
                  refine (HCT.out _ _ _ (own_rd (own_new OB.out bx)) (own_rd (own_new OS.out bx)) NX).mono ?_
                  rintro e wy ⟨rfl, by'⟩
                  have NY := NX.trans by'
                  have KY := KX.new by'
                  have KRY := KRX.new by'
                  clear cX fX
                  obtain ⟨dY, gY⟩ := KRY.rules
                  have hwy := KRY.lt
                  go_wp2_with fail
                  exact retRC_none rfl (New.setD5 NY (Nat.le_refl _) _ _ _ _ _) (by simp [results, Tryz.results8, go_sem, dY, gY, hwy, hne, hne'])
              · have hRN : RES = none := by rw [hRF.out, finI, if_neg (by simp [hC])]
                subst hRN
                clear hRF
                rw [hC] at HIC
                clear hC
                go_wp2_with fail
                refine (HIC.out _ _ _ (own_rd OB.out) (own_rd OS.out) NF).mono ?_
                rintro e wx ⟨rfl, bx⟩
                have NX := NF.trans bx
                have KRX := KRF.new bx
                clear cR fR cO fO
                obtain ⟨dY, gY⟩ := KRX.rules
                have hwy := KRX.lt
                go_wp2_with fail
                exact retRC_none rfl (New.setD5 NX (Nat.le_refl _) _ _ _ _ _) (by simp [results, Tryz.results8, go_sem, dY, gY, hwy, hne, hne'])
            · have hcp2 : k + 2 < cap := by omega
              go_wp2_with fail
              go_loopw [95] (fun i wr2 => ∃ (j : Nat) (S : List EInstruction) (qa : Option Addr) (qc : Nat), j ≤ n - (k + 2) ∧ i = .int .i64 (j : Int) ∧ Hid (allF insI (Y.drop j) S = RS) ∧ S.length ≤ j ∧ New w4 wr2 ∧ Blk wr2 O #[.int .i64 h0, .int .i64 h1, .int .i64 h2, .slice pa B.length pc, .slice qa S.length qc] 27 ∧
                Hid (wr2.ownsRow w4.heap.size 66 3 (.slice pa B.length pc) B.length (B.flatMap encTerm)) ∧ Hid (wr2.ownsRow w4.heap.size 70 2 (.slice qa S.length qc) S.length (S.flatMap encInstruction))) (fun i _ => n - (k + 2) - (intOf i).toNat)
              case atStart => exact ⟨0, [], none, 0, Nat.zero_le _, rfl, by rw [HY1.out]; exact hRS, Nat.le_refl _, hb, KB, OB, Lib.hid ⟨rfl, .inl ⟨rfl, rfl⟩⟩⟩
              case round =>
                obtain ⟨j, S, qa, qc, hj, rfl, hA, hSl, hb2, KF, OB2, OS⟩ := hrel
                clear hRS cR fR cB fB KB OB
                have KR2 := KR4.new hb2
                obtain ⟨cR, fR⟩ := KR2.rules
                obtain ⟨cB, fB⟩ := KF.rules
                have hwr2 := KR2.lt
                have hOr2 := KF.lt
                have hbz2 := hb2.size
                rename World => wr2
                have hgr2 : g < wr2.heap.size := by omega
                by_cases hlj : j < n - (k + 2)
                · have hx := HX4.out wr2 hb2 (k + 2 + j) (hI2.out j hlj)
                  have hyl := HML.out (k + 2 + j) (hI2.out j hlj)
                  have hS := HSS.out j hlj S
                  have hN := HSN.out j hlj S
                  generalize L[k + 2 + j]'(hI2.out j hlj) = y at *
                  have hxx : wr2.cell? ⟨g, k + 1 + 1 + j, none⟩ = some (.string (strL y)) := hx
                  have HPY := HPO.out y hyl
                  have HRD := Lib.hid (fun (w0 : World) (n0 : New w w0) => (by
                    have h1 := iReadNumber_any (strL (Lib.cut y [32]).1) w0 (by rw [strL_size]; have := cut_len1 y; omega) (HP.out.new n0) (HE.out.new n0)
                    rw [strL_list] at h1; exact h1 : Calls Tryz.prog 31 #[.string (strL (Lib.cut y [32]).1)] w0 fun e w' => e = .returned (.tuple #[.int .i64 (rdN (Lib.cut y [32]).1).1, .bool (rdN (Lib.cut y [32]).1).2]) ∧ New w0 w'))
                  have hno : (rdN (Lib.cut y [32]).2.1).2 = false ∨ (rdN (Lib.cut y [32]).1).2 = false → RS = none := fun h => hA.out.symm.trans (hN (insI_no h))
                  have hyes : (rdN (Lib.cut y [32]).2.1).2 = true → (rdN (Lib.cut y [32]).1).2 = true → allF insI (Y.drop (j + 1)) (S ++ [⟨(rdN (Lib.cut y [32]).1).1, (rdN (Lib.cut y [32]).2.1).1⟩]) = RS := fun h1 h2 => (hS _ (insI_yes h1 h2)).symm.trans hA.out
                  clear hS hN hx
                  generalize strL (Lib.cut y [32]).1 = WD at *
                  generalize rdN (Lib.cut y [32]).2.1 = NV at *
                  generalize rdN (Lib.cut y [32]).1 = NW at *
                  generalize strL y = Y9 at *
                  obtain ⟨n1, ok⟩ := NV
                  obtain ⟨n2, ok2⟩ := NW
                  dsimp only at hno hyes HPY HRD
                  replace HPY := Lib.hid HPY
                  by_cases hgo : ok = true ∧ ok2 = true
                  · obtain ⟨rfl, rfl⟩ := hgo
                    have HNX := Lib.hid (hyes rfl rfl)
                    clear hno hyes
                    go_wp2_with fail
                    refine (HPY.out _ (by repeat (first | with_reducible exact New.refl _ | with_reducible assumption | with_reducible refine New.drew ?_ | with_reducible refine New.drewN ?_ _ | with_reducible refine New.alloc ?_ _ | with_reducible refine New.setCell ?_ (by first | (simp; done) | (simp; omega) | omega) _ | with_reducible refine New.trans ?_ (by with_reducible assumption)))).mono ?_
                    rintro e w8 ⟨rfl, b8⟩
                    go_wp2_with fail
                    refine (HRD.out _ (by repeat (first | with_reducible exact New.refl _ | with_reducible assumption | with_reducible refine New.drew ?_ | with_reducible refine New.drewN ?_ _ | with_reducible refine New.alloc ?_ _ | with_reducible refine New.setCell ?_ (by first | (simp; done) | (simp; omega) | omega) _ | with_reducible refine New.trans ?_ (by with_reducible assumption)))).mono ?_
                    rintro e w9 ⟨rfl, b9⟩
                    have K9 := (KF.new b8).new b9
                    have own9 := own_new (own_new OS.out b8) b9
                    have ownB9 := own_new (own_new OB2.out b8) b9
                    have N9 := (hb2.trans b8).trans b9
                    have z9 := N9.size
                    obtain ⟨c9, f9⟩ := K9.rules
                    have hO9 := K9.lt
                    clear cB fB cR fR
                    obtain ⟨i0, hi, hz0, hz1, hz2⟩ := info_parts infoInstruction
                    go_wp2_with (first | (at_builtin; refine wpList_append_own _ rfl _ _ 25 rfl (w4.heap.size) 70 i0 (Value.agg #[.int .i64 0, .int .i64 0]) 2 16 Tryz.underlying25 hi hz0 hz1 hz2 rfl (by decide) _ _ _ rfl (own9.alloc _) ⟨w9.heap.size, 0, none⟩ 1 1 [.int .i64 n2, .int .i64 n1] rfl rfl (fun j u hj => alloc_row (by first | rfl | simp) j u hj) (by intro u hu; simp at hu; rcases hu with rfl | rfl <;> rfl) (by unfold maxLen; omega) (by omega) (by first | (simp; done) | (simp; omega) | omega) ?_; intro va wa howna hgra _; have K10 := (K9.alloc _).grown hgra (blk_ne_ownK K9 own9 (by decide)); obtain ⟨c10, f10⟩ := K10.rules; have hO10 := K10.lt; obtain ⟨ya, yc, rfl⟩ := own_slice howna))
                    have o3 := own_grK (ownB9.alloc _) hgra (fun i j hi hj => own_ne_ownK own9 ownB9 (by decide) i j hi hj)
                    have n3 := New.grown (N9.alloc _) hgra (fun k hk => (own_block_lt own9 k hk).1)
                    have K6 := K10.set 4 (.slice ya (S.length + 1) yc)
                    simp only [List.setIfInBounds_toArray, List.set_cons_succ, List.set_cons_zero] at K6
                    have hq1 := blk_ne_ownK K10 howna (by decide)
                    have hq2 := blk_ne_ownK K10 o3 (by decide)
                    go_roundw
                    case rel => exact ⟨j + 1, S ++ [⟨n2, n1⟩], ya, yc, by omega, by go_num, HNX, by simp; omega, n3.setCell (p := ⟨O, 4, none⟩) hO _, by rw [List.length_append, List.length_singleton]; exact K6, Lib.hid (own_setK o3 hq2 _), Lib.hid (by rw [List.length_append, List.length_singleton, flatI_appR]; exact own_setK howna hq1 _)⟩
                    case measure => simp [intOf]; omega
                  · have hRN := hno (by cases ok <;> cases ok2 <;> simp_all)
                    subst hRN
                    have hRR : RES = none := hRF0.out.symm
                    subst hRR
                    clear hno hyes
                    have hgo2 : ok = false ∨ (ok = true ∧ ok2 = false) := by cases ok <;> cases ok2 <;> simp_all
                    clear hgo
                    rcases hgo2 with rfl | ⟨rfl, rfl⟩
                    all_goals
                      go_wp2_with fail
                      refine (HPY.out _ (by repeat (first | with_reducible exact New.refl _ | with_reducible assumption | with_reducible refine New.drew ?_ | with_reducible refine New.drewN ?_ _ | with_reducible refine New.alloc ?_ _ | with_reducible refine New.setCell ?_ (by first | (simp; done) | (simp; omega) | omega) _ | with_reducible refine New.trans ?_ (by with_reducible assumption)))).mono ?_
                      rintro e w8 ⟨rfl, b8⟩
                      go_wp2_with fail
                      refine (HRD.out _ (by repeat (first | with_reducible exact New.refl _ | with_reducible assumption | with_reducible refine New.drew ?_ | with_reducible refine New.drewN ?_ _ | with_reducible refine New.alloc ?_ _ | with_reducible refine New.setCell ?_ (by first | (simp; done) | (simp; omega) | omega) _ | with_reducible refine New.trans ?_ (by with_reducible assumption)))).mono ?_
                      rintro e w9 ⟨rfl, b9⟩
                      obtain ⟨c8, f8⟩ := ((KR2.new b8).new b9).rules
                      have hw8 := ((KR2.new b8).new b9).lt
                      have N8 := ((N4.trans hb2).trans b8).trans b9
                      clear cR fR cB fB
                      go_wp2_with fail
                      exact retRC_none rfl (New.setD5 N8 (Nat.le_refl _) _ _ _ _ _) (by simp [results, Tryz.results8, go_sem, c8, f8, hw8, hne, hne'])
                · obtain rfl : j = n - (k + 2) := by omega
                  have hRSs : some S = RS := by rw [← hA.out]; exact (HSE.out S).symm
                  subst hRSs
                  have hRF : Hid (RES = finI s.data.toList ⟨h0, h1, h2, B, S⟩) := Lib.hid hRF0.out.symm
                  clear hRF0 HSS HSN HSE hA cR fR cB fB KR hwr hOr hbz hb hgr
                  have HBF := hb2
                  have OB := OB2
                  have KRF : Blk wr2 w.heap.size #[.int .i64 0, .int .i64 0, .int .i64 0, .slice none 0 0, .slice none 0 0] 27 := KR2
                  obtain ⟨cR, fR⟩ := KRF.rules
                  obtain ⟨cO, fO⟩ := KF.rules
                  have hwr : w.heap.size < wr2.heap.size := KRF.lt
                  have hOr := KF.lt
                  have HIC := Lib.hid (fun (w0 : World) (a1 a2 : Value) (r1 : RdT w0 a1 B) (r2 : RdN w0 a2 S) (n : New w w0) => iIsCode_any ⟨h0, h1, h2, B, S⟩ a1 a2 w0 r1 r2 hfB.out (HK.out.new n))
                  have NF : New w wr2 := N4.trans HBF
                  rcases Bool.eq_false_or_eq_true (isCodeB ⟨h0, h1, h2, B, S⟩) with hC | hC
                  · have HCT := Lib.hid (fun (w0 : World) (a1 a2 : Value) (r1 : RdT w0 a1 B) (r2 : RdN w0 a2 S) (n : New w w0) => iCodeT_any ⟨h0, h1, h2, B, S⟩ a1 a2 w0 r1 r2 hC (HK.out.new n) (HP.out.new n))
                    have hcm := strL_cmp (ctext ⟨h0, h1, h2, B, S⟩) s
                    have hFI : RES = if (ctext ⟨h0, h1, h2, B, S⟩ == s.data.toList) = true then some ⟨h0, h1, h2, B, S⟩ else none := by
                      rw [hRF.out, finI]; simp [hC]
                    rw [hC] at HIC
                    unfold ctext at hcm hFI
                    dsimp only at HCT hcm hFI
                    generalize ctS ⟨h0, h1, h2, B, S⟩ S.length = TX at *
                    clear hC
                    rcases Bool.eq_false_or_eq_true (TX == s.data.toList) with hE | hE
                    · have hRN : RES = some ⟨h0, h1, h2, B, S⟩ := by rw [hFI, if_pos hE]
                      subst hRN
                      clear hFI hRF
                      rw [hE] at hcm
                      clear hE
                      generalize strL TX = tx at *
                      go_wp2_with fail
                      refine (HIC.out _ _ _ (own_rd OB.out) (own_rd OS.out) NF).mono ?_
                      rintro e wx ⟨rfl, bx⟩
                      have NX := NF.trans bx
                      have KX := KF.new bx
                      have KRX := KRF.new bx
                      clear cR fR cO fO
                      obtain ⟨cX, fX⟩ := KX.rules
                      go_wp2_with fail
                      refine (HCT.out _ _ _ (own_rd (own_new OB.out bx)) (own_rd (own_new OS.out bx)) NX).mono ?_
                      rintro e wy ⟨rfl, by'⟩
                      have NY := NX.trans by'
                      have KY := KX.new by'
                      have KRY := KRX.new by'
                      have PB := own_new OB.out (bx.trans by')
                      have PS := own_new OS.out (bx.trans by')
                      clear cX fX
                      obtain ⟨cY, fY⟩ := KY.rules
                      obtain ⟨dY, gY⟩ := KRY.rules
                      have hwy := KRY.lt
                      have hOy := KY.lt
                      go_wp2_with fail
                      refine bodyPost_ret (v := .tuple #[valC ⟨h0, h1, h2, B, S⟩ (.slice pa B.length pc) (.slice qa S.length qc), .bool true]) (by simp [results, Tryz.results8, go_sem, cY, fY, dY, gY, hwy, hOy, hne, hne']) rfl ?_
                      refine ⟨_, _, rfl, New.setD5 NY (Nat.le_refl _) _ _ _ _ _, ?_, ?_⟩
                      · refine own_base (base := w4.heap.size) ?_ (by omega)
                        repeat (apply ownsRow_setCell_below)
                        exact PB
                        all_goals (dsimp; omega)
                      · refine own_base (base := w4.heap.size) ?_ (by omega)
                        repeat (apply ownsRow_setCell_below)
                        exact PS
                        all_goals (dsimp; omega)
                    · have hRN : RES = none := by rw [hFI, if_neg (by simp [hE])]
                      subst hRN
                      clear hFI hRF
                      rw [hE] at hcm
                      clear hE
                      generalize strL TX = tx at *
                      go_wp2_with fail
                      refine (HIC.out _ _ _ (own_rd OB.out) (own_rd OS.out) NF).mono ?_
                      rintro e wx ⟨rfl, bx⟩
                      have NX := NF.trans bx
                      have KX := KF.new bx
                      have KRX := KRF.new bx
                      clear cR fR cO fO
                      obtain ⟨cX, fX⟩ := KX.rules
                      go_wp2_with fail
                      refine (HCT.out _ _ _ (own_rd (own_new OB.out bx)) (own_rd (own_new OS.out bx)) NX).mono ?_
                      rintro e wy ⟨rfl, by'⟩
                      have NY := NX.trans by'
                      have KY := KX.new by'
                      have KRY := KRX.new by'
                      clear cX fX
                      obtain ⟨dY, gY⟩ := KRY.rules
                      have hwy := KRY.lt
                      go_wp2_with fail
                      exact retRC_none rfl (New.setD5 NY (Nat.le_refl _) _ _ _ _ _) (by simp [results, Tryz.results8, go_sem, dY, gY, hwy, hne, hne'])
                  · have hRN : RES = none := by rw [hRF.out, finI, if_neg (by simp [hC])]
                    subst hRN
                    clear hRF
                    rw [hC] at HIC
                    clear hC
                    go_wp2_with fail
                    refine (HIC.out _ _ _ (own_rd OB.out) (own_rd OS.out) NF).mono ?_
                    rintro e wx ⟨rfl, bx⟩
                    have NX := NF.trans bx
                    have KRX := KRF.new bx
                    clear cR fR cO fO
                    obtain ⟨dY, gY⟩ := KRX.rules
                    have hwy := KRX.lt
                    go_wp2_with fail
                    exact retRC_none rfl (New.setD5 NX (Nat.le_refl _) _ _ _ _ _) (by simp [results, Tryz.results8, go_sem, dY, gY, hwy, hne, hne'])
    · rw [headI, if_neg (fun hh => h3 hh.1)]
      replace HIX := Lib.hid HIX
      have h3' : (((hd.length : Nat) : Int) != 3) = true := by simp; omega
      generalize midI L = M at *
      clear hmb hdb hn
      go_enter Tryz.func8, Tryz.ntmps8
      go_wp2_with fail
      refine (HTS.out _).mono ?_; rintro e _ ⟨rfl, rfl⟩
      go_wp2_with fail
      refine (HSP1.out _ (HM.out.new (by repeat (first | with_reducible exact New.refl _ | with_reducible assumption | with_reducible refine New.drew ?_ | with_reducible refine New.drewN ?_ _ | with_reducible refine New.alloc ?_ _ | with_reducible refine New.setCell ?_ (by first | (simp; done) | (simp; omega) | omega) _ | with_reducible refine New.trans ?_ (by with_reducible assumption))))).mono ?_; rintro e w2 ⟨r1, rfl, b2, o2⟩
      have HRD := Lib.hid (own_rdS o2); obtain ⟨g, cap, rfl, hcap, hg, hx0, HX⟩ := lines_open HLN.out hL0 o2; clear o2
      obtain ⟨c2, f2⟩ := b2.rules
      have z2 := b2.size
      try simp only [World.size_alloc, World.size_drew, World.heap_drewN, World.size_setCell] at z2
      have z2_0 : w.heap.size < w2.heap.size := by omega
      go_wp2_with fail
      refine (HSP2.out _ (HM.out.new (by repeat (first | with_reducible exact New.refl _ | with_reducible assumption | with_reducible refine New.drew ?_ | with_reducible refine New.drewN ?_ _ | with_reducible refine New.alloc ?_ _ | with_reducible refine New.setCell ?_ (by first | (simp; done) | (simp; omega) | omega) _ | with_reducible refine New.trans ?_ (by with_reducible assumption))))).mono ?_; rintro e w3 ⟨r3, rfl, b3, o3⟩
      have HR3 := Lib.hid (own_rdS o3); clear o3
      obtain ⟨c3, f3⟩ := b3.rules
      have z3 := b3.size
      try simp only [World.size_alloc, World.size_drew, World.heap_drewN, World.size_setCell] at z3
      have z3_0 : w.heap.size < w3.heap.size := by omega
      go_wp2_with fail
      refine (HN.out _ _ HR3.out (by repeat (first | with_reducible exact New.refl _ | with_reducible assumption | with_reducible refine New.drew ?_ | with_reducible refine New.drewN ?_ _ | with_reducible refine New.alloc ?_ _ | with_reducible refine New.setCell ?_ (by first | (simp; done) | (simp; omega) | omega) _ | with_reducible refine New.trans ?_ (by with_reducible assumption)))).mono ?_; rintro e w4 ⟨r4, rfl, b4, o4⟩
      obtain ⟨a4, k4, rfl⟩ := own_slice o4
      obtain ⟨c4, f4⟩ := b4.rules
      have z4 := b4.size
      try simp only [World.size_alloc, World.size_drew, World.heap_drewN, World.size_setCell] at z4
      have z4_0 : w.heap.size < w4.heap.size := by omega
      go_wp2_with fail
      refine (HIX.out _ _ (Rd.new HRD.out (b3.trans b4))).mono ?_; rintro e _ ⟨rfl, rfl⟩
      go_wp2_with fail
      exact retRC_none rfl (by repeat (first | with_reducible exact New.refl _ | with_reducible assumption | with_reducible refine New.drew ?_ | with_reducible refine New.drewN ?_ _ | with_reducible refine New.alloc ?_ _ | with_reducible refine New.setCell ?_ (by first | (simp; done) | (simp; omega) | omega) _ | with_reducible refine New.trans ?_ (by with_reducible assumption))) (by simp [results, Tryz.results8, go_sem, c4, f4, c3, f3, c2, f2, z2_0, z3_0, z4_0])
end Go.Proofs.YteielmihlfakgaaGreatDoor
