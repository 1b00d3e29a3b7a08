/- Contracts: the program's reading of a code: numbers, pairs. -/
import Derived.Test.YteielmihlfakgaaGreatDoorProg
import Derived.Test.YteielmihlfakgaaGreatDoorVB
import Derived.Test.YteielmihlfakgaaGreatDoorVD
import Derived.Test.YteielmihlfakgaaGreatDoorRdcP
import Derived.Test.YteielmihlfakgaaGreatDoorNumW
import Derived.Test.YteielmihlfakgaaGreatDoorShelf
import Derived.Test.YteielmihlfakgaaGreatDoorLibW
import Derived.Test.YteielmihlfakgaaGreatDoorUD
import Derived.Test.YteielmihlfakgaaGreatDoorVA
namespace Go.Proofs.YteielmihlfakgaaGreatDoor
open Go Go.Proofs Go.RowKit
set_option linter.unusedVariables false
set_option linter.unusedSimpArgs false
set_option maxRecDepth 100000
theorem infoI64q : (Tryz.prog.info? 2).map (fun i => (i.zero, i.size, i.bytes)) = some (some (.int .i64 0), 1, 8) := by kernel_rfl
theorem numsF_next {f : List UInt8 → Int × Bool} {L : List (List UInt8)} {k : Nat} (h : k < L.length) (acc : List Int) : numsF f (L.drop k) acc = if (f L[k]).2 = true then numsF f (L.drop (k + 1)) (acc ++ [(f L[k]).1]) else none := by
  rw [List.drop_eq_getElem_cons h, numsF]
def okN (r : Option (List Int)) : List Int × Bool := match r with | some ns => (ns, true) | none => ([], false)
set_option maxHeartbeats 1000000 in
theorem iReadNumbers_any (v : Value) (L : List (List UInt8)) (w : World) (hv : RdS w v (L.map strL)) (hl : L.length ≤ 1048577) (hs : ∀ y ∈ L, y.length ≤ 1048576) (hp : PW w) (he : ER w) :
    Calls Tryz.prog 27 #[v] w fun e w' => ∃ r, e = .returned (.tuple #[r, .bool (okN (numsF rdN L [])).2]) ∧ New w w' ∧ w'.ownsRow w.heap.size 2 1 r (okN (numsF rdN L [])).1.length ((okN (numsF rdN L [])).1.map (Value.int .i64)) := by
  obtain ⟨i0, hi, hz0, hz1, hz2⟩ := info_parts infoI64q
  have HP := Lib.hid hp; clear hp
  have HE := Lib.hid he; clear he
  obtain ⟨a, cap, rfl, hm, HC⟩ := hv.open
  clear hv
  simp only [List.length_map] at hm HC
  have HS := Lib.hid hs; clear hs
  go_enter Tryz.func27, Tryz.ntmps27
  go_wp2_with fail
  simp only [List.length_map]
  go_loopw [4, 11] (fun o i wr => ∃ (k : Nat) (acc : List Int), k ≤ L.length ∧ i = .int .i64 k ∧ Hid (numsF rdN L [] = numsF rdN (L.drop k) acc) ∧ acc.length ≤ k ∧ New w wr ∧ wr.ownsRow w.heap.size 2 1 o acc.length (acc.map (Value.int .i64))) (fun _ i _ => L.length - (intOf i).toNat)
  case atStart => exact ⟨0, [], Nat.zero_le _, rfl, Lib.hid rfl, Nat.le_refl _, New.refl _, World.ownsRow_nil _ _ _ _⟩
  case round =>
    obtain ⟨k, acc, hk, rfl, hst, hal, hb, hown⟩ := hrel
    obtain ⟨cc, f'⟩ := hb.rules
    have hbz := hb.size
    by_cases hlt : k < L.length
    · obtain ⟨b, off, rfl, hbl, hx⟩ := HC.out w (New.refl w) k (by simpa using hlt)
      have hbw : b < wr.heap.size := by omega
      have hyl := HS.out L[k] (List.getElem_mem hlt)
      have HST := Lib.hid (numsF_next (f := rdN) hlt acc)
      rw [← hst.out] at HST
      simp only [List.getElem_map] at hx
      have HR := Lib.hid (fun (w0 : World) (h : New w w0) => iReadNumber_any (strL L[k]) w0 (by rw [strL_size]; exact hyl) (HP.out.new h) (HE.out.new h))
      rw [strL_list] at HR
      generalize strL L[k] = Y at hx HR
      generalize rdN L[k] = N at HST HR
      obtain ⟨n, ok⟩ := N
      dsimp only at HST HR
      cases ok with
      | true =>
        go_wp2_with fail
        refine (HR.out _ (by repeat (first | with_reducible exact New.refl _ | with_reducible assumption | with_reducible refine New.drew ?_ | with_reducible refine New.drewN ?_ _ | with_reducible refine New.alloc ?_ _ | with_reducible refine New.setCell ?_ (by first | (simp; done) | (simp; omega) | omega) _ | with_reducible refine New.trans ?_ (by with_reducible assumption)))).mono ?_
        rintro e w3 ⟨rfl, b3⟩
        obtain ⟨c3, f3⟩ := b3.rules
        have z3 := b3.size
        go_wp2_with (first | (at_builtin; refine wpList_append_own _ rfl _ _ 57 rfl (w.heap.size) 2 i0 (.int .i64 0) 1 8 Tryz.underlying57 hi hz0 hz1 hz2 rfl (by decide) _ _ _ rfl ((own_new hown b3).alloc _) ⟨w3.heap.size, 0, none⟩ 1 1 [.int .i64 (n)] rfl rfl (by intro j u hj; match j, hj with | 0, hj => simp at hj; subst hj; first | (simp [Addr.add]; done) | exact alloc_one rfl) (by intro u hu; simp at hu; subst hu; rfl) (by unfold maxLen; omega) (by omega) (by first | (simp; done) | (simp; omega) | omega) ?_; intro va wa howna hgra _))
        have ba := New.grown ((hb.trans b3).alloc _) hgra (fun q hq => by have := (own_block_lt hown q hq).1; simpa using this)
        go_roundw
        case rel => exact ⟨k + 1, acc ++ [n], by omega, by go_num, Lib.hid (by rw [HST.out]; simp), by rw [List.length_append, List.length_singleton]; omega, ba, by rw [List.length_append, List.map_append]; exact howna⟩
        case measure => simp [intOf]; omega
      | false =>
        go_wp2_with fail
        refine (HR.out _ (by repeat (first | with_reducible exact New.refl _ | with_reducible assumption | with_reducible refine New.drew ?_ | with_reducible refine New.drewN ?_ _ | with_reducible refine New.alloc ?_ _ | with_reducible refine New.setCell ?_ (by first | (simp; done) | (simp; omega) | omega) _ | with_reducible refine New.trans ?_ (by with_reducible assumption)))).mono ?_
        rintro e w3 ⟨rfl, b3⟩
        go_wp2_with fail
        go_ret2
        rw [show numsF rdN L [] = none by rw [HST.out]; simp]
        exact ⟨_, rfl, (by repeat (first | with_reducible exact New.refl _ | with_reducible assumption | with_reducible refine New.drew ?_ | with_reducible refine New.drewN ?_ _ | with_reducible refine New.alloc ?_ _ | with_reducible refine New.setCell ?_ (by first | (simp; done) | (simp; omega) | omega) _ | with_reducible refine New.trans ?_ (by with_reducible assumption))), World.ownsRow_nil _ _ _ _⟩
    · obtain rfl : k = L.length := by omega
      have HA := Lib.hid (show numsF rdN L [] = some acc by rw [hst.out, List.drop_length]; rfl)
      go_wp2_with fail
      go_ret2
      rw [HA.out]
      exact ⟨_, rfl, hb, hown⟩
theorem cut_len (y : List UInt8) : (Lib.cut y [32]).2.1.length ≤ y.length := by
  rw [Lib.cut]; split
  · simp
  · simp
theorem iPairOf_any (y : List UInt8) (w : World) (hy : y.length ≤ 1048576) (hm : ML w) (hp : PW w) (he : ER w) :
    Calls Tryz.prog 29 #[.string (strL y)] w fun e w' => e = .returned (.tuple #[.string (strL (Lib.cut y [32]).1), .int .i64 (rdN (Lib.cut y [32]).2.1).1, .bool (rdN (Lib.cut y [32]).2.1).2]) ∧ New w w' := by
  have HP := Lib.hid hp; clear hp
  have HE := Lib.hid he; clear he
  obtain ⟨m, hm⟩ := hm
  have hcl := cut_len y
  have HC := Lib.hid (Tryz.strings_Cut (strL y) ⟨#[32]⟩ m w (by rw [strL_size]; omega) hm)
  rw [strL_list] at HC
  rw [show (⟨#[32]⟩ : ByteArray).data.toList = [32] from rfl] at HC
  have HR := Lib.hid (fun (w0 : World) (h : New w w0) => iReadNumber_any (strL (Lib.cut y [32]).2.1) w0 (by rw [strL_size]; omega) (HP.out.new h) (HE.out.new h))
  rw [strL_list] at HR
  change Hid (Calls _ _ _ _ fun e w' => e = .returned (.tuple #[.string (strL (Lib.cut y [32]).1), .string (strL (Lib.cut y [32]).2.1), .bool (Lib.cut y [32]).2.2]) ∧ ∃ n, w' = w.drewN n) at HC
  generalize strL (Lib.cut y [32]).2.1 = Z at HC HR
  generalize strL (Lib.cut y [32]).1 = Y at HC
  generalize rdN (Lib.cut y [32]).2.1 = N at HR
  go_enter Tryz.func29, Tryz.ntmps29
  go_wp2_with fail
  refine HC.out.mono ?_
  rintro e w1 ⟨rfl, n, rfl⟩
  go_wp2_with fail
  refine (HR.out _ ((New.refl w).drewN n)).mono ?_
  rintro e w2 ⟨rfl, b2⟩
  have b3 : New w w2 := ((New.refl w).drewN n).trans b2
  go_wp2_with fail
  refine bodyPost_ret (v := .tuple #[.string Y, .int .i64 N.1, .bool N.2]) (by simp [results, Tryz.results29, go_sem]) rfl ⟨rfl, b3⟩
theorem iIsBlkW_any (s : ByteArray) (w : World) (hk : KW w) :
    Calls Tryz.prog 30 #[.string s] w fun e w' => e = .returned (.bool (isBlkW s)) ∧ w = w' := by
  obtain ⟨a, cap, he, hn, ⟨_, h0⟩, hc⟩ := hk
  obtain ⟨rfl, -, rfl⟩ := Value.slice.inj he
  have hk2 : RdS w (.slice (some ⟨0, 11, none⟩) 6 6) (keys.drop 11) := by
    refine ⟨_, 6, rfl, by decide, ⟨(fun h => by cases h), Nat.le_refl _⟩, fun j u hu => ?_⟩
    have hu' : (keys.map Value.string)[11 + j]? = some u := by
      rw [List.map_drop, List.getElem?_drop] at hu; exact hu
    obtain ⟨b, off, hb, hl, hx⟩ := hc (11 + j) u hu'
    obtain ⟨rfl, rfl⟩ : b = 0 ∧ off = 0 := by simp at hb; exact ⟨hb.1.symm, hb.2.symm⟩
    exact ⟨_, 11, rfl, hl, by simpa using hx⟩
  go_enter Tryz.func30, Tryz.ntmps30
  go_wp2_with fail
  refine (containsS_any s _ (keys.drop 11) _ hk2).mono ?_
  rintro e w2 ⟨rfl, rfl⟩
  go_wp2_with fail
  go_ret
  exact ⟨rfl, rfl⟩
end Go.Proofs.YteielmihlfakgaaGreatDoor
