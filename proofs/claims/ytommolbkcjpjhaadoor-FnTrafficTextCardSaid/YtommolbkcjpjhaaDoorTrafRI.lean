/- Contracts: the program's reading of a traffic's text. -/
import Derived.Deep.RegionHeld3
import Derived.Deep.RegionLaw
import Derived.Deep.AppendLies
import Derived.Test.YtommolbkcjpjhaaDoorProg
import Derived.Test.YtommolbkcjpjhaaDoorTrafRW
namespace Go.Proofs.YtommolbkcjpjhaaDoor
open Go Go.Proofs Go.RowKit
set_option linter.unusedVariables false
set_option linter.unusedSimpArgs false
set_option maxRecDepth 100000
set_option maxHeartbeats 4000000 in
theorem iRead_any (s : ByteArray) (w : World) (hs : s.size ≤ 1048576) (hm : ML w) (hp : PW w) (he : ER w) : Calls Tryd.prog 8 #[.string s] w (RetRd w (rdI s.data.toList)) := by
  obtain ⟨i0, hi, hz0, hz1, hz2⟩ := info_parts infoInt
  have HM := Lib.hid hm; clear hm
  have HPW := Lib.hid hp; clear hp
  have HER := Lib.hid he; clear he
  have hlen : s.data.toList.length = s.size := by rw [Array.length_toList]; rfl
  have HSP := fun (w0 : World) (h : ML w0) => iSplit_any s 32 w0 hs h
  obtain ⟨x0, ws, hW⟩ : ∃ x ws, spl 32 s.data.toList = x :: ws := ⟨_, _, spl_cons 32 _⟩
  have hwl := spl_len 32 s.data.toList
  have hml := spl_mem_len 32 s.data.toList
  have hR : rdI s.data.toList = rdIW s.data.toList x0 ws := by rw [rdI, hW]; rfl
  rw [hR]
  rw [hW] at HSP hwl hml
  clear hW hR
  have hwl' : ws.length ≤ 1048576 := by simp at hwl; omega
  have HWL := Lib.hid (fun (k : Nat) (h : k < ws.length) => (by have := hml ws[k] (by simp); omega : ws[k].length ≤ 1048576))
  have HRN := Lib.hid (fun (y : List UInt8) (h : y.length ≤ 1048576) (w0 : World) (hn : New w w0) => (by
    have h1 := iReadNumber_any (strL y) w0 (by rw [strL_size]; omega) (HPW.out.new hn) (HER.out.new hn)
    rw [strL_list] at h1; exact h1 : Calls Tryd.prog 21 #[.string (strL y)] w0 fun e w' => e = .returned (.tuple #[.int .i64 (rdN y).1, .bool (rdN y).2]) ∧ New w0 w'))
  have HV := HRN.out x0 (by have := hml x0 (by simp); omega)
  rw [rdIW]
  obtain ⟨n, hn⟩ : ∃ n, (rdN x0).1 = n := ⟨_, rfl⟩
  rw [hn]
  generalize rdN x0 = R0 at HV hn
  obtain ⟨n', ok0⟩ := R0
  dsimp only at HV hn
  subst hn
  replace HV := Lib.hid HV
  replace HSP := Lib.hid HSP
  clear hwl hml
  obtain ⟨R, hRR⟩ : ∃ R, stI ws [] = R := ⟨_, rfl⟩
  rw [hRR]
  replace hRR := Lib.hid hRR
  have HLEN := Lib.hid hlen; clear hlen
  have hnt : ∀ (l : List UInt8), rdIP l n' (some []) = none := fun l => by
    have h : isTraf n' [] = false := by simp [isTraf, inB]
    rw [rdIP, if_neg (by simp [h])]
  have hNT := Lib.hid (show isTraf n' [] = false by simp [isTraf, inB])
  by_cases hw0 : ws.length = 0
  · have hwn : ws = [] := List.eq_nil_of_length_eq_zero hw0
    subst hwn
    have hRN : rdIP s.data.toList n' R = none := by rw [← hRR.out, stI, hnt]
    rw [hRN]
    have HT := Lib.hid (fun (w0 : World) (h : RdI w0 (.slice none 0 0) []) => iIsTraffic_any n' (.slice none 0 0) [] w0 h)
    rw [hNT.out] at HT
    have hri : ∀ w0 : World, RdI w0 (.slice none 0 0) [] := fun w0 => ⟨none, 0, rfl, by simp, ⟨fun _ => rfl, by simp⟩, fun j u hu => by simp at hu⟩
    replace hri := Lib.hid hri
    clear hRN hnt hw0 hwl' HWL HRN hRR
    go_enter Tryd.func8, Tryd.ntmps8
    go_wp2_with fail
    refine (HSP.out _ (HM.out.new (by repeat (first | with_reducible exact New.refl _ | with_reducible assumption | with_reducible refine New.drew ?_ | with_reducible refine New.drewN ?_ _ | with_reducible refine New.alloc ?_ _ | with_reducible refine New.setCell ?_ (by first | (simp; done) | (simp; omega) | omega) _ | with_reducible refine New.trans ?_ (by with_reducible assumption))))).mono ?_; rintro e w1 ⟨r1, rfl, b1, o1⟩
    obtain ⟨g, cap, rfl, hcap, hg, hx0, HX⟩ := words_open o1; clear o1
    obtain ⟨c1, f1⟩ := b1.rules
    have z1 := b1.size
    try simp only [World.size_alloc, World.size_drew, World.heap_drewN, World.size_setCell] at z1
    have z1_0 : w.heap.size < w1.heap.size := by omega
    go_wp2_with fail
    refine (HV.out _ (by repeat (first | with_reducible exact New.refl _ | with_reducible assumption | with_reducible refine New.drew ?_ | with_reducible refine New.drewN ?_ _ | with_reducible refine New.alloc ?_ _ | with_reducible refine New.setCell ?_ (by first | (simp; done) | (simp; omega) | omega) _ | with_reducible refine New.trans ?_ (by with_reducible assumption)))).mono ?_; rintro e w2 ⟨rfl, b2⟩
    try with_reducible replace b2 := New.undrawN b2
    try with_reducible replace b2 := New.undraw b2
    obtain ⟨c2, f2⟩ := b2.rules
    have z2 := b2.size
    try simp only [World.size_alloc, World.size_drew, World.heap_drewN, World.size_setCell] at z2
    have z2_0 : w.heap.size < w2.heap.size := by omega
    go_wp2_with fail
    all_goals
      refine wp_loop_rounds 1 ?_
      rw [rounds_succ]
      go_wp2_with fail
      refine (HT.out _ (hri.out _)).mono ?_; rintro e w3 ⟨rfl, b3⟩
      try with_reducible replace b3 := New.undrawN b3
      try with_reducible replace b3 := New.undraw b3
      obtain ⟨c3, f3⟩ := b3.rules
      have z3 := b3.size
      try simp only [World.size_alloc, World.size_drew, World.heap_drewN, World.size_setCell] at z3
      have z3_0 : w.heap.size < w3.heap.size := by omega
      go_wp2_with fail
      have KR : Blk w3 w.heap.size #[.int .i64 0, .slice none 0 0] 26 := ((((Blk.alloc_at rfl).new b1).new b2).alloc _).new b3
      obtain ⟨cR, fR⟩ := KR.rules
      refine bodyPost_ret (v := .tuple #[.agg #[.int .i64 0, .slice none 0 0], .bool false]) (by simp [results, Tryd.results8, go_sem, cR, fR, z3_0]) rfl ?_
      exact ⟨_, rfl, (by repeat (first | with_reducible exact New.refl _ | with_reducible assumption | with_reducible refine New.drew ?_ | with_reducible refine New.drewN ?_ _ | with_reducible refine New.alloc ?_ _ | with_reducible refine New.setCell ?_ (by first | (simp; done) | (simp; omega) | omega) _ | with_reducible refine New.trans ?_ (by with_reducible assumption))), ⟨rfl, .inl ⟨rfl, rfl⟩⟩⟩
  · clear hnt
    go_enter Tryd.func8, Tryd.ntmps8
    go_wp2_with fail
    refine (HSP.out _ (HM.out.new (by repeat (first | with_reducible exact New.refl _ | with_reducible assumption | with_reducible refine New.drew ?_ | with_reducible refine New.drewN ?_ _ | with_reducible refine New.alloc ?_ _ | with_reducible refine New.setCell ?_ (by first | (simp; done) | (simp; omega) | omega) _ | with_reducible refine New.trans ?_ (by with_reducible assumption))))).mono ?_; rintro e w1 ⟨r1, rfl, b1, o1⟩
    obtain ⟨g, cap, rfl, hcap, hg, hx0, HX⟩ := words_open o1; clear o1; have hc1 : ¬ cap = 1 := (by omega)
    obtain ⟨c1, f1⟩ := b1.rules
    have z1 := b1.size
    try simp only [World.size_alloc, World.size_drew, World.heap_drewN, World.size_setCell] at z1
    have z1_0 : w.heap.size < w1.heap.size := by omega
    go_wp2_with fail
    refine (HV.out _ (by repeat (first | with_reducible exact New.refl _ | with_reducible assumption | with_reducible refine New.drew ?_ | with_reducible refine New.drewN ?_ _ | with_reducible refine New.alloc ?_ _ | with_reducible refine New.setCell ?_ (by first | (simp; done) | (simp; omega) | omega) _ | with_reducible refine New.trans ?_ (by with_reducible assumption)))).mono ?_; rintro e w2 ⟨rfl, b2⟩
    try with_reducible replace b2 := New.undrawN b2
    try with_reducible replace b2 := New.undraw b2
    obtain ⟨c2, f2⟩ := b2.rules
    have z2 := b2.size
    try simp only [World.size_alloc, World.size_drew, World.heap_drewN, World.size_setCell] at z2
    have z2_0 : w.heap.size < w2.heap.size := by omega
    go_wp2_with fail
    have hg2 : g < w2.heap.size := by omega
    have B2 : New (w.alloc (.cells #[.int .i64 0, .slice none 0 0] 26)) w2 := b1.trans b2
    have hX2 := Lib.hid (fun (wr : World) (hn : New w2 wr) (k : Nat) (hk : k < ws.length) => HX.out wr (b2.trans hn) k hk)
    have hw2 : w.heap.size < w2.heap.size := by omega
    clear HX hx0 hg c1 f1 c2 f2 b1 b2 HSP HV
    have hne : w.heap.size ≠ w2.heap.size := by omega
    have hne' : w2.heap.size ≠ w.heap.size := by omega
    have own0 : (w2.alloc (.cells #[.int .i64 n', .slice none 0 0] 26)).ownsRow (w2.heap.size + 1) 2 1 (.slice none 0 0) 0 [] := ⟨rfl, .inl ⟨rfl, rfl⟩⟩
    replace own0 := Lib.hid own0
    go_loopw [26] (fun i wr => ∃ (k : Nat) (ps : List Int) (pv : Value), k ≤ ws.length ∧ i = .int .i64 (k : Int) ∧ Hid (stI (ws.drop k) ps = R) ∧ ps.length ≤ k ∧ New w2 wr ∧ Blk wr w2.heap.size #[.int .i64 n', pv] 26 ∧ wr.ownsRow (w2.heap.size + 1) 2 1 pv ps.length (ps.map (Value.int .i64))) (fun i _ => ws.length - (intOf i).toNat)
    case atStart => exact ⟨0, [], .slice none 0 0, Nat.zero_le _, rfl, by simpa using hRR, Nat.le_refl _, (by repeat (first | with_reducible exact New.refl _ | with_reducible assumption | with_reducible refine New.drew ?_ | with_reducible refine New.drewN ?_ _ | with_reducible refine New.alloc ?_ _ | with_reducible refine New.setCell ?_ (by first | (simp; done) | (simp; omega) | omega) _ | with_reducible refine New.trans ?_ (by with_reducible assumption))), Blk.alloc_at rfl, own0.out⟩
    case round =>
      obtain ⟨k, ps, pv, hk, rfl, hA, hpk, hb, KX, hown⟩ := hrel
      clear own0 hRR
      have KR : Blk wr w.heap.size #[.int .i64 0, .slice none 0 0] 26 := ((Blk.alloc_at rfl).new B2).new hb
      obtain ⟨pa, pc, rfl⟩ := own_slice hown
      obtain ⟨cR, fR⟩ := KR.rules
      obtain ⟨cX, fX⟩ := KX.rules
      have hbz := hb.size
      have hxr : w2.heap.size < wr.heap.size := KX.lt
      have hwr : w.heap.size < wr.heap.size := by omega
      have hgr : g < wr.heap.size := by omega
      by_cases hlt : k < ws.length
      · have hx := hX2.out wr hb k hlt
        rw [Nat.add_comm] at hx
        have hyl := HWL.out k hlt
        have HSO := Lib.hid (fun (p : Int) (hp : plcI ws[k] = some p) => (stI_some hlt (ps := ps) hp).symm.trans hA.out)
        have HNO := Lib.hid (fun (hp : plcI ws[k] = none) => (stI_none hlt (ps := ps) hp).symm.trans hA.out)
        generalize ws[k] = y at hx hyl HSO HNO
        by_cases hy : y = []
        · subst hy
          have hRN := HNO.out (by rw [plcI, if_pos rfl])
          subst hRN
          obtain ⟨sy, hsy⟩ : ∃ sy, strL [] = sy := ⟨_, rfl⟩
          have hce : (sy.toList == []) = true := by rw [← hsy, ByteArray.toList_eq, strL_list]; rfl
          rw [hsy] at hx
          clear hsy HSO HNO
          go_wp2_with fail
          refine bodyPost_ret (v := .tuple #[.agg #[.int .i64 0, .slice none 0 0], .bool false]) (by simp [results, Tryd.results8, go_sem, cR, fR, cX, fX, hwr, hxr, hne, hne']) rfl ?_
          exact ⟨_, rfl, (by repeat (first | with_reducible exact New.refl _ | with_reducible assumption | with_reducible refine New.drew ?_ | with_reducible refine New.drewN ?_ _ | with_reducible refine New.alloc ?_ _ | with_reducible refine New.setCell ?_ (by first | (simp; done) | (simp; omega) | omega) _ | with_reducible refine New.trans ?_ (by with_reducible assumption))), ⟨rfl, .inl ⟨rfl, rfl⟩⟩⟩
        · obtain ⟨sy, rfl⟩ : ∃ sy : ByteArray, y = sy.data.toList := ⟨strL y, (strL_list y).symm⟩
          rw [strL_back] at hx
          have hsl : sy.data.toList.length = sy.size := by rw [Array.length_toList]; rfl
          rw [hsl] at hyl
          have hys : 0 < sy.size := by
            rcases Nat.eq_zero_or_pos sy.size with h | h
            · exact absurd (List.eq_nil_of_length_eq_zero (hsl.trans h)) hy
            · exact h
          have hce : (sy.toList == []) = false := by rw [ByteArray.toList_eq]; simpa using hy
          have hce2 : sy.toList.isEmpty = false := by rw [ByteArray.toList_eq]; simpa using hy
          have HRY := HRN.out sy.data.toList.dropLast (by simp; omega)
          rw [show strL sy.data.toList.dropLast = sy.extract 0 (sy.size - 1) from by apply bytes_eq; rw [strL_list, init_ext]] at HRY
          have hy2 : sy.size - 1 < sy.size := by omega
          have hPI : plcI sy.data.toList = if ((rdN sy.data.toList.dropLast).2 && inB (rdN sy.data.toList.dropLast).1 0 8) = true then some (3 * (rdN sy.data.toList.dropLast).1 + phI (sy[sy.size - 1]'hy2)) else none := by rw [plcI, if_neg hy, last_byte hys]
          replace HSO := fun p (h : plcI sy.data.toList = some p) => HSO.out p h
          replace HNO := fun (h : plcI sy.data.toList = none) => HNO.out h
          rw [hPI] at HSO HNO
          clear hPI hsl hy
          generalize rdN sy.data.toList.dropLast = P at HRY HSO HNO
          obtain ⟨p, okp⟩ := P
          dsimp only at HRY HSO HNO
          replace HRY := Lib.hid HRY
          have hy1 : (sy.size : Int) - 1 = ((sy.size - 1 : Nat) : Int) := by omega
          have g3 := i64_sm (sy.size - 1 : Nat) (by omega) (by omega)
          cases okp with
          | false =>
            have hRN := HNO (by simp)
            subst hRN
            clear HSO HNO
            go_wp2_with fail
            refine (HRY.out _ (by repeat (first | with_reducible exact New.refl _ | with_reducible assumption | with_reducible refine New.drew ?_ | with_reducible refine New.drewN ?_ _ | with_reducible refine New.alloc ?_ _ | with_reducible refine New.setCell ?_ (by first | (simp; done) | (simp; omega) | omega) _ | with_reducible refine New.trans ?_ (by with_reducible assumption)))).mono ?_; rintro e w3 ⟨rfl, b3⟩
            try with_reducible replace b3 := New.undrawN b3
            try with_reducible replace b3 := New.undraw b3
            obtain ⟨c3, f3⟩ := b3.rules
            have z3 := b3.size
            try simp only [World.size_alloc, World.size_drew, World.heap_drewN, World.size_setCell] at z3
            have z3_0 : w.heap.size < w3.heap.size := by omega
            have z3_1 : w2.heap.size < w3.heap.size := by omega
            go_wp2_with fail
            refine bodyPost_ret (v := .tuple #[.agg #[.int .i64 0, .slice none 0 0], .bool false]) (by simp [results, Tryd.results8, go_sem, cR, fR, cX, fX, hwr, hxr, hne, hne', c3, f3, z3_0, z3_1]) rfl ?_
            exact ⟨_, rfl, (by repeat (first | with_reducible exact New.refl _ | with_reducible assumption | with_reducible refine New.drew ?_ | with_reducible refine New.drewN ?_ _ | with_reducible refine New.alloc ?_ _ | with_reducible refine New.setCell ?_ (by first | (simp; done) | (simp; omega) | omega) _ | with_reducible refine New.trans ?_ (by with_reducible assumption))), ⟨rfl, .inl ⟨rfl, rfl⟩⟩⟩
          | true =>
            rcases Bool.eq_false_or_eq_true (inB p 0 8) with hB | hB
            · have hSO := HSO _ (by rw [hB]; rfl)
              obtain ⟨hp0, hp8⟩ := inB_iff.1 hB
              obtain ⟨hf0, hf1⟩ := phI_bd (sy[sy.size - 1]'hy2)
              have HIX := Lib.hid (phI_index (sy[sy.size - 1]'hy2))
              generalize hPH : phI (sy[sy.size - 1]'hy2) = f at hSO hf0 hf1 HIX
              clear HSO HNO
              go_wp2_with fail
              refine (HRY.out _ (by repeat (first | with_reducible exact New.refl _ | with_reducible assumption | with_reducible refine New.drew ?_ | with_reducible refine New.drewN ?_ _ | with_reducible refine New.alloc ?_ _ | with_reducible refine New.setCell ?_ (by first | (simp; done) | (simp; omega) | omega) _ | with_reducible refine New.trans ?_ (by with_reducible assumption)))).mono ?_; rintro e w3 ⟨rfl, b3⟩
              try with_reducible replace b3 := New.undrawN b3
              try with_reducible replace b3 := New.undraw b3
              obtain ⟨c3, f3⟩ := b3.rules
              have z3 := b3.size
              try simp only [World.size_alloc, World.size_drew, World.heap_drewN, World.size_setCell] at z3
              have z3_0 : w.heap.size < w3.heap.size := by omega
              have z3_1 : w2.heap.size < w3.heap.size := by omega
              go_wp2_with fail
              refine (within_any p 0 8 _).mono ?_; rintro e w4 ⟨rfl, rfl⟩
              go_wp2_with fail
              have e0 := i64_sm (3 * p) (by omega) (by omega)
              have e1 : IntKind.i64.wrap (3 * p + f) = 3 * p + f := i64_in' _ (by omega) (by omega)
              have own3 := own_new hown b3
              have K3 := KX.new b3
              obtain ⟨c3X, f3X⟩ := K3.rules
              have hix := HIX.out
              go_region_law (first | (go_simp; go_at_call 23; refine (Tryd.strings_IndexByte _ _ _).mono ?_; rintro e w5 ⟨rfl, rfl⟩) | (refine step_append_lies _ (by rfl) _ _ _ (by rfl) (w2.heap.size + 1) 2 i0 (.int .i64 0) 1 8 Tryd.underlying24 hi hz0 hz1 hz2 rfl (by decide) _ ps.length _ (by rfl) (own_new own3 (by repeat (first | with_reducible exact New.refl _ | with_reducible assumption | with_reducible refine New.drew ?_ | with_reducible refine New.drewN ?_ _ | with_reducible refine New.alloc ?_ _ | with_reducible refine New.setCell ?_ (by first | (simp; done) | (simp; omega) | omega) _ | with_reducible refine New.trans ?_ (by with_reducible assumption)))) _ 1 _ [.int .i64 (3 * p + f)] (by rfl) (by simp) (by intro j u hu; cases j with | zero => (simp at hu; subst hu; first | (simp [Addr.add]; done) | exact alloc_one rfl) | succ j => simp at hu) (by simp [Value.oneCell']) (by omega) (by unfold maxLen; omega) (by omega) (by first | omega | (simp; omega)) _ rfl ?_; intro g5 cap5 wa howna hgra hat hlt5; have B5 := Below.grown (Below.refl (w2.heap.size + 1) _) hgra (by first | omega | (simp; omega)) (fun q hq => (own_block_lt (own_new own3 (by repeat (first | with_reducible exact New.refl _ | with_reducible assumption | with_reducible refine New.drew ?_ | with_reducible refine New.drewN ?_ _ | with_reducible refine New.alloc ?_ _ | with_reducible refine New.setCell ?_ (by first | (simp; done) | (simp; omega) | omega) _ | with_reducible refine New.trans ?_ (by with_reducible assumption)))) q hq).1); have k6 : wa.cell? ⟨w2.heap.size, 1, none⟩ = some (.slice pa ps.length pc) := ((Below.cell B5 (p := ⟨w2.heap.size, 1, none⟩) (by dsimp; omega)).trans ((New.cell (show New w3 _ from (by repeat (first | with_reducible exact New.refl _ | with_reducible assumption | with_reducible refine New.drew ?_ | with_reducible refine New.drewN ?_ _ | with_reducible refine New.alloc ?_ _ | with_reducible refine New.setCell ?_ (by first | (simp; done) | (simp; omega) | omega) _ | with_reducible refine New.trans ?_ (by with_reducible assumption)))) z3_1).trans (c3X 1))); have k7 : wa.frozen? ⟨w2.heap.size, 1, none⟩ = false := ((Below.frozen B5 (p := ⟨w2.heap.size, 1, none⟩) (by dsimp; omega)).trans ((New.frozen (show New w3 _ from (by repeat (first | with_reducible exact New.refl _ | with_reducible assumption | with_reducible refine New.drew ?_ | with_reducible refine New.drewN ?_ _ | with_reducible refine New.alloc ?_ _ | with_reducible refine New.setCell ?_ (by first | (simp; done) | (simp; omega) | omega) _ | with_reducible refine New.trans ?_ (by with_reducible assumption)))) z3_1).trans (f3X 1)))))
              all_goals
                have ba : New w2 wa := New.grown (show New w2 _ from by exact (by repeat (first | with_reducible exact New.refl _ | with_reducible assumption | with_reducible refine New.drew ?_ | with_reducible refine New.drewN ?_ _ | with_reducible refine New.alloc ?_ _ | with_reducible refine New.setCell ?_ (by first | (simp; done) | (simp; omega) | omega) _ | with_reducible refine New.trans ?_ (by with_reducible assumption)))) hgra (fun q hq => by have := (own_block_lt (own_new own3 (by repeat (first | with_reducible exact New.refl _ | with_reducible assumption | with_reducible refine New.drew ?_ | with_reducible refine New.drewN ?_ _ | with_reducible refine New.alloc ?_ _ | with_reducible refine New.setCell ?_ (by first | (simp; done) | (simp; omega) | omega) _ | with_reducible refine New.trans ?_ (by with_reducible assumption)))) q hq).1; omega)
                have K5 : Blk wa w2.heap.size #[.int .i64 n', .slice pa ps.length pc] 26 := Blk.grown (K3.new (by repeat (first | with_reducible exact New.refl _ | with_reducible assumption | with_reducible refine New.drew ?_ | with_reducible refine New.drewN ?_ _ | with_reducible refine New.alloc ?_ _ | with_reducible refine New.setCell ?_ (by first | (simp; done) | (simp; omega) | omega) _ | with_reducible refine New.trans ?_ (by with_reducible assumption)))) hgra (fun e => by have := (own_block_lt (own_new own3 (by repeat (first | with_reducible exact New.refl _ | with_reducible assumption | with_reducible refine New.drew ?_ | with_reducible refine New.drewN ?_ _ | with_reducible refine New.alloc ?_ _ | with_reducible refine New.setCell ?_ (by first | (simp; done) | (simp; omega) | omega) _ | with_reducible refine New.trans ?_ (by with_reducible assumption)))) w2.heap.size e.symm).1; omega)
                have K6 := K5.set 1 (.slice (some ⟨g5, 0, none⟩) (ps.length + 1) cap5)
                simp only [List.setIfInBounds_toArray, List.set_cons_succ, List.set_cons_zero] at K6
                have o6 := ownsRow_setCell_below howna (a := ⟨w2.heap.size, 1, none⟩) (by simp) (.slice (some ⟨g5, 0, none⟩) (ps.length + 1) cap5)
                have n6 := ba.setCell (p := ⟨w2.heap.size, 1, none⟩) (by simp) (.slice (some ⟨g5, 0, none⟩) (ps.length + 1) cap5)
                clear B5 k6 k7 hx c3X f3X
                go_wp2_with fail
                go_roundw
                case rel => exact ⟨k + 1, ps ++ [3 * p + f], _, by omega, by go_num, Lib.hid hSO, by simp; omega, n6, by simpa using K6, by simpa using o6⟩
                case measure => simp [intOf]; omega
            · have hRN := HNO (by simp [hB])
              subst hRN
              clear HSO HNO
              go_wp2_with fail
              refine (HRY.out _ (by repeat (first | with_reducible exact New.refl _ | with_reducible assumption | with_reducible refine New.drew ?_ | with_reducible refine New.drewN ?_ _ | with_reducible refine New.alloc ?_ _ | with_reducible refine New.setCell ?_ (by first | (simp; done) | (simp; omega) | omega) _ | with_reducible refine New.trans ?_ (by with_reducible assumption)))).mono ?_; rintro e w3 ⟨rfl, b3⟩
              try with_reducible replace b3 := New.undrawN b3
              try with_reducible replace b3 := New.undraw b3
              obtain ⟨c3, f3⟩ := b3.rules
              have z3 := b3.size
              try simp only [World.size_alloc, World.size_drew, World.heap_drewN, World.size_setCell] at z3
              have z3_0 : w.heap.size < w3.heap.size := by omega
              have z3_1 : w2.heap.size < w3.heap.size := by omega
              go_wp2_with fail
              refine (within_any p 0 8 _).mono ?_; rintro e w4 ⟨rfl, rfl⟩
              go_wp2_with fail
              refine bodyPost_ret (v := .tuple #[.agg #[.int .i64 0, .slice none 0 0], .bool false]) (by simp [results, Tryd.results8, go_sem, cR, fR, cX, fX, hwr, hxr, hne, hne', c3, f3, z3_0, z3_1]) rfl ?_
              exact ⟨_, rfl, (by repeat (first | with_reducible exact New.refl _ | with_reducible assumption | with_reducible refine New.drew ?_ | with_reducible refine New.drewN ?_ _ | with_reducible refine New.alloc ?_ _ | with_reducible refine New.setCell ?_ (by first | (simp; done) | (simp; omega) | omega) _ | with_reducible refine New.trans ?_ (by with_reducible assumption))), ⟨rfl, .inl ⟨rfl, rfl⟩⟩⟩
      · obtain rfl : k = ws.length := by omega
        have hRE : some ps = R := by rw [← hA.out, stI_end]
        subst hRE
        have HT := Lib.hid (fun (w0 : World) (h : RdI w0 (.slice pa ps.length pc) ps) => iIsTraffic_any n' (.slice pa ps.length pc) ps w0 h)
        have HO := Lib.hid hown
        clear hown hA
        rcases Bool.eq_false_or_eq_true (isTraf n' ps) with hT | hT
        · rw [hT] at HT
          have HTX := Lib.hid (fun (w0 : World) (h : RdI w0 (.slice pa ps.length pc) ps) (h2 : PW w0) => iTrafficText2_any n' (.slice pa ps.length pc) ps w0 h hT h2)
          have hcm := strL_cmp (ttext n' ps) s
          rcases Bool.eq_false_or_eq_true (ttext n' ps == s.data.toList) with hE | hE
          · have hRD := Lib.hid (show rdIP s.data.toList n' (some ps) = some (n', ps) by rw [rdIP, if_pos (by rw [hT, hE]; rfl)])
            rw [hE] at hcm
            clear hE hT
            generalize strL (ttext n' ps) = tx at HTX hcm
            go_wp2_with fail
            refine (HT.out _ (RdI.new (own_rd HO.out) (by repeat (first | with_reducible exact New.refl _ | with_reducible assumption | with_reducible refine New.drew ?_ | with_reducible refine New.drewN ?_ _ | with_reducible refine New.alloc ?_ _ | with_reducible refine New.setCell ?_ (by first | (simp; done) | (simp; omega) | omega) _ | with_reducible refine New.trans ?_ (by with_reducible assumption))))).mono ?_; rintro e w3 ⟨rfl, b3⟩
            try with_reducible replace b3 := New.undrawN b3
            try with_reducible replace b3 := New.undraw b3
            obtain ⟨c3, f3⟩ := b3.rules
            have z3 := b3.size
            try simp only [World.size_alloc, World.size_drew, World.heap_drewN, World.size_setCell] at z3
            have z3_0 : w.heap.size < w3.heap.size := by omega
            have z3_1 : w2.heap.size < w3.heap.size := by omega
            go_wp2_with fail
            refine (HTX.out _ (RdI.new (own_rd HO.out) (by repeat (first | with_reducible exact New.refl _ | with_reducible assumption | with_reducible refine New.drew ?_ | with_reducible refine New.drewN ?_ _ | with_reducible refine New.alloc ?_ _ | with_reducible refine New.setCell ?_ (by first | (simp; done) | (simp; omega) | omega) _ | with_reducible refine New.trans ?_ (by with_reducible assumption)))) (HPW.out.new (by repeat (first | with_reducible exact New.refl _ | with_reducible assumption | with_reducible refine New.drew ?_ | with_reducible refine New.drewN ?_ _ | with_reducible refine New.alloc ?_ _ | with_reducible refine New.setCell ?_ (by first | (simp; done) | (simp; omega) | omega) _ | with_reducible refine New.trans ?_ (by with_reducible assumption))))).mono ?_; rintro e w4 ⟨rfl, b4⟩
            try with_reducible replace b4 := New.undrawN b4
            try with_reducible replace b4 := New.undraw b4
            obtain ⟨c4, f4⟩ := b4.rules
            have z4 := b4.size
            try simp only [World.size_alloc, World.size_drew, World.heap_drewN, World.size_setCell] at z4
            have z4_0 : w.heap.size < w4.heap.size := by omega
            have z4_1 : w2.heap.size < w4.heap.size := by omega
            go_wp2_with fail
            refine bodyPost_ret (v := .tuple #[.agg #[.int .i64 n', .slice pa ps.length pc], .bool true]) (by simp [results, Tryd.results8, go_sem, cR, fR, cX, fX, hwr, hxr, hne, hne', c3, f3, c4, f4, z3_0, z3_1, z4_0, z4_1]) rfl ?_
            rw [hRD.out]
            refine ⟨_, rfl, (by repeat (first | with_reducible exact New.refl _ | with_reducible assumption | with_reducible refine New.drew ?_ | with_reducible refine New.drewN ?_ _ | with_reducible refine New.alloc ?_ _ | with_reducible refine New.setCell ?_ (by first | (simp; done) | (simp; omega) | omega) _ | with_reducible refine New.trans ?_ (by with_reducible assumption))), ?_⟩
            have h5 := ownsRow_setCell_below (ownsRow_setCell_below (own_new (own_new HO.out b3) b4) (a := ⟨w.heap.size, 0, none⟩) (by simp; omega) (.int .i64 n')) (a := ⟨w.heap.size, 1, none⟩) (by simp; omega) (.slice pa ps.length pc)
            simpa using own_base h5 (by omega)
          · have hRD := Lib.hid (show rdIP s.data.toList n' (some ps) = none by rw [rdIP, if_neg (by rw [hE]; simp)])
            rw [hE] at hcm
            clear hE hT
            generalize strL (ttext n' ps) = tx at HTX hcm
            go_wp2_with fail
            refine (HT.out _ (RdI.new (own_rd HO.out) (by repeat (first | with_reducible exact New.refl _ | with_reducible assumption | with_reducible refine New.drew ?_ | with_reducible refine New.drewN ?_ _ | with_reducible refine New.alloc ?_ _ | with_reducible refine New.setCell ?_ (by first | (simp; done) | (simp; omega) | omega) _ | with_reducible refine New.trans ?_ (by with_reducible assumption))))).mono ?_; rintro e w3 ⟨rfl, b3⟩
            try with_reducible replace b3 := New.undrawN b3
            try with_reducible replace b3 := New.undraw b3
            obtain ⟨c3, f3⟩ := b3.rules
            have z3 := b3.size
            try simp only [World.size_alloc, World.size_drew, World.heap_drewN, World.size_setCell] at z3
            have z3_0 : w.heap.size < w3.heap.size := by omega
            have z3_1 : w2.heap.size < w3.heap.size := by omega
            go_wp2_with fail
            refine (HTX.out _ (RdI.new (own_rd HO.out) (by repeat (first | with_reducible exact New.refl _ | with_reducible assumption | with_reducible refine New.drew ?_ | with_reducible refine New.drewN ?_ _ | with_reducible refine New.alloc ?_ _ | with_reducible refine New.setCell ?_ (by first | (simp; done) | (simp; omega) | omega) _ | with_reducible refine New.trans ?_ (by with_reducible assumption)))) (HPW.out.new (by repeat (first | with_reducible exact New.refl _ | with_reducible assumption | with_reducible refine New.drew ?_ | with_reducible refine New.drewN ?_ _ | with_reducible refine New.alloc ?_ _ | with_reducible refine New.setCell ?_ (by first | (simp; done) | (simp; omega) | omega) _ | with_reducible refine New.trans ?_ (by with_reducible assumption))))).mono ?_; rintro e w4 ⟨rfl, b4⟩
            try with_reducible replace b4 := New.undrawN b4
            try with_reducible replace b4 := New.undraw b4
            obtain ⟨c4, f4⟩ := b4.rules
            have z4 := b4.size
            try simp only [World.size_alloc, World.size_drew, World.heap_drewN, World.size_setCell] at z4
            have z4_0 : w.heap.size < w4.heap.size := by omega
            have z4_1 : w2.heap.size < w4.heap.size := by omega
            go_wp2_with fail
            refine bodyPost_ret (v := .tuple #[.agg #[.int .i64 0, .slice none 0 0], .bool false]) (by simp [results, Tryd.results8, go_sem, cR, fR, cX, fX, hwr, hxr, hne, hne', c3, f3, c4, f4, z3_0, z3_1, z4_0, z4_1]) rfl ?_
            rw [hRD.out]
            exact ⟨_, rfl, (by repeat (first | with_reducible exact New.refl _ | with_reducible assumption | with_reducible refine New.drew ?_ | with_reducible refine New.drewN ?_ _ | with_reducible refine New.alloc ?_ _ | with_reducible refine New.setCell ?_ (by first | (simp; done) | (simp; omega) | omega) _ | with_reducible refine New.trans ?_ (by with_reducible assumption))), ⟨rfl, .inl ⟨rfl, rfl⟩⟩⟩
        · rw [hT] at HT
          have hRD := Lib.hid (show rdIP s.data.toList n' (some ps) = none by rw [rdIP, if_neg (by rw [hT]; simp)])
          clear hT
          go_wp2_with fail
          refine (HT.out _ (RdI.new (own_rd HO.out) (by repeat (first | with_reducible exact New.refl _ | with_reducible assumption | with_reducible refine New.drew ?_ | with_reducible refine New.drewN ?_ _ | with_reducible refine New.alloc ?_ _ | with_reducible refine New.setCell ?_ (by first | (simp; done) | (simp; omega) | omega) _ | with_reducible refine New.trans ?_ (by with_reducible assumption))))).mono ?_; rintro e w3 ⟨rfl, b3⟩
          try with_reducible replace b3 := New.undrawN b3
          try with_reducible replace b3 := New.undraw b3
          obtain ⟨c3, f3⟩ := b3.rules
          have z3 := b3.size
          try simp only [World.size_alloc, World.size_drew, World.heap_drewN, World.size_setCell] at z3
          have z3_0 : w.heap.size < w3.heap.size := by omega
          have z3_1 : w2.heap.size < w3.heap.size := by omega
          go_wp2_with fail
          refine bodyPost_ret (v := .tuple #[.agg #[.int .i64 0, .slice none 0 0], .bool false]) (by simp [results, Tryd.results8, go_sem, cR, fR, cX, fX, hwr, hxr, hne, hne', c3, f3, z3_0, z3_1]) rfl ?_
          rw [hRD.out]
          exact ⟨_, rfl, (by repeat (first | with_reducible exact New.refl _ | with_reducible assumption | with_reducible refine New.drew ?_ | with_reducible refine New.drewN ?_ _ | with_reducible refine New.alloc ?_ _ | with_reducible refine New.setCell ?_ (by first | (simp; done) | (simp; omega) | omega) _ | with_reducible refine New.trans ?_ (by with_reducible assumption))), ⟨rfl, .inl ⟨rfl, rfl⟩⟩⟩
end Go.Proofs.YtommolbkcjpjhaaDoor
