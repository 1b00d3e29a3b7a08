/- Contracts: the reading of a traffic's text. -/
import Derived.Deep.RegionHeld3
import Derived.Test.YtommolbkcjpjhaaDoorProg
import Derived.Test.YtommolbkcjpjhaaDoorTrafR
import Derived.Test.YtommolbkcjpjhaaDoorNumW
import Derived.Test.YtommolbkcjpjhaaDoorStripW
import Derived.Test.YtommolbkcjpjhaaDoorStrs
import Derived.Test.YtommolbkcjpjhaaDoorDrawB
import Derived.Test.YtommolbkcjpjhaaDoorAppStep
namespace Go.Proofs.YtommolbkcjpjhaaDoor
open Go Go.Proofs Go.RowKit
set_option linter.unusedVariables false
set_option linter.unusedSimpArgs false
set_option maxRecDepth 100000
theorem init_ext (s : ByteArray) : (s.extract 0 (s.size - 1)).data.toList = s.data.toList.dropLast := by
  have hlen : s.data.toList.length = s.size := by rw [Array.length_toList]; rfl
  rw [ByteArray.data_extract, Array.toList_extract, List.dropLast_eq_take, hlen]
  simp
theorem last_byte {s : ByteArray} (h : 0 < s.size) : s.data.toList.getLastD 0 = s[s.size - 1] := by
  have hlen : s.data.toList.length = s.size := by rw [Array.length_toList]; rfl
  rw [List.getLastD_eq_getLast?, List.getLast?_eq_getElem?, hlen, List.getElem?_eq_getElem (by omega)]
  rfl
theorem byte_eq {c : UInt8} {d : Nat} (hd : d < 256) : ((c.toNat : Int) == (d : Int)) = decide (c = UInt8.ofNat d) := by
  rw [Bool.eq_iff_iff, beq_iff_eq, decide_eq_true_eq]
  constructor
  · intro h
    have h' := Int.ofNat_inj.1 h
    apply UInt8.toNat_inj.1
    rw [h']; simp; omega
  · rintro rfl
    simp; omega
theorem i64_sm (x : Int) (h0 : 0 ≤ x) (h1 : x ≤ 4000000000000) : IntKind.i64.wrap x = x := i64_in' x (by omega) (by omega)
set_option maxHeartbeats 1000000 in
theorem sPlace_any (s : ByteArray) (w : World) (hs : s.size ≤ 1048576) :
    Calls Tryd.prog 28 #[.string s] w fun e w' => e = .returned (.tuple #[.int .i64 (plcS s.data.toList).1, .bool (plcS s.data.toList).2]) ∧ New w w' := by
  have hlen : s.data.toList.length = s.size := by rw [Array.length_toList]; rfl
  by_cases h2 : (s.size : Int) < 2
  · have hP : plcS s.data.toList = (0, false) := by rw [plcS, if_pos (by omega)]
    rw [hP]
    clear hlen hP
    go_enter Tryd.func28, Tryd.ntmps28
    go_wp2_with fail
    go_ret2
    exact ⟨rfl, New.refl _⟩
  · have hV := sValue_any (s.extract 0 (s.size - 1)) w (by rw [ByteArray.size_extract]; omega)
    rw [init_ext] at hV
    have hL := last_byte (s := s) (by omega)
    obtain ⟨P, hP⟩ : ∃ P, plcS s.data.toList = P := ⟨_, rfl⟩
    rw [hP]
    rw [plcS, if_neg (by omega), hL] at hP
    have hn0 := sval_nonneg s.data.toList.dropLast
    have hn1 := sval_lt s.data.toList.dropLast
    generalize sval s.data.toList.dropLast = R at hV hP hn0 hn1
    obtain ⟨b, ok⟩ := R
    have HV := Lib.hid hV
    have hz : s.size - 1 < s.size := by omega
    have hz1 : (s.size : Int) - 1 = ((s.size - 1 : Nat) : Int) := by omega
    generalize hc : s[s.size - 1] = c at hP
    have HC := Lib.hid hc
    clear hV hL hlen
    dsimp only at hP hn0 hn1
    have g0 := i64_sm (3 * b) (by omega) (by omega)
    have g1 := i64_sm (3 * b + 1) (by omega) (by omega)
    have g2 := i64_sm (3 * b + 2) (by omega) (by omega)
    have g3 := i64_sm (s.size - 1 : Nat) (by omega) (by omega)
    by_cases c1 : c = 114
    · subst c1
      rw [if_pos rfl] at hP; subst hP
      have hcz : s[s.size - 1].toNat = 114 := by rw [HC.out]; rfl
      go_enter Tryd.func28, Tryd.ntmps28
      go_wp2_with fail
      refine (HV.out).mono ?_; rintro e w1 ⟨rfl, b1⟩
      try with_reducible replace b1 := New.undrawN b1
      try with_reducible replace b1 := New.undraw b1
      obtain ⟨c1, f1⟩ := b1.rules
      have z1 := b1.size
      try simp only [World.size_alloc, World.size_drew, World.heap_drewN, World.size_setCell] at z1
      go_wp2_with fail
      go_ret2
      exact ⟨rfl, (by repeat (first | with_reducible exact New.refl _ | with_reducible assumption | with_reducible refine New.drew ?_ | with_reducible refine New.drewN ?_ _ | with_reducible refine New.alloc ?_ _ | with_reducible refine New.setCell ?_ (by first | (simp; done) | (simp; omega) | omega) _ | with_reducible refine New.trans ?_ (by with_reducible assumption)))⟩
    · by_cases c2 : c = 104
      · subst c2
        rw [if_neg (by decide), if_pos rfl] at hP; subst hP
        have hcz : s[s.size - 1].toNat = 104 := by rw [HC.out]; rfl
        go_enter Tryd.func28, Tryd.ntmps28
        go_wp2_with fail
        refine (HV.out).mono ?_; rintro e w1 ⟨rfl, b1⟩
        try with_reducible replace b1 := New.undrawN b1
        try with_reducible replace b1 := New.undraw b1
        obtain ⟨c1, f1⟩ := b1.rules
        have z1 := b1.size
        try simp only [World.size_alloc, World.size_drew, World.heap_drewN, World.size_setCell] at z1
        go_wp2_with fail
        go_ret2
        exact ⟨rfl, (by repeat (first | with_reducible exact New.refl _ | with_reducible assumption | with_reducible refine New.drew ?_ | with_reducible refine New.drewN ?_ _ | with_reducible refine New.alloc ?_ _ | with_reducible refine New.setCell ?_ (by first | (simp; done) | (simp; omega) | omega) _ | with_reducible refine New.trans ?_ (by with_reducible assumption)))⟩
      · by_cases c3 : c = 99
        · subst c3
          rw [if_neg (by decide), if_neg (by decide), if_pos rfl] at hP; subst hP
          have hcz : s[s.size - 1].toNat = 99 := by rw [HC.out]; rfl
          go_enter Tryd.func28, Tryd.ntmps28
          go_wp2_with fail
          refine (HV.out).mono ?_; rintro e w1 ⟨rfl, b1⟩
          try with_reducible replace b1 := New.undrawN b1
          try with_reducible replace b1 := New.undraw b1
          obtain ⟨c1, f1⟩ := b1.rules
          have z1 := b1.size
          try simp only [World.size_alloc, World.size_drew, World.heap_drewN, World.size_setCell] at z1
          go_wp2_with fail
          go_ret2
          exact ⟨rfl, (by repeat (first | with_reducible exact New.refl _ | with_reducible assumption | with_reducible refine New.drew ?_ | with_reducible refine New.drewN ?_ _ | with_reducible refine New.alloc ?_ _ | with_reducible refine New.setCell ?_ (by first | (simp; done) | (simp; omega) | omega) _ | with_reducible refine New.trans ?_ (by with_reducible assumption)))⟩
        · rw [if_neg c1, if_neg c2, if_neg c3] at hP; subst hP
          have hn1 : ((c.toNat : Int) == 114) = false := by rw [show (114 : Int) = ((114 : Nat) : Int) from rfl, byte_eq (by omega)]; simpa using c1
          have hn2 : ((c.toNat : Int) == 104) = false := by rw [show (104 : Int) = ((104 : Nat) : Int) from rfl, byte_eq (by omega)]; simpa using c2
          have hn3 : ((c.toNat : Int) == 99) = false := by rw [show (99 : Int) = ((99 : Nat) : Int) from rfl, byte_eq (by omega)]; simpa using c3
          clear c1 c2 c3
          go_enter Tryd.func28, Tryd.ntmps28
          go_wp2_with fail
          refine (HV.out).mono ?_; rintro e w1 ⟨rfl, b1⟩
          try with_reducible replace b1 := New.undrawN b1
          try with_reducible replace b1 := New.undraw b1
          obtain ⟨c1, f1⟩ := b1.rules
          have z1 := b1.size
          try simp only [World.size_alloc, World.size_drew, World.heap_drewN, World.size_setCell] at z1
          go_wp2_with fail
          go_ret2
          exact ⟨rfl, (by repeat (first | with_reducible exact New.refl _ | with_reducible assumption | with_reducible refine New.drew ?_ | with_reducible refine New.drewN ?_ _ | with_reducible refine New.alloc ?_ _ | with_reducible refine New.setCell ?_ (by first | (simp; done) | (simp; omega) | omega) _ | with_reducible refine New.trans ?_ (by with_reducible assumption)))⟩
/-- A traffic, or none, in new memory. -/
def RetRd (w : World) (R : Option (Int × List Int)) (e : Ending) (w' : World) : Prop :=
  ∃ v, e = .returned (.tuple #[.agg #[.int .i64 ((R.map Prod.fst).getD 0), v], .bool R.isSome]) ∧ New w w' ∧ w'.ownsRow w.heap.size 2 1 v ((R.map Prod.snd).getD []).length (((R.map Prod.snd).getD []).map (Value.int .i64))
theorem own_empty_at {w : World} {base b : Nat} {e : TypeId} {sz : Nat} (h : base ≤ w.heap.size) (hb : b = w.heap.size) : (w.alloc (.cells #[] e)).ownsRow base e sz (.slice (some ⟨b, 0, none⟩) 0 0) 0 [] := by subst hb; exact own_empty h
theorem words_open {w' : World} {b : Nat} {r : Value} {x0 : List UInt8} {ws : List (List UInt8)} (h : w'.ownsRow b 9 1 r (x0 :: ws).length ((x0 :: ws).map (fun y => Value.string (strL y)))) :
    ∃ g cap, r = .slice (some ⟨g, 0, none⟩) (ws.length + 1) cap ∧ ws.length + 1 ≤ cap ∧ g < w'.heap.size ∧ w'.cell? ⟨g, 0, none⟩ = some (.string (strL x0)) ∧ Hid (∀ wr, New w' wr → ∀ k (hk : k < ws.length), wr.cell? ⟨g, k + 1, none⟩ = some (.string (strL ws[k]))) := by
  obtain ⟨g, cap, rfl⟩ : ∃ g cap, r = .slice (some ⟨g, 0, none⟩) (ws.length + 1) cap := by
    rcases h.2 with ⟨_, h⟩ | ⟨g, cap, cur, h, _⟩
    · simp at h
    · exact ⟨g, cap, h⟩
  have hg := (own_block_lt h g rfl).2
  refine ⟨g, cap, rfl, (own_rd h).cap, hg, ?_, Lib.hid fun wr hn k hk => ?_⟩
  · rw [h.cellAt 0 (by simp)]; simp
  · rw [(own_new h hn).cellAt (k + 1) (by simp; omega)]; simp [hk]
theorem stS_step {ws : List (List UInt8)} {k : Nat} (h : k < ws.length) (ps : List Int) : stS (ws.drop k) true ps = stS (ws.drop (k + 1)) (plcS ws[k]).2 (ps ++ [(plcS ws[k]).1]) := by
  rw [List.drop_eq_getElem_cons h, stS]
theorem stS_end {ws : List (List UInt8)} (ok : Bool) (ps : List Int) : stS (ws.drop ws.length) ok ps = (ok, ps) := by rw [List.drop_length]; rfl
set_option maxHeartbeats 2000000 in
theorem sRead_any (s : ByteArray) (w : World) (hs : s.size ≤ 1048576) : Calls Tryd.prog 10 #[.string s] w (RetRd w (rdS s.data.toList)) := by
  obtain ⟨i0, hi, hz0, hz1, hz2⟩ := info_parts infoInt
  have hlen : s.data.toList.length = s.size := by rw [Array.length_toList]; rfl
  have HSP : ∀ w0, Calls Tryd.prog 26 #[.string s, .int .u8 32] w0 _ := fun w0 => sSplit_any s 32 w0 hs
  obtain ⟨x0, ws, hW⟩ : ∃ x ws, spl 32 s.data.toList = x :: ws := ⟨_, _, spl_cons 32 _⟩
  have hwl := spl_len 32 s.data.toList
  have hml := spl_mem_len 32 s.data.toList
  have hR : rdS s.data.toList = rdSW x0 ws := by rw [rdS, hW]; rfl
  rw [hR]
  rw [hW] at HSP hwl hml
  clear hW hR
  have HPL := Lib.hid (fun (k : Nat) (h : k < ws.length) (w0 : World) => (by
    have h1 := sPlace_any (strL ws[k]) w0 (by rw [strL_size]; have := hml ws[k] (by simp); omega)
    rw [strL_list] at h1; exact h1 : Calls Tryd.prog 28 #[.string (strL ws[k])] w0 fun e w' => e = .returned (.tuple #[.int .i64 (plcS ws[k]).1, .bool (plcS ws[k]).2]) ∧ New w0 w'))
  have HV := fun (w0 : World) => sValue_any (strL x0) w0 (by rw [strL_size]; have := hml x0 (by simp); omega)
  rw [strL_list] at HV
  rw [rdSW]
  generalize sval x0 = R0 at HV
  obtain ⟨n, ok0⟩ := R0
  dsimp only at HV ⊢
  replace HV := Lib.hid HV
  replace HSP := Lib.hid HSP
  have hwl' : ws.length ≤ 1048576 := by simp at hwl; omega
  clear hlen hwl hml
  obtain ⟨R, hRR⟩ : ∃ R, stS ws ok0 [] = R := ⟨_, rfl⟩
  rw [hRR]
  replace hRR := Lib.hid hRR
  obtain ⟨okR, psR⟩ := R
  go_enter Tryd.func10, Tryd.ntmps10
  go_wp2_with fail
  refine (HSP.out _).mono ?_; rintro e w1 ⟨r1, rfl, b1, o1⟩
  obtain ⟨g, cap, rfl, hcap, hg, hx0, HX⟩ := words_open o1; clear o1
  obtain ⟨c1, f1⟩ := b1.rules
  have z1 := b1.size
  try simp only [World.size_alloc, World.size_drew, World.heap_drewN, World.size_setCell] at z1
  have z1_0 : w.heap.size < w1.heap.size := by omega
  go_wp2_with fail
  refine (HV.out _).mono ?_; rintro e w2 ⟨rfl, b2⟩
  try with_reducible replace b2 := New.undrawN b2
  try with_reducible replace b2 := New.undraw b2
  obtain ⟨c2, f2⟩ := b2.rules
  have z2 := b2.size
  try simp only [World.size_alloc, World.size_drew, World.heap_drewN, World.size_setCell] at z2
  have z2_0 : w.heap.size < w2.heap.size := by omega
  go_wp2_with fail
  have own0 : ((w2.alloc (.cells #[.int .i64 n, .slice none 0 0] 26)).alloc (.cells #[] 2)).ownsRow (w2.heap.size + 1) 2 1 (.slice (some ⟨w2.heap.size + 1, 0, none⟩) 0 0) 0 [] := own_empty_at (by rw [World.size_alloc]; exact Nat.le_refl _) (World.size_alloc _ _).symm
  have hg2 : g < w2.heap.size := by omega
  replace own0 := Lib.hid own0
  have B2 : New (w.alloc (.cells #[.int .i64 0, .slice none 0 0] 26)) w2 := b1.trans b2
  have hX2 := Lib.hid (fun (wr : World) (hn : New (w2.alloc (.cells #[.int .i64 n, .slice none 0 0] 26)) wr) (k : Nat) (hk : k < ws.length) => HX.out wr (b2.trans (((New.refl w2).alloc _).trans hn)) k hk)
  have hw2 : w.heap.size < w2.heap.size := by omega
  clear HX hx0 hg c1 f1 c2 f2 b1 b2 HSP HV
  go_loopw [6, 8, 9] (fun ok o i wr => ∃ (k : Nat) (okb : Bool) (ps : List Int), k ≤ ws.length ∧ i = .int .i64 ((k + 1 : Nat) : Int) ∧ ok = .bool okb ∧ Hid (stS (ws.drop k) okb ps = (okR, psR)) ∧ ps.length ≤ k ∧ New (w2.alloc (.cells #[.int .i64 n, .slice none 0 0] 26)) wr ∧ wr.ownsRow (w2.heap.size + 1) 2 1 o ps.length (ps.map (Value.int .i64))) (fun _ _ i _ => ws.length + 1 - (intOf i).toNat)
  case atStart => exact ⟨0, ok0, [], Nat.zero_le _, rfl, rfl, by simpa using hRR, Nat.le_refl _, (by repeat (first | with_reducible exact New.refl _ | with_reducible assumption | with_reducible refine New.drew ?_ | with_reducible refine New.drewN ?_ _ | with_reducible refine New.alloc ?_ _ | with_reducible refine New.setCell ?_ (by first | (simp; done) | (simp; omega) | omega) _ | with_reducible refine New.trans ?_ (by with_reducible assumption))), own0.out⟩
  case round =>
    obtain ⟨k, okb, ps, hk, rfl, rfl, hA, hpk, hb, hown⟩ := hrel
    clear own0 hRR
    have hbz := hb.size
    simp only [World.size_alloc] at hbz
    have hgr : g < wr.heap.size := by omega
    by_cases hgo : k < ws.length ∧ okb = true
    · obtain ⟨hlt, rfl⟩ := hgo
      have hx := hX2.out wr hb k hlt
      have HP := Lib.hid (HPL.out k hlt)
      have HA := hA.out
      rw [stS_step hlt] at HA
      replace HA := Lib.hid HA
      clear hA
      generalize plcS ws[k] = P at HP HA
      generalize ws[k] = y at hx HP
      obtain ⟨p, ok1⟩ := P
      dsimp only at HP HA
      go_wp2_with fail
      refine (HP.out _).mono ?_; rintro e w3 ⟨rfl, b3⟩
      try with_reducible replace b3 := New.undrawN b3
      try with_reducible replace b3 := New.undraw b3
      obtain ⟨c3, f3⟩ := b3.rules
      have z3 := b3.size
      try simp only [World.size_alloc, World.size_drew, World.heap_drewN, World.size_setCell] at z3
      have z3_0 : w.heap.size < w3.heap.size := by omega
      go_wp2_with (first | (at_builtin; refine wpList_append_own _ rfl _ _ 24 rfl (w2.heap.size + 1) 2 i0 (.int .i64 0) 1 8 Tryd.underlying24 hi hz0 hz1 hz2 rfl (by decide) _ _ _ rfl ((own_new hown b3).alloc _) ⟨w3.heap.size, 0, none⟩ 1 1 [.int .i64 (p)] rfl rfl (by intro j u hj; match j, hj with | 0, hj => simp at hj; subst hj; first | (simp [Addr.add]; done) | exact alloc_one rfl) (by intro u hu; simp at hu; subst hu; rfl) (by unfold maxLen; omega) (by omega) (by first | (simp; done) | (simp; omega) | omega) ?_; intro va wa howna hgra _))
      have ba := New.grown (show New (w2.alloc (.cells #[.int .i64 n, .slice none 0 0] 26)) _ from by exact (by repeat (first | with_reducible exact New.refl _ | with_reducible assumption | with_reducible refine New.drew ?_ | with_reducible refine New.drewN ?_ _ | with_reducible refine New.alloc ?_ _ | with_reducible refine New.setCell ?_ (by first | (simp; done) | (simp; omega) | omega) _ | with_reducible refine New.trans ?_ (by with_reducible assumption)))) hgra (fun q hq => by have := (own_block_lt hown q hq).1; simpa using this)
      go_roundw
      case rel => exact ⟨k + 1, ok1, ps ++ [p], by omega, by go_num, rfl, HA, by simp; omega, ba, by simpa using howna⟩
      case measure => simp [intOf]; omega
    · have hE : (okb, ps) = (okR, psR) := by
        rw [← hA.out]
        cases okb with
        | false => rw [stS_false]
        | true =>
          obtain rfl : k = ws.length := by
            rcases Nat.lt_or_ge k ws.length with h | h
            · exact absurd ⟨h, rfl⟩ hgo
            · omega
          rw [stS_end]
      obtain ⟨rfl, rfl⟩ := Prod.mk.inj hE
      clear hA hE
      have KR : Blk wr w.heap.size #[.int .i64 0, .slice none 0 0] 26 := (((Blk.alloc_at rfl).new B2).alloc _).new hb
      have KX : Blk wr w2.heap.size #[.int .i64 n, .slice none 0 0] 26 := (Blk.alloc_at rfl).new hb
      obtain ⟨cR, fR⟩ := KR.rules
      obtain ⟨cX, fX⟩ := KX.rules
      have hwr : w.heap.size < wr.heap.size := by omega
      have hxr : w2.heap.size < wr.heap.size := by omega
      have hne : w.heap.size ≠ w2.heap.size := by omega
      have hne' : w2.heap.size ≠ w.heap.size := by omega
      obtain ⟨pa, pc, rfl⟩ := own_slice hown
      have HT := Lib.hid (fun (w0 : World) (h : RdI w0 (.slice pa ps.length pc) ps) => sIsTraffic_any n (.slice pa ps.length pc) ps w0 h)
      have HO := Lib.hid (ownsRow_setCell_below hown (a := ⟨w2.heap.size, 1, none⟩) (by simp) (.slice pa ps.length pc))
      cases okb with
      | false =>
        have hRD := Lib.hid (show rdSP n (false, ps) = none by rw [rdSP, if_neg (by simp)])
        clear HT
        by_cases hlt : k < ws.length
        all_goals
          go_wp2_with fail
          refine bodyPost_ret (v := .tuple #[.agg #[.int .i64 0, .slice none 0 0], .bool false]) (by simp [results, Tryd.results10, go_sem, cR, fR, cX, fX, hwr, hxr, hne, hne']) rfl ?_
          rw [hRD.out]
          exact ⟨_, rfl, (by repeat (first | with_reducible exact New.refl _ | with_reducible assumption | with_reducible refine New.drew ?_ | with_reducible refine New.drewN ?_ _ | with_reducible refine New.alloc ?_ _ | with_reducible refine New.setCell ?_ (by first | (simp; done) | (simp; omega) | omega) _ | with_reducible refine New.trans ?_ (by with_reducible assumption))), ⟨rfl, .inl ⟨rfl, rfl⟩⟩⟩
      | true =>
        obtain rfl : k = ws.length := by
          rcases Nat.lt_or_ge k ws.length with h | h
          · exact absurd ⟨h, rfl⟩ hgo
          · omega
        have hRD := Lib.hid (show rdSP n (true, ps) = if isTraf n ps = true then some (n, ps) else none by simp [rdSP])
        rcases Bool.eq_false_or_eq_true (isTraf n ps) with hT | hT
        all_goals
          rw [hT] at hRD HT
          clear hT
          go_wp2_with fail
          refine (HT.out _ (own_rd HO.out)).mono ?_; rintro e w4 ⟨rfl, b4⟩
          try with_reducible replace b4 := New.undrawN b4
          try with_reducible replace b4 := New.undraw b4
          obtain ⟨c4, f4⟩ := b4.rules
          have z4 := b4.size
          try simp only [World.size_alloc, World.size_drew, World.heap_drewN, World.size_setCell] at z4
          have z4_0 : w.heap.size < w4.heap.size := by omega
          have z4_1 : w2.heap.size < w4.heap.size := by omega
          go_wp2_with fail
        · refine bodyPost_ret (v := .tuple #[.agg #[.int .i64 n, .slice pa ps.length pc], .bool true]) (by simp [results, Tryd.results10, go_sem, cR, fR, cX, fX, hwr, hxr, hne, hne', c4, f4]) rfl ?_
          rw [hRD.out]
          refine ⟨_, rfl, (by repeat (first | with_reducible exact New.refl _ | with_reducible assumption | with_reducible refine New.drew ?_ | with_reducible refine New.drewN ?_ _ | with_reducible refine New.alloc ?_ _ | with_reducible refine New.setCell ?_ (by first | (simp; done) | (simp; omega) | omega) _ | with_reducible refine New.trans ?_ (by with_reducible assumption))), ?_⟩
          have h5 := ownsRow_setCell_below (ownsRow_setCell_below (own_new HO.out b4) (a := ⟨w.heap.size, 0, none⟩) (by simp; omega) (.int .i64 n)) (a := ⟨w.heap.size, 1, none⟩) (by simp; omega) (.slice pa ps.length pc)
          simpa using own_base h5 (by omega)
        · refine bodyPost_ret (v := .tuple #[.agg #[.int .i64 0, .slice none 0 0], .bool false]) (by simp [results, Tryd.results10, go_sem, cR, fR, cX, fX, hwr, hxr, hne, hne', c4, f4]) rfl ?_
          rw [hRD.out]
          exact ⟨_, rfl, (by repeat (first | with_reducible exact New.refl _ | with_reducible assumption | with_reducible refine New.drew ?_ | with_reducible refine New.drewN ?_ _ | with_reducible refine New.alloc ?_ _ | with_reducible refine New.setCell ?_ (by first | (simp; done) | (simp; omega) | omega) _ | with_reducible refine New.trans ?_ (by with_reducible assumption))), ⟨rfl, .inl ⟨rfl, rfl⟩⟩⟩
theorem phI_index (c : UInt8) : Lib.indexByte [114, 104, 99] c = phI c := by
  unfold phI
  by_cases h1 : c = 114
  · subst h1; decide
  · have e1 : ((114 : UInt8) == c) = false := by simpa using fun e => h1 e.symm
    by_cases h2 : c = 104
    · subst h2; decide
    · have e2 : ((104 : UInt8) == c) = false := by simpa using fun e => h2 e.symm
      by_cases h3 : c = 99
      · subst h3; decide
      · have e3 : ((99 : UInt8) == c) = false := by simpa using fun e => h3 e.symm
        simp [Lib.indexByte, e1, e2, e3, h1, h2, h3]
theorem phI_bd (c : UInt8) : -1 ≤ phI c ∧ phI c ≤ 2 := by unfold phI; split; omega; split; omega; split <;> omega
theorem rdI_one {w : World} {b : Nat} {p : Int} {T : TypeId} (hb : b = w.heap.size) : Rd (w.alloc (.cells #[.int .i64 p] T)) (.slice (some ⟨b, 0, none⟩) 1 1) 1 [.int .i64 p] := by
  subst hb
  refine ⟨_, _, rfl, by omega, ⟨⟨fun h => (nomatch h), Nat.le_refl _⟩, fun j u hu => ?_⟩⟩
  have hj : j = 0 := by have := (List.getElem?_eq_some_iff.1 hu).1; simp at this; omega
  subst hj
  have : u = .int .i64 p := by simpa using hu.symm
  subst this
  exact ⟨w.heap.size, 0, rfl, by simp, by rw [cell_alloc_new _ _ _ _ _ rfl]; rfl⟩
theorem own_cellsB {w : World} {base b n : Nat} {e : TypeId} {cs : Array Value} (h : base ≤ w.heap.size) (hb : b = w.heap.size) (hn : n = cs.size) (hm : cs.size ≤ 100000000) : (w.alloc (.cells cs e)).ownsRow base e 1 (.slice (some ⟨b, 0, none⟩) n n) n cs.toList := by
  subst hb hn
  refine ⟨by simp, .inr ⟨w.heap.size, cs.size, cs, rfl, h, Array.getElem?_push_size, Nat.le_refl _, by unfold maxLen; omega, by simp, by rw [Nat.mul_one, List.take_of_length_le (by simp)]⟩⟩
theorem stI_some {ws : List (List UInt8)} {k : Nat} (h : k < ws.length) {ps : List Int} {p : Int} (hp : plcI ws[k] = some p) : stI (ws.drop k) ps = stI (ws.drop (k + 1)) (ps ++ [p]) := by
  rw [List.drop_eq_getElem_cons h, stI, hp]
theorem stI_none {ws : List (List UInt8)} {k : Nat} (h : k < ws.length) {ps : List Int} (hp : plcI ws[k] = none) : stI (ws.drop k) ps = none := by
  rw [List.drop_eq_getElem_cons h, stI, hp]
theorem stI_end {ws : List (List UInt8)} (ps : List Int) : stI (ws.drop ws.length) ps = some ps := by rw [List.drop_length]; rfl
theorem iSplit_any (s : ByteArray) (c : UInt8) (w : World) (hs : s.size ≤ 1048576) (hm : ML w) :
    Calls Tryd.prog 20 #[.string s, .string ⟨#[c]⟩] w fun e w' => ∃ r, e = .returned r ∧ New w w' ∧ w'.ownsRow w.heap.size 9 1 r (spl c s.data.toList).length ((spl c s.data.toList).map (fun y => Value.string (strL y))) := by
  obtain ⟨m, hm⟩ := hm
  have hlen : s.data.toList.length = s.size := by rw [Array.length_toList]; rfl
  have HSP := Tryd.strings_Split s ⟨#[c]⟩ m w (by omega) hm (Nat.le_refl 1)
  have hcl := splitB_len c s
  rw [← hcl] at HSP
  have hsp := splitB_spl c s
  generalize Lib.splitB ⟨#[c]⟩ 0 (Lib.countB s ⟨#[c]⟩) s = L at hcl hsp HSP
  have hL : L = (spl c s.data.toList).map strL := by
    rw [← hsp, List.map_map]
    exact (List.map_id L).symm.trans (List.map_congr_left fun x _ => (strL_back x).symm)
  have hwl := spl_len c s.data.toList
  have e : (L.map Value.string).toArray.toList = (spl c s.data.toList).map (fun y => Value.string (strL y)) := by
    rw [List.toList_toArray, hL, List.map_map]; rfl
  have hz : (L.map Value.string).toArray.size = L.length := by simp
  have hll : L.length = (spl c s.data.toList).length := by rw [hL]; simp
  refine HSP.mono ?_
  rintro _ _ ⟨rfl, rfl⟩
  refine ⟨_, rfl, (New.refl w).alloc _, ?_⟩
  have h := own_cellsB (w := w) (base := w.heap.size) (e := 9) (cs := (L.map Value.string).toArray) (Nat.le_refl _) rfl rfl (by rw [hz, hll]; omega)
  rw [e, hz, hll] at h
  rw [hll]; exact h
end Go.Proofs.YtommolbkcjpjhaaDoor
