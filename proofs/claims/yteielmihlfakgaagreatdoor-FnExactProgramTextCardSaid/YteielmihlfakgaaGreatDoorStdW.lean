/- Contracts: standard texts: the reference. -/
import Derived.Lib.AppendStr
import Derived.Laws.AppendOwn
import Derived.Lib.UnsafeStr
import Derived.Test.YteielmihlfakgaaGreatDoorProg
import Derived.Test.YteielmihlfakgaaGreatDoorCountW
import Derived.Test.YteielmihlfakgaaGreatDoorVB
import Derived.Test.YteielmihlfakgaaGreatDoorVD
import Derived.Test.YteielmihlfakgaaGreatDoorVA
import Derived.Test.YteielmihlfakgaaGreatDoorUG
namespace Go.Proofs.YteielmihlfakgaaGreatDoor
open Go Go.Proofs Go.RowKit
set_option linter.unusedVariables false
set_option linter.unusedSimpArgs false
set_option maxRecDepth 100000
/-- Is the word the keyword of a block. -/
def blockW (s : ByteArray) : Bool := (keys.drop 11).any fun y => s.toList == y.toList
def isC (s : ByteArray) (c : UInt8) : Bool := s.toList == [c]
/-- Nothing stands between two texts. -/
def tightB (a b : ByteArray) : Bool := isC a 59 || (isC a 40 || (isC b 59 || (isC b 44 || (isC b 41 || (isC b 40 && blockW a)))))
theorem keyOf_block (s : ByteArray) : decide (keyOf s < 11) = !blockW s := by
  have hk : ∀ y ∈ keys, decide (keyOf y < 11) = !blockW y := by
    intro y hy
    have : ∀ l ∈ keyData, decide (keyOf (kw l) < 11) = !blockW (kw l) := by decide +kernel
    obtain ⟨l, hl, rfl⟩ := List.mem_map.1 hy
    exact this l hl
  cases h : isKey s with
  | true =>
    obtain ⟨y, hy, he⟩ := List.any_eq_true.1 h
    have e : s.toList = y.toList := by simpa using he
    have h1 : keyOf s = keyOf y := by unfold keyOf; rw [e]
    have h2 : blockW s = blockW y := by unfold blockW; rw [e]
    rw [h1, h2, hk y hy]
  | false =>
    have h1 : ¬ (0 ≤ keyOf s) := by have := keyOf_isKey s; rw [h] at this; simpa using this
    have h2 : blockW s = false := by
      rw [blockW, List.any_eq_false]
      intro y hy
      exact List.any_eq_false.1 h y (List.mem_of_mem_drop hy)
    rw [h2]; simp; omega
set_option maxHeartbeats 1000000 in
theorem sBlank_any (a b : ByteArray) (w : World) :
    Calls Tryz.prog 92 #[.string a, .string b] w fun e w' => e = .returned (.bool (!tightB a b)) ∧ New w w' := by
  have HB := Lib.hid (keyOf_block a)
  go_enter Tryz.func92, Tryz.ntmps92
  go_wp2_with (first | (go_at_call 77; refine (sKeyword_any a _).mono ?_; rintro e _ ⟨rfl, hnw⟩))
  all_goals go_ret
  all_goals refine ⟨ret_bool ?_, (by repeat (first | with_reducible exact New.refl _ | with_reducible assumption | with_reducible refine New.drew ?_ | with_reducible refine New.drewN ?_ _ | with_reducible refine New.alloc ?_ _ | with_reducible refine New.setCell ?_ (by first | (simp; done) | (simp; omega) | omega) _ | with_reducible refine New.trans ?_ (by with_reducible assumption)))⟩
  all_goals have hbk := HB.out
  all_goals clear HB
  all_goals rw [Bool.eq_iff_iff]
  all_goals simp_all [tightB, isC]
theorem iIsBlkStd_any (s : ByteArray) (w : World) (hk : KW w) :
    Calls Tryz.prog 30 #[.string s] w fun e w' => e = .returned (.bool (blockW s)) ∧ w = w' := by
  obtain ⟨a, cap, he, hn, ⟨_, h0⟩, hc⟩ := hk
  obtain ⟨rfl, -, rfl⟩ := Value.slice.inj he
  have hk2 : RdS w (.slice (some ⟨0, 11, none⟩) 6 6) (keys.drop 11) := by
    refine ⟨_, 6, rfl, by decide, ⟨(fun h => by cases h), Nat.le_refl _⟩, fun j u hu => ?_⟩
    have hu' : (keys.map Value.string)[11 + j]? = some u := by
      rw [List.map_drop, List.getElem?_drop] at hu; exact hu
    obtain ⟨b, off, hb, hl, hx⟩ := hc (11 + j) u hu'
    obtain ⟨rfl, rfl⟩ : b = 0 ∧ off = 0 := by simp at hb; exact ⟨hb.1.symm, hb.2.symm⟩
    exact ⟨_, 11, rfl, hl, by simpa using hx⟩
  go_enter Tryz.func30, Tryz.ntmps30
  go_wp2_with fail
  refine (containsS_any s _ (keys.drop 11) _ hk2).mono ?_
  rintro e w2 ⟨rfl, rfl⟩
  go_wp2_with fail
  go_ret
  exact ⟨rfl, rfl⟩
set_option maxHeartbeats 1000000 in
theorem iTight_any (k l : Int) (a b : ByteArray) (w : World) (hk : KW w) :
    Calls Tryz.prog 101 #[.agg #[.int .i64 k, .string a], .agg #[.int .i64 l, .string b]] w fun e w' => e = .returned (.bool (tightB a b)) ∧ New w w' := by
  have HK := Lib.hid hk
  clear hk
  go_enter Tryz.func101, Tryz.ntmps101
  go_wp2_with (go_at_call 30; refine (iIsBlkStd_any a _ (HK.out.new (by repeat (first | with_reducible exact New.refl _ | with_reducible assumption | with_reducible refine New.drew ?_ | with_reducible refine New.drewN ?_ _ | with_reducible refine New.alloc ?_ _ | with_reducible refine New.setCell ?_ (by first | (simp; done) | (simp; omega) | omega) _ | with_reducible refine New.trans ?_ (by with_reducible assumption))))).mono ?_; rintro e _ ⟨rfl, rfl⟩)
  all_goals go_ret
  all_goals refine ⟨ret_bool ?_, (by repeat (first | with_reducible exact New.refl _ | with_reducible assumption | with_reducible refine New.drew ?_ | with_reducible refine New.drewN ?_ _ | with_reducible refine New.alloc ?_ _ | with_reducible refine New.setCell ?_ (by first | (simp; done) | (simp; omega) | omega) _ | with_reducible refine New.trans ?_ (by with_reducible assumption)))⟩
  all_goals rw [Bool.eq_iff_iff]
  all_goals simp_all [tightB, isC]
def tx (ts : List EToken) (j : Nat) : ByteArray := (ts[j]?.map (·.text)).getD ⟨#[]⟩
theorem tx_at {ts : List EToken} {k : Nat} (h : k < ts.length) : tx ts k = ts[k].text := by simp [tx, h]
/-- What a token adds to the standard text. -/
def sepL (ts : List EToken) (j : Nat) : List UInt8 := if (decide (0 < j) && !tightB (tx ts (j - 1)) (tx ts j)) = true then [32] else []
def endL (t : ByteArray) : List UInt8 := if isC t 59 = true then [10] else []
def stdK (ts : List EToken) (k : Nat) : List UInt8 := (List.range k).flatMap fun j => sepL ts j ++ ((tx ts j).data.toList ++ endL (tx ts j))
theorem stdK_next (ts : List EToken) (k : Nat) : stdK ts (k + 1) = stdK ts k ++ (sepL ts k ++ ((tx ts k).data.toList ++ endL (tx ts k))) := by
  rw [stdK, List.range_succ, List.flatMap_append]; simp [stdK]
theorem dl_len (t : ByteArray) : t.data.toList.length = t.size := by rw [Array.length_toList]; rfl
theorem stdK_len {ts : List EToken} (hf : ∀ x ∈ ts, fitToken x) : ∀ k, k ≤ ts.length → (stdK ts k).length ≤ 1048578 * k := by
  intro k
  induction k with
  | zero => intro _; simp [stdK]
  | succ k ih =>
    intro hk
    have h1 := ih (by omega)
    have h2 : ts[k].text.size ≤ 1048576 := hf ts[k] (List.getElem_mem _)
    have h3 : (sepL ts k).length ≤ 1 := by unfold sepL; split <;> simp
    have h4 : (endL (tx ts k)).length ≤ 1 := by unfold endL; split <;> simp
    rw [stdK_next, List.length_append, List.length_append, List.length_append, dl_len, tx_at (by omega)]
    rw [tx_at (by omega)] at h4
    omega
theorem own_eq {w : World} {base : Nat} {e : TypeId} {sz : Nat} {v : Value} {n m : Nat} {cs ds : List Value} (h : w.ownsRow base e sz v n cs) (hn : n = m) (hc : cs = ds) : w.ownsRow base e sz v m ds := by subst hn hc; exact h
set_option maxHeartbeats 4000000 in
theorem sTextL_any (v : Value) (ts : List EToken) (w : World) (hv : Rd w v ts.length (ts.flatMap encToken)) (hf : ∀ x ∈ ts, fitToken x) (hl : ts.length ≤ 100000) (hT : ∀ k, k ≤ ts.length → (stdK ts k).length ≤ 840000000) :
    Calls Tryz.prog 54 #[v] w fun e w' => e = .returned (.string (strL (stdK ts ts.length))) ∧ New w w' := by
  obtain ⟨i0, hi, hz0, hz1, hz2⟩ := info_parts infoU8
  obtain ⟨a, cap, rfl, hm, HC⟩ := Rd.flat encToken_len (by omega) hv
  have HF := Lib.hid hf
  have HL := Lib.hid hT
  clear hv hf hT
  have own0 : (w.alloc (.cells #[] 5)).ownsRow w.heap.size 5 1 (.slice (some ⟨w.heap.size, 0, none⟩) 0 0) 0 [] := own_empty (Nat.le_refl _)
  go_enter Tryz.func54, Tryz.ntmps54
  go_wp2_with fail
  go_loopw [3, 4] (fun o i wr => ∃ k : Nat, k ≤ ts.length ∧ i = .int .i64 k ∧ New w wr ∧ wr.ownsRow w.heap.size 5 1 o (stdK ts k).length ((stdK ts k).map byteC)) (fun _ i _ => ts.length - (intOf i).toNat)
  case atStart => exact ⟨0, Nat.zero_le _, rfl, (by repeat (first | with_reducible exact New.refl _ | with_reducible assumption | with_reducible refine New.drew ?_ | with_reducible refine New.drewN ?_ _ | with_reducible refine New.alloc ?_ _ | with_reducible refine New.setCell ?_ (by first | (simp; done) | (simp; omega) | omega) _ | with_reducible refine New.trans ?_ (by with_reducible assumption))), by simpa [stdK] using own0⟩
  case round =>
    obtain ⟨k, hk, rfl, hN, hown⟩ := hrel
    clear own0
    obtain ⟨cN, fN⟩ := hN.rules
    have hNz := hN.size
    by_cases hlt : k < ts.length
    · obtain ⟨b, off, rfl, hbl, hx⟩ := HC.out k hlt
      have x1 := hx 1 _ (by omega) rfl
      replace hx := Lib.hid hx
      have hfit : ts[k].text.size ≤ 1048576 := HF.out ts[k] (List.getElem_mem hlt)
      have hlk := HL.out k hk
      have HP := Lib.hid (stdK_next ts k)
      have htx := tx_at hlt
      rw [htx] at HP
      have hdl := dl_len ts[k].text
      replace x1 : w.cell? ⟨b, off + k * 2 + 1, none⟩ = some (.string ts[k].text) := x1
      clear hx
      generalize ts[k].text = t at x1 hfit htx HP hdl
      rcases Nat.eq_zero_or_pos k with hk0 | hk0
      · subst hk0
        rw [Nat.zero_mul, Nat.add_zero] at x1
        have HS := Lib.hid (show sepL ts 0 = [] by simp [sepL])
        rcases Bool.eq_false_or_eq_true (isC t 59) with he | he
        · have HE := Lib.hid (show endL t = [10] by simp [endL, he])
          have he2 : (t.toList == [59]) = true := he
          replace he := Lib.hid he
          go_wp2_with fail
          refine RG.wp_facts [fun X _ => X = .int .i64 0, fun X _ => X = .bool false, fun X _ => X = .bool false, fun X _ => X = undef, fun X _ => X = undef, fun X _ => X = undef, fun X _ => X = undef, fun X _ => X = undef, fun X _ => X = undef, fun X _ => X = undef, fun X _ => X = undef, fun X _ => X = undef, fun X _ => X = undef, fun X _ => X = undef, fun X _ => X = undef, fun X _ => X = .bool false] (by kernel_rfl) (by kernel_rfl) ⟨RG.stable_eq _, RG.stable_eq _, RG.stable_eq _, RG.stable_eq _, RG.stable_eq _, RG.stable_eq _, RG.stable_eq _, RG.stable_eq _, RG.stable_eq _, RG.stable_eq _, RG.stable_eq _, RG.stable_eq _, RG.stable_eq _, RG.stable_eq _, RG.stable_eq _, RG.stable_eq _, trivial⟩ ?_ ?_
          · refine ⟨?_, ?_, ?_, ?_, ?_, ?_, ?_, ?_, ?_, ?_, ?_, ?_, ?_, ?_, ?_, ?_, trivial⟩
            · intro a w9 hw ho hk
              refine .inl ⟨by rfl, ?_⟩
              have t2 := ho 4 rfl
              dsimp at t2
              try with_reducible replace hw := New.undrawN hw
              try with_reducible replace hw := New.undraw hw
              obtain ⟨c, f'⟩ := hw.rules
              go_simp
              exact New.refl _
            · intro a w9 hw ho hk
              refine .inl ⟨by rfl, ?_⟩
              have t12 : a.tmps[12]?.getD undef = .int .i64 0 := hk 0 12 (by kernel_rfl) rfl
              go_simp
              exact New.refl _
            · intro a w9 hw ho hk
              refine .inl ⟨by rfl, ?_⟩
              have t13 : a.tmps[13]?.getD undef = .bool false := hk 1 13 (by kernel_rfl) rfl
              go_simp
              exact New.refl _
            · intro a w9 hw ho hk
              have t14 : a.tmps[14]?.getD undef = .bool false := hk 2 14 (by kernel_rfl) rfl
              exact .inr ⟨by simp [Region.wanted, yielded, RG.look t14], rfl⟩
            · intro a w9 hw ho hk
              have t14 : a.tmps[14]?.getD undef = .bool false := hk 2 14 (by kernel_rfl) rfl
              exact .inr ⟨by simp [Region.wanted, yielded, RG.look t14], rfl⟩
            · intro a w9 hw ho hk
              have t14 : a.tmps[14]?.getD undef = .bool false := hk 2 14 (by kernel_rfl) rfl
              exact .inr ⟨by simp [Region.wanted, yielded, RG.look t14], rfl⟩
            · intro a w9 hw ho hk
              have t14 : a.tmps[14]?.getD undef = .bool false := hk 2 14 (by kernel_rfl) rfl
              exact .inr ⟨by simp [Region.wanted, yielded, RG.look t14], rfl⟩
            · intro a w9 hw ho hk
              have t14 : a.tmps[14]?.getD undef = .bool false := hk 2 14 (by kernel_rfl) rfl
              exact .inr ⟨by simp [Region.wanted, yielded, RG.look t14], rfl⟩
            · intro a w9 hw ho hk
              have t14 : a.tmps[14]?.getD undef = .bool false := hk 2 14 (by kernel_rfl) rfl
              exact .inr ⟨by simp [Region.wanted, yielded, RG.look t14], rfl⟩
            · intro a w9 hw ho hk
              have t14 : a.tmps[14]?.getD undef = .bool false := hk 2 14 (by kernel_rfl) rfl
              exact .inr ⟨by simp [Region.wanted, yielded, RG.look t14], rfl⟩
            · intro a w9 hw ho hk
              have t14 : a.tmps[14]?.getD undef = .bool false := hk 2 14 (by kernel_rfl) rfl
              exact .inr ⟨by simp [Region.wanted, yielded, RG.look t14], rfl⟩
            · intro a w9 hw ho hk
              have t14 : a.tmps[14]?.getD undef = .bool false := hk 2 14 (by kernel_rfl) rfl
              exact .inr ⟨by simp [Region.wanted, yielded, RG.look t14], rfl⟩
            · intro a w9 hw ho hk
              have t14 : a.tmps[14]?.getD undef = .bool false := hk 2 14 (by kernel_rfl) rfl
              exact .inr ⟨by simp [Region.wanted, yielded, RG.look t14], rfl⟩
            · intro a w9 hw ho hk
              have t14 : a.tmps[14]?.getD undef = .bool false := hk 2 14 (by kernel_rfl) rfl
              exact .inr ⟨by simp [Region.wanted, yielded, RG.look t14], rfl⟩
            · intro a w9 hw ho hk
              have t14 : a.tmps[14]?.getD undef = .bool false := hk 2 14 (by kernel_rfl) rfl
              exact .inr ⟨by simp [Region.wanted, yielded, RG.look t14], rfl⟩
            · intro a w9 hw ho hk
              refine .inl ⟨by rfl, ?_⟩
              have t14 : a.tmps[14]?.getD undef = .bool false := hk 2 14 (by kernel_rfl) rfl
              go_simp
              exact New.refl _
          intro w2 b2 x0' h0' x1' h1' x2' h2' x3' h3' x4' h4' x5' h5' x6' h6' x7' h7' x8' h8' x9' h9' x10' h10' x11' h11' x12' h12' x13' h13' x14' h14' x15' h15'
          subst h0' h1' h2' h3' h4' h5' h6' h7' h8' h9' h10' h11' h12' h13' h14' h15'
          try with_reducible replace b2 := New.undrawN b2
          try with_reducible replace b2 := New.undraw b2
          obtain ⟨c2, f2⟩ := b2.rules
          have z2 := b2.size
          try simp only [World.size_alloc, World.size_drew, World.heap_drewN, World.size_setCell] at z2
          simp only [RG.EndAll, List.nil_append, List.cons_append, List.length_cons, List.length_nil, Nat.zero_add, Nat.reduceAdd, List.take_succ_cons, List.take_zero, List.drop_succ_cons, List.drop_zero, RG.putAll, Act.put, List.setIfInBounds_toArray, List.set_cons_succ, List.set_cons_zero]
          have bw := hN.trans b2
          have ow := own_new hown b2
          clear hown
          have bwz := b2.size
          have xw := (bw.cell hbl).trans x1
          have hbw : b < w2.heap.size := by omega
          go_wp2_with (first | (at_builtin; refine Lib.wpList_append_own_string _ rfl _ _ 22 9 rfl (w.heap.size) 5 i0 Tryz.underlying22 Tryz.underlying9 hi hz0 hz1 hz2 _ _ _ rfl (ow) (t) rfl (by unfold maxLen; omega) (by omega) (by first | (simp; done) | (simp; omega) | omega) ?_; intro va2 wa2 ho2 hg2 _; have ba2 := New.grown (bw) hg2 (fun q hq => by have := (own_block_lt (ow) q hq).1; simpa using this); have xa2 := (ba2.cell hbl).trans x1; have za2 := ba2.size) | (at_builtin; refine wpList_append_own _ rfl _ _ 22 rfl (w.heap.size) 5 i0 (.int .u8 0) 1 1 Tryz.underlying22 hi hz0 hz1 hz2 rfl (by decide) _ _ _ rfl (ho2.alloc _) ⟨_, 0, none⟩ 1 1 [byteC ((10 : UInt8))] rfl rfl (by intro j u hj; match j, hj with | 0, hj => simp at hj; subst hj; first | (simp [Addr.add, byteC]; done) | exact alloc_one rfl) (by intro u hu; simp at hu; subst hu; rfl) (by unfold maxLen; omega) (by omega) (by first | (simp; done) | (simp; omega) | omega) ?_; intro va3 wa3 ho3 hg3 _; have ba3 := New.grown (ba2.alloc _) hg3 (fun q hq => by have := (own_block_lt ho2 q hq).1; simpa using this)))
          go_roundw
          case rel => exact ⟨0 + 1, by omega, by go_num, ba3, own_eq ho3 (by rw [HP.out, HE.out, HS.out]; simp only [List.length_append, hdl, List.length_cons, List.length_nil]; omega) (by rw [HP.out, HE.out, HS.out]; simp [Lib.strCells, byteC]; try rfl)⟩
          case measure => simp [intOf]; omega
        · have HE := Lib.hid (show endL t = [] by simp [endL, he])
          have he2 : (t.toList == [59]) = false := he
          replace he := Lib.hid he
          go_wp2_with fail
          refine RG.wp_facts [fun X _ => X = .int .i64 0, fun X _ => X = .bool false, fun X _ => X = .bool false, fun X _ => X = undef, fun X _ => X = undef, fun X _ => X = undef, fun X _ => X = undef, fun X _ => X = undef, fun X _ => X = undef, fun X _ => X = undef, fun X _ => X = undef, fun X _ => X = undef, fun X _ => X = undef, fun X _ => X = undef, fun X _ => X = undef, fun X _ => X = .bool false] (by kernel_rfl) (by kernel_rfl) ⟨RG.stable_eq _, RG.stable_eq _, RG.stable_eq _, RG.stable_eq _, RG.stable_eq _, RG.stable_eq _, RG.stable_eq _, RG.stable_eq _, RG.stable_eq _, RG.stable_eq _, RG.stable_eq _, RG.stable_eq _, RG.stable_eq _, RG.stable_eq _, RG.stable_eq _, RG.stable_eq _, trivial⟩ ?_ ?_
          · refine ⟨?_, ?_, ?_, ?_, ?_, ?_, ?_, ?_, ?_, ?_, ?_, ?_, ?_, ?_, ?_, ?_, trivial⟩
            · intro a w9 hw ho hk
              refine .inl ⟨by rfl, ?_⟩
              have t2 := ho 4 rfl
              dsimp at t2
              try with_reducible replace hw := New.undrawN hw
              try with_reducible replace hw := New.undraw hw
              obtain ⟨c, f'⟩ := hw.rules
              go_simp
              exact New.refl _
            · intro a w9 hw ho hk
              refine .inl ⟨by rfl, ?_⟩
              have t12 : a.tmps[12]?.getD undef = .int .i64 0 := hk 0 12 (by kernel_rfl) rfl
              go_simp
              exact New.refl _
            · intro a w9 hw ho hk
              refine .inl ⟨by rfl, ?_⟩
              have t13 : a.tmps[13]?.getD undef = .bool false := hk 1 13 (by kernel_rfl) rfl
              go_simp
              exact New.refl _
            · intro a w9 hw ho hk
              have t14 : a.tmps[14]?.getD undef = .bool false := hk 2 14 (by kernel_rfl) rfl
              exact .inr ⟨by simp [Region.wanted, yielded, RG.look t14], rfl⟩
            · intro a w9 hw ho hk
              have t14 : a.tmps[14]?.getD undef = .bool false := hk 2 14 (by kernel_rfl) rfl
              exact .inr ⟨by simp [Region.wanted, yielded, RG.look t14], rfl⟩
            · intro a w9 hw ho hk
              have t14 : a.tmps[14]?.getD undef = .bool false := hk 2 14 (by kernel_rfl) rfl
              exact .inr ⟨by simp [Region.wanted, yielded, RG.look t14], rfl⟩
            · intro a w9 hw ho hk
              have t14 : a.tmps[14]?.getD undef = .bool false := hk 2 14 (by kernel_rfl) rfl
              exact .inr ⟨by simp [Region.wanted, yielded, RG.look t14], rfl⟩
            · intro a w9 hw ho hk
              have t14 : a.tmps[14]?.getD undef = .bool false := hk 2 14 (by kernel_rfl) rfl
              exact .inr ⟨by simp [Region.wanted, yielded, RG.look t14], rfl⟩
            · intro a w9 hw ho hk
              have t14 : a.tmps[14]?.getD undef = .bool false := hk 2 14 (by kernel_rfl) rfl
              exact .inr ⟨by simp [Region.wanted, yielded, RG.look t14], rfl⟩
            · intro a w9 hw ho hk
              have t14 : a.tmps[14]?.getD undef = .bool false := hk 2 14 (by kernel_rfl) rfl
              exact .inr ⟨by simp [Region.wanted, yielded, RG.look t14], rfl⟩
            · intro a w9 hw ho hk
              have t14 : a.tmps[14]?.getD undef = .bool false := hk 2 14 (by kernel_rfl) rfl
              exact .inr ⟨by simp [Region.wanted, yielded, RG.look t14], rfl⟩
            · intro a w9 hw ho hk
              have t14 : a.tmps[14]?.getD undef = .bool false := hk 2 14 (by kernel_rfl) rfl
              exact .inr ⟨by simp [Region.wanted, yielded, RG.look t14], rfl⟩
            · intro a w9 hw ho hk
              have t14 : a.tmps[14]?.getD undef = .bool false := hk 2 14 (by kernel_rfl) rfl
              exact .inr ⟨by simp [Region.wanted, yielded, RG.look t14], rfl⟩
            · intro a w9 hw ho hk
              have t14 : a.tmps[14]?.getD undef = .bool false := hk 2 14 (by kernel_rfl) rfl
              exact .inr ⟨by simp [Region.wanted, yielded, RG.look t14], rfl⟩
            · intro a w9 hw ho hk
              have t14 : a.tmps[14]?.getD undef = .bool false := hk 2 14 (by kernel_rfl) rfl
              exact .inr ⟨by simp [Region.wanted, yielded, RG.look t14], rfl⟩
            · intro a w9 hw ho hk
              refine .inl ⟨by rfl, ?_⟩
              have t14 : a.tmps[14]?.getD undef = .bool false := hk 2 14 (by kernel_rfl) rfl
              go_simp
              exact New.refl _
          intro w2 b2 x0' h0' x1' h1' x2' h2' x3' h3' x4' h4' x5' h5' x6' h6' x7' h7' x8' h8' x9' h9' x10' h10' x11' h11' x12' h12' x13' h13' x14' h14' x15' h15'
          subst h0' h1' h2' h3' h4' h5' h6' h7' h8' h9' h10' h11' h12' h13' h14' h15'
          try with_reducible replace b2 := New.undrawN b2
          try with_reducible replace b2 := New.undraw b2
          obtain ⟨c2, f2⟩ := b2.rules
          have z2 := b2.size
          try simp only [World.size_alloc, World.size_drew, World.heap_drewN, World.size_setCell] at z2
          simp only [RG.EndAll, List.nil_append, List.cons_append, List.length_cons, List.length_nil, Nat.zero_add, Nat.reduceAdd, List.take_succ_cons, List.take_zero, List.drop_succ_cons, List.drop_zero, RG.putAll, Act.put, List.setIfInBounds_toArray, List.set_cons_succ, List.set_cons_zero]
          have bw := hN.trans b2
          have ow := own_new hown b2
          clear hown
          have bwz := b2.size
          have xw := (bw.cell hbl).trans x1
          have hbw : b < w2.heap.size := by omega
          go_wp2_with (first | (at_builtin; refine Lib.wpList_append_own_string _ rfl _ _ 22 9 rfl (w.heap.size) 5 i0 Tryz.underlying22 Tryz.underlying9 hi hz0 hz1 hz2 _ _ _ rfl (ow) (t) rfl (by unfold maxLen; omega) (by omega) (by first | (simp; done) | (simp; omega) | omega) ?_; intro va2 wa2 ho2 hg2 _; have ba2 := New.grown (bw) hg2 (fun q hq => by have := (own_block_lt (ow) q hq).1; simpa using this); have xa2 := (ba2.cell hbl).trans x1; have za2 := ba2.size))
          go_roundw
          case rel => exact ⟨0 + 1, by omega, by go_num, ba2, own_eq ho2 (by rw [HP.out, HE.out, HS.out]; simp only [List.length_append, hdl, List.length_cons, List.length_nil]; omega) (by rw [HP.out, HE.out, HS.out]; simp [Lib.strCells, byteC]; try rfl)⟩
          case measure => simp [intOf]; omega
      · obtain ⟨m, rfl⟩ : ∃ m, k = m + 1 := ⟨k - 1, by omega⟩
        obtain ⟨b', off', hbe, _, hy⟩ := HC.out m (by omega)
        obtain ⟨rfl, rfl⟩ : b = b' ∧ off = off' := by simp at hbe; exact hbe
        have y1 : w.cell? ⟨b, off + m * 2 + 1, none⟩ = some (.string ts[m].text) := hy 1 _ (by omega) rfl
        have hty := tx_at (show m < ts.length by omega)
        clear hy hbe
        generalize ts[m].text = u at y1 hty
        have HB := Lib.hid (fun (w0 : World) => sBlank_any u t w0)
        have yr := (hN.cell hbl).trans y1
        have xr := (hN.cell hbl).trans x1
        have hbr : b < wr.heap.size := by omega
        have gw := i64_in' (m : Int) (by omega) (by omega)
        have hml : m < ts.length := by omega
        have hmi : (m : Int) < (ts.length : Int) := by omega
        have hmj : (m : Int) + 1 < (ts.length : Int) := by omega
        have hmk : ¬ ((m : Int) < 0) := by omega
        have hmn : ¬ ((m : Int) + 1 < 0) := by omega
        rcases Bool.eq_false_or_eq_true (tightB u t) with ht | ht
        · have HS := Lib.hid (show sepL ts (m + 1) = [] by rw [sepL, Nat.add_sub_cancel, htx, hty, ht]; simp)
          rw [ht] at HB
          replace ht := Lib.hid ht
          rcases Bool.eq_false_or_eq_true (isC t 59) with he | he
          · have HE := Lib.hid (show endL t = [10] by simp [endL, he])
            have he2 : (t.toList == [59]) = true := he
            replace he := Lib.hid he
            go_wp2_with fail
            refine RG.wp_facts [fun X _ => X = .int .i64 ((m : Int) + 1), fun X _ => X = .bool true, fun X _ => X = .bool true, fun X _ => X = .slice (some ⟨b, off, none⟩) ts.length cap, fun X _ => X = .int .i64 ((m : Int) + 1), fun X _ => X = .int .i64 m, fun X _ => X = .pointer (some ⟨b, off + m * 2, none⟩), fun X _ => X = .pointer (some ⟨b, off + m * 2 + 1, none⟩), fun X _ => X = .string u, fun X _ => X = .slice (some ⟨b, off, none⟩) ts.length cap, fun X _ => X = .int .i64 ((m : Int) + 1), fun X _ => X = .pointer (some ⟨b, off + (m + 1) * 2, none⟩), fun X _ => X = .pointer (some ⟨b, off + (m + 1) * 2 + 1, none⟩), fun X _ => X = .string t, fun X _ => X = .bool false, fun X _ => X = .bool false] (by kernel_rfl) (by kernel_rfl) ⟨RG.stable_eq _, RG.stable_eq _, RG.stable_eq _, RG.stable_eq _, RG.stable_eq _, RG.stable_eq _, RG.stable_eq _, RG.stable_eq _, RG.stable_eq _, RG.stable_eq _, RG.stable_eq _, RG.stable_eq _, RG.stable_eq _, RG.stable_eq _, RG.stable_eq _, RG.stable_eq _, trivial⟩ ?_ ?_
            · refine ⟨?_, ?_, ?_, ?_, ?_, ?_, ?_, ?_, ?_, ?_, ?_, ?_, ?_, ?_, ?_, ?_, trivial⟩
              · intro a w9 hw ho hk
                refine .inl ⟨by rfl, ?_⟩
                have t2 := ho 4 rfl
                dsimp at t2
                try with_reducible replace hw := New.undrawN hw
                try with_reducible replace hw := New.undraw hw
                obtain ⟨c, f'⟩ := hw.rules
                go_simp
                exact New.refl _
              · intro a w9 hw ho hk
                refine .inl ⟨by rfl, ?_⟩
                have t12 : a.tmps[12]?.getD undef = .int .i64 ((m : Int) + 1) := hk 0 12 (by kernel_rfl) rfl
                go_simp
                exact New.refl _
              · intro a w9 hw ho hk
                refine .inl ⟨by rfl, ?_⟩
                have t13 : a.tmps[13]?.getD undef = .bool true := hk 1 13 (by kernel_rfl) rfl
                go_simp
                exact New.refl _
              · intro a w9 hw ho hk
                have t14 : a.tmps[14]?.getD undef = .bool true := hk 2 14 (by kernel_rfl) rfl
                refine .inl ⟨by simp [Region.wanted, yielded, RG.look t14], ?_⟩
                have t2 := ho 0 rfl
                dsimp at t2
                try with_reducible replace hw := New.undrawN hw
                try with_reducible replace hw := New.undraw hw
                obtain ⟨c, f'⟩ := hw.rules
                go_simp
                exact New.refl _
              · intro a w9 hw ho hk
                have t14 : a.tmps[14]?.getD undef = .bool true := hk 2 14 (by kernel_rfl) rfl
                refine .inl ⟨by simp [Region.wanted, yielded, RG.look t14], ?_⟩
                have t2 := ho 4 rfl
                dsimp at t2
                try with_reducible replace hw := New.undrawN hw
                try with_reducible replace hw := New.undraw hw
                obtain ⟨c, f'⟩ := hw.rules
                go_simp
                exact New.refl _
              · intro a w9 hw ho hk
                have t14 : a.tmps[14]?.getD undef = .bool true := hk 2 14 (by kernel_rfl) rfl
                refine .inl ⟨by simp [Region.wanted, yielded, RG.look t14], ?_⟩
                have t16 : a.tmps[16]?.getD undef = .int .i64 ((m : Int) + 1) := hk 4 16 (by kernel_rfl) rfl
                go_simp
                exact New.refl _
              · intro a w9 hw ho hk
                have t14 : a.tmps[14]?.getD undef = .bool true := hk 2 14 (by kernel_rfl) rfl
                refine .inl ⟨by simp [Region.wanted, yielded, RG.look t14], ?_⟩
                have t15 : a.tmps[15]?.getD undef = .slice (some ⟨b, off, none⟩) ts.length cap := hk 3 15 (by kernel_rfl) rfl
                have t17 : a.tmps[17]?.getD undef = .int .i64 m := hk 5 17 (by kernel_rfl) rfl
                go_simp
                exact New.refl _
              · intro a w9 hw ho hk
                have t14 : a.tmps[14]?.getD undef = .bool true := hk 2 14 (by kernel_rfl) rfl
                refine .inl ⟨by simp [Region.wanted, yielded, RG.look t14], ?_⟩
                have t18 : a.tmps[18]?.getD undef = .pointer (some ⟨b, off + m * 2, none⟩) := hk 6 18 (by kernel_rfl) rfl
                go_simp
                exact New.refl _
              · intro a w9 hw ho hk
                have t14 : a.tmps[14]?.getD undef = .bool true := hk 2 14 (by kernel_rfl) rfl
                refine .inl ⟨by simp [Region.wanted, yielded, RG.look t14], ?_⟩
                have t19 : a.tmps[19]?.getD undef = .pointer (some ⟨b, off + m * 2 + 1, none⟩) := hk 7 19 (by kernel_rfl) rfl
                try with_reducible replace hw := New.undrawN hw
                try with_reducible replace hw := New.undraw hw
                obtain ⟨c, f'⟩ := hw.rules
                go_simp
                exact New.refl _
              · intro a w9 hw ho hk
                have t14 : a.tmps[14]?.getD undef = .bool true := hk 2 14 (by kernel_rfl) rfl
                refine .inl ⟨by simp [Region.wanted, yielded, RG.look t14], ?_⟩
                have t2 := ho 0 rfl
                dsimp at t2
                try with_reducible replace hw := New.undrawN hw
                try with_reducible replace hw := New.undraw hw
                obtain ⟨c, f'⟩ := hw.rules
                go_simp
                exact New.refl _
              · intro a w9 hw ho hk
                have t14 : a.tmps[14]?.getD undef = .bool true := hk 2 14 (by kernel_rfl) rfl
                refine .inl ⟨by simp [Region.wanted, yielded, RG.look t14], ?_⟩
                have t2 := ho 4 rfl
                dsimp at t2
                try with_reducible replace hw := New.undrawN hw
                try with_reducible replace hw := New.undraw hw
                obtain ⟨c, f'⟩ := hw.rules
                go_simp
                exact New.refl _
              · intro a w9 hw ho hk
                have t14 : a.tmps[14]?.getD undef = .bool true := hk 2 14 (by kernel_rfl) rfl
                refine .inl ⟨by simp [Region.wanted, yielded, RG.look t14], ?_⟩
                have t21 : a.tmps[21]?.getD undef = .slice (some ⟨b, off, none⟩) ts.length cap := hk 9 21 (by kernel_rfl) rfl
                have t22 : a.tmps[22]?.getD undef = .int .i64 ((m : Int) + 1) := hk 10 22 (by kernel_rfl) rfl
                go_simp
                exact New.refl _
              · intro a w9 hw ho hk
                have t14 : a.tmps[14]?.getD undef = .bool true := hk 2 14 (by kernel_rfl) rfl
                refine .inl ⟨by simp [Region.wanted, yielded, RG.look t14], ?_⟩
                have t23 : a.tmps[23]?.getD undef = .pointer (some ⟨b, off + (m + 1) * 2, none⟩) := hk 11 23 (by kernel_rfl) rfl
                go_simp
                exact New.refl _
              · intro a w9 hw ho hk
                have t14 : a.tmps[14]?.getD undef = .bool true := hk 2 14 (by kernel_rfl) rfl
                refine .inl ⟨by simp [Region.wanted, yielded, RG.look t14], ?_⟩
                have t24 : a.tmps[24]?.getD undef = .pointer (some ⟨b, off + (m + 1) * 2 + 1, none⟩) := hk 12 24 (by kernel_rfl) rfl
                try with_reducible replace hw := New.undrawN hw
                try with_reducible replace hw := New.undraw hw
                obtain ⟨c, f'⟩ := hw.rules
                go_simp
                exact New.refl _
              · intro a w9 hw ho hk
                have t14 : a.tmps[14]?.getD undef = .bool true := hk 2 14 (by kernel_rfl) rfl
                refine .inl ⟨by simp [Region.wanted, yielded, RG.look t14], ?_⟩
                have t20 : a.tmps[20]?.getD undef = .string u := hk 8 20 (by kernel_rfl) rfl
                have t25 : a.tmps[25]?.getD undef = .string t := hk 13 25 (by kernel_rfl) rfl
                go_simp
                refine (HB.out _).mono ?_; rintro e w2 ⟨rfl, hb⟩
                first | exact ⟨hb, _, rfl, by simp⟩ | exact ⟨hb, by simp⟩
              · intro a w9 hw ho hk
                refine .inl ⟨by rfl, ?_⟩
                have t14 : a.tmps[14]?.getD undef = .bool true := hk 2 14 (by kernel_rfl) rfl
                have t26 : a.tmps[26]?.getD undef = .bool false := hk 14 26 (by kernel_rfl) rfl
                go_simp
                exact New.refl _
            intro w2 b2 x0' h0' x1' h1' x2' h2' x3' h3' x4' h4' x5' h5' x6' h6' x7' h7' x8' h8' x9' h9' x10' h10' x11' h11' x12' h12' x13' h13' x14' h14' x15' h15'
            subst h0' h1' h2' h3' h4' h5' h6' h7' h8' h9' h10' h11' h12' h13' h14' h15'
            try with_reducible replace b2 := New.undrawN b2
            try with_reducible replace b2 := New.undraw b2
            obtain ⟨c2, f2⟩ := b2.rules
            have z2 := b2.size
            try simp only [World.size_alloc, World.size_drew, World.heap_drewN, World.size_setCell] at z2
            simp only [RG.EndAll, List.nil_append, List.cons_append, List.length_cons, List.length_nil, Nat.zero_add, Nat.reduceAdd, List.take_succ_cons, List.take_zero, List.drop_succ_cons, List.drop_zero, RG.putAll, Act.put, List.setIfInBounds_toArray, List.set_cons_succ, List.set_cons_zero]
            have bw := hN.trans b2
            have ow := own_new hown b2
            clear hown
            have bwz := b2.size
            have xw := (bw.cell hbl).trans x1
            have hbw : b < w2.heap.size := by omega
            go_wp2_with (first | (at_builtin; refine Lib.wpList_append_own_string _ rfl _ _ 22 9 rfl (w.heap.size) 5 i0 Tryz.underlying22 Tryz.underlying9 hi hz0 hz1 hz2 _ _ _ rfl (ow) (t) rfl (by unfold maxLen; omega) (by omega) (by first | (simp; done) | (simp; omega) | omega) ?_; intro va2 wa2 ho2 hg2 _; have ba2 := New.grown (bw) hg2 (fun q hq => by have := (own_block_lt (ow) q hq).1; simpa using this); have xa2 := (ba2.cell hbl).trans x1; have za2 := ba2.size) | (at_builtin; refine wpList_append_own _ rfl _ _ 22 rfl (w.heap.size) 5 i0 (.int .u8 0) 1 1 Tryz.underlying22 hi hz0 hz1 hz2 rfl (by decide) _ _ _ rfl (ho2.alloc _) ⟨_, 0, none⟩ 1 1 [byteC ((10 : UInt8))] rfl rfl (by intro j u hj; match j, hj with | 0, hj => simp at hj; subst hj; first | (simp [Addr.add, byteC]; done) | exact alloc_one rfl) (by intro u hu; simp at hu; subst hu; rfl) (by unfold maxLen; omega) (by omega) (by first | (simp; done) | (simp; omega) | omega) ?_; intro va3 wa3 ho3 hg3 _; have ba3 := New.grown (ba2.alloc _) hg3 (fun q hq => by have := (own_block_lt ho2 q hq).1; simpa using this)))
            go_roundw
            case rel => exact ⟨(m + 1) + 1, by omega, by go_num, ba3, own_eq ho3 (by rw [HP.out, HE.out, HS.out]; simp only [List.length_append, hdl, List.length_cons, List.length_nil]; omega) (by rw [HP.out, HE.out, HS.out]; simp [Lib.strCells, byteC]; try rfl)⟩
            case measure => simp [intOf]; omega
          · have HE := Lib.hid (show endL t = [] by simp [endL, he])
            have he2 : (t.toList == [59]) = false := he
            replace he := Lib.hid he
            go_wp2_with fail
            refine RG.wp_facts [fun X _ => X = .int .i64 ((m : Int) + 1), fun X _ => X = .bool true, fun X _ => X = .bool true, fun X _ => X = .slice (some ⟨b, off, none⟩) ts.length cap, fun X _ => X = .int .i64 ((m : Int) + 1), fun X _ => X = .int .i64 m, fun X _ => X = .pointer (some ⟨b, off + m * 2, none⟩), fun X _ => X = .pointer (some ⟨b, off + m * 2 + 1, none⟩), fun X _ => X = .string u, fun X _ => X = .slice (some ⟨b, off, none⟩) ts.length cap, fun X _ => X = .int .i64 ((m : Int) + 1), fun X _ => X = .pointer (some ⟨b, off + (m + 1) * 2, none⟩), fun X _ => X = .pointer (some ⟨b, off + (m + 1) * 2 + 1, none⟩), fun X _ => X = .string t, fun X _ => X = .bool false, fun X _ => X = .bool false] (by kernel_rfl) (by kernel_rfl) ⟨RG.stable_eq _, RG.stable_eq _, RG.stable_eq _, RG.stable_eq _, RG.stable_eq _, RG.stable_eq _, RG.stable_eq _, RG.stable_eq _, RG.stable_eq _, RG.stable_eq _, RG.stable_eq _, RG.stable_eq _, RG.stable_eq _, RG.stable_eq _, RG.stable_eq _, RG.stable_eq _, trivial⟩ ?_ ?_
            · refine ⟨?_, ?_, ?_, ?_, ?_, ?_, ?_, ?_, ?_, ?_, ?_, ?_, ?_, ?_, ?_, ?_, trivial⟩
              · intro a w9 hw ho hk
                refine .inl ⟨by rfl, ?_⟩
                have t2 := ho 4 rfl
                dsimp at t2
                try with_reducible replace hw := New.undrawN hw
                try with_reducible replace hw := New.undraw hw
                obtain ⟨c, f'⟩ := hw.rules
                go_simp
                exact New.refl _
              · intro a w9 hw ho hk
                refine .inl ⟨by rfl, ?_⟩
                have t12 : a.tmps[12]?.getD undef = .int .i64 ((m : Int) + 1) := hk 0 12 (by kernel_rfl) rfl
                go_simp
                exact New.refl _
              · intro a w9 hw ho hk
                refine .inl ⟨by rfl, ?_⟩
                have t13 : a.tmps[13]?.getD undef = .bool true := hk 1 13 (by kernel_rfl) rfl
                go_simp
                exact New.refl _
              · intro a w9 hw ho hk
                have t14 : a.tmps[14]?.getD undef = .bool true := hk 2 14 (by kernel_rfl) rfl
                refine .inl ⟨by simp [Region.wanted, yielded, RG.look t14], ?_⟩
                have t2 := ho 0 rfl
                dsimp at t2
                try with_reducible replace hw := New.undrawN hw
                try with_reducible replace hw := New.undraw hw
                obtain ⟨c, f'⟩ := hw.rules
                go_simp
                exact New.refl _
              · intro a w9 hw ho hk
                have t14 : a.tmps[14]?.getD undef = .bool true := hk 2 14 (by kernel_rfl) rfl
                refine .inl ⟨by simp [Region.wanted, yielded, RG.look t14], ?_⟩
                have t2 := ho 4 rfl
                dsimp at t2
                try with_reducible replace hw := New.undrawN hw
                try with_reducible replace hw := New.undraw hw
                obtain ⟨c, f'⟩ := hw.rules
                go_simp
                exact New.refl _
              · intro a w9 hw ho hk
                have t14 : a.tmps[14]?.getD undef = .bool true := hk 2 14 (by kernel_rfl) rfl
                refine .inl ⟨by simp [Region.wanted, yielded, RG.look t14], ?_⟩
                have t16 : a.tmps[16]?.getD undef = .int .i64 ((m : Int) + 1) := hk 4 16 (by kernel_rfl) rfl
                go_simp
                exact New.refl _
              · intro a w9 hw ho hk
                have t14 : a.tmps[14]?.getD undef = .bool true := hk 2 14 (by kernel_rfl) rfl
                refine .inl ⟨by simp [Region.wanted, yielded, RG.look t14], ?_⟩
                have t15 : a.tmps[15]?.getD undef = .slice (some ⟨b, off, none⟩) ts.length cap := hk 3 15 (by kernel_rfl) rfl
                have t17 : a.tmps[17]?.getD undef = .int .i64 m := hk 5 17 (by kernel_rfl) rfl
                go_simp
                exact New.refl _
              · intro a w9 hw ho hk
                have t14 : a.tmps[14]?.getD undef = .bool true := hk 2 14 (by kernel_rfl) rfl
                refine .inl ⟨by simp [Region.wanted, yielded, RG.look t14], ?_⟩
                have t18 : a.tmps[18]?.getD undef = .pointer (some ⟨b, off + m * 2, none⟩) := hk 6 18 (by kernel_rfl) rfl
                go_simp
                exact New.refl _
              · intro a w9 hw ho hk
                have t14 : a.tmps[14]?.getD undef = .bool true := hk 2 14 (by kernel_rfl) rfl
                refine .inl ⟨by simp [Region.wanted, yielded, RG.look t14], ?_⟩
                have t19 : a.tmps[19]?.getD undef = .pointer (some ⟨b, off + m * 2 + 1, none⟩) := hk 7 19 (by kernel_rfl) rfl
                try with_reducible replace hw := New.undrawN hw
                try with_reducible replace hw := New.undraw hw
                obtain ⟨c, f'⟩ := hw.rules
                go_simp
                exact New.refl _
              · intro a w9 hw ho hk
                have t14 : a.tmps[14]?.getD undef = .bool true := hk 2 14 (by kernel_rfl) rfl
                refine .inl ⟨by simp [Region.wanted, yielded, RG.look t14], ?_⟩
                have t2 := ho 0 rfl
                dsimp at t2
                try with_reducible replace hw := New.undrawN hw
                try with_reducible replace hw := New.undraw hw
                obtain ⟨c, f'⟩ := hw.rules
                go_simp
                exact New.refl _
              · intro a w9 hw ho hk
                have t14 : a.tmps[14]?.getD undef = .bool true := hk 2 14 (by kernel_rfl) rfl
                refine .inl ⟨by simp [Region.wanted, yielded, RG.look t14], ?_⟩
                have t2 := ho 4 rfl
                dsimp at t2
                try with_reducible replace hw := New.undrawN hw
                try with_reducible replace hw := New.undraw hw
                obtain ⟨c, f'⟩ := hw.rules
                go_simp
                exact New.refl _
              · intro a w9 hw ho hk
                have t14 : a.tmps[14]?.getD undef = .bool true := hk 2 14 (by kernel_rfl) rfl
                refine .inl ⟨by simp [Region.wanted, yielded, RG.look t14], ?_⟩
                have t21 : a.tmps[21]?.getD undef = .slice (some ⟨b, off, none⟩) ts.length cap := hk 9 21 (by kernel_rfl) rfl
                have t22 : a.tmps[22]?.getD undef = .int .i64 ((m : Int) + 1) := hk 10 22 (by kernel_rfl) rfl
                go_simp
                exact New.refl _
              · intro a w9 hw ho hk
                have t14 : a.tmps[14]?.getD undef = .bool true := hk 2 14 (by kernel_rfl) rfl
                refine .inl ⟨by simp [Region.wanted, yielded, RG.look t14], ?_⟩
                have t23 : a.tmps[23]?.getD undef = .pointer (some ⟨b, off + (m + 1) * 2, none⟩) := hk 11 23 (by kernel_rfl) rfl
                go_simp
                exact New.refl _
              · intro a w9 hw ho hk
                have t14 : a.tmps[14]?.getD undef = .bool true := hk 2 14 (by kernel_rfl) rfl
                refine .inl ⟨by simp [Region.wanted, yielded, RG.look t14], ?_⟩
                have t24 : a.tmps[24]?.getD undef = .pointer (some ⟨b, off + (m + 1) * 2 + 1, none⟩) := hk 12 24 (by kernel_rfl) rfl
                try with_reducible replace hw := New.undrawN hw
                try with_reducible replace hw := New.undraw hw
                obtain ⟨c, f'⟩ := hw.rules
                go_simp
                exact New.refl _
              · intro a w9 hw ho hk
                have t14 : a.tmps[14]?.getD undef = .bool true := hk 2 14 (by kernel_rfl) rfl
                refine .inl ⟨by simp [Region.wanted, yielded, RG.look t14], ?_⟩
                have t20 : a.tmps[20]?.getD undef = .string u := hk 8 20 (by kernel_rfl) rfl
                have t25 : a.tmps[25]?.getD undef = .string t := hk 13 25 (by kernel_rfl) rfl
                go_simp
                refine (HB.out _).mono ?_; rintro e w2 ⟨rfl, hb⟩
                first | exact ⟨hb, _, rfl, by simp⟩ | exact ⟨hb, by simp⟩
              · intro a w9 hw ho hk
                refine .inl ⟨by rfl, ?_⟩
                have t14 : a.tmps[14]?.getD undef = .bool true := hk 2 14 (by kernel_rfl) rfl
                have t26 : a.tmps[26]?.getD undef = .bool false := hk 14 26 (by kernel_rfl) rfl
                go_simp
                exact New.refl _
            intro w2 b2 x0' h0' x1' h1' x2' h2' x3' h3' x4' h4' x5' h5' x6' h6' x7' h7' x8' h8' x9' h9' x10' h10' x11' h11' x12' h12' x13' h13' x14' h14' x15' h15'
            subst h0' h1' h2' h3' h4' h5' h6' h7' h8' h9' h10' h11' h12' h13' h14' h15'
            try with_reducible replace b2 := New.undrawN b2
            try with_reducible replace b2 := New.undraw b2
            obtain ⟨c2, f2⟩ := b2.rules
            have z2 := b2.size
            try simp only [World.size_alloc, World.size_drew, World.heap_drewN, World.size_setCell] at z2
            simp only [RG.EndAll, List.nil_append, List.cons_append, List.length_cons, List.length_nil, Nat.zero_add, Nat.reduceAdd, List.take_succ_cons, List.take_zero, List.drop_succ_cons, List.drop_zero, RG.putAll, Act.put, List.setIfInBounds_toArray, List.set_cons_succ, List.set_cons_zero]
            have bw := hN.trans b2
            have ow := own_new hown b2
            clear hown
            have bwz := b2.size
            have xw := (bw.cell hbl).trans x1
            have hbw : b < w2.heap.size := by omega
            go_wp2_with (first | (at_builtin; refine Lib.wpList_append_own_string _ rfl _ _ 22 9 rfl (w.heap.size) 5 i0 Tryz.underlying22 Tryz.underlying9 hi hz0 hz1 hz2 _ _ _ rfl (ow) (t) rfl (by unfold maxLen; omega) (by omega) (by first | (simp; done) | (simp; omega) | omega) ?_; intro va2 wa2 ho2 hg2 _; have ba2 := New.grown (bw) hg2 (fun q hq => by have := (own_block_lt (ow) q hq).1; simpa using this); have xa2 := (ba2.cell hbl).trans x1; have za2 := ba2.size))
            go_roundw
            case rel => exact ⟨(m + 1) + 1, by omega, by go_num, ba2, own_eq ho2 (by rw [HP.out, HE.out, HS.out]; simp only [List.length_append, hdl, List.length_cons, List.length_nil]; omega) (by rw [HP.out, HE.out, HS.out]; simp [Lib.strCells, byteC]; try rfl)⟩
            case measure => simp [intOf]; omega
        · have HS := Lib.hid (show sepL ts (m + 1) = [32] by rw [sepL, Nat.add_sub_cancel, htx, hty, ht]; simp)
          rw [ht] at HB
          replace ht := Lib.hid ht
          rcases Bool.eq_false_or_eq_true (isC t 59) with he | he
          · have HE := Lib.hid (show endL t = [10] by simp [endL, he])
            have he2 : (t.toList == [59]) = true := he
            replace he := Lib.hid he
            go_wp2_with fail
            refine RG.wp_facts [fun X _ => X = .int .i64 ((m : Int) + 1), fun X _ => X = .bool true, fun X _ => X = .bool true, fun X _ => X = .slice (some ⟨b, off, none⟩) ts.length cap, fun X _ => X = .int .i64 ((m : Int) + 1), fun X _ => X = .int .i64 m, fun X _ => X = .pointer (some ⟨b, off + m * 2, none⟩), fun X _ => X = .pointer (some ⟨b, off + m * 2 + 1, none⟩), fun X _ => X = .string u, fun X _ => X = .slice (some ⟨b, off, none⟩) ts.length cap, fun X _ => X = .int .i64 ((m : Int) + 1), fun X _ => X = .pointer (some ⟨b, off + (m + 1) * 2, none⟩), fun X _ => X = .pointer (some ⟨b, off + (m + 1) * 2 + 1, none⟩), fun X _ => X = .string t, fun X _ => X = .bool true, fun X _ => X = .bool true] (by kernel_rfl) (by kernel_rfl) ⟨RG.stable_eq _, RG.stable_eq _, RG.stable_eq _, RG.stable_eq _, RG.stable_eq _, RG.stable_eq _, RG.stable_eq _, RG.stable_eq _, RG.stable_eq _, RG.stable_eq _, RG.stable_eq _, RG.stable_eq _, RG.stable_eq _, RG.stable_eq _, RG.stable_eq _, RG.stable_eq _, trivial⟩ ?_ ?_
            · refine ⟨?_, ?_, ?_, ?_, ?_, ?_, ?_, ?_, ?_, ?_, ?_, ?_, ?_, ?_, ?_, ?_, trivial⟩
              · intro a w9 hw ho hk
                refine .inl ⟨by rfl, ?_⟩
                have t2 := ho 4 rfl
                dsimp at t2
                try with_reducible replace hw := New.undrawN hw
                try with_reducible replace hw := New.undraw hw
                obtain ⟨c, f'⟩ := hw.rules
                go_simp
                exact New.refl _
              · intro a w9 hw ho hk
                refine .inl ⟨by rfl, ?_⟩
                have t12 : a.tmps[12]?.getD undef = .int .i64 ((m : Int) + 1) := hk 0 12 (by kernel_rfl) rfl
                go_simp
                exact New.refl _
              · intro a w9 hw ho hk
                refine .inl ⟨by rfl, ?_⟩
                have t13 : a.tmps[13]?.getD undef = .bool true := hk 1 13 (by kernel_rfl) rfl
                go_simp
                exact New.refl _
              · intro a w9 hw ho hk
                have t14 : a.tmps[14]?.getD undef = .bool true := hk 2 14 (by kernel_rfl) rfl
                refine .inl ⟨by simp [Region.wanted, yielded, RG.look t14], ?_⟩
                have t2 := ho 0 rfl
                dsimp at t2
                try with_reducible replace hw := New.undrawN hw
                try with_reducible replace hw := New.undraw hw
                obtain ⟨c, f'⟩ := hw.rules
                go_simp
                exact New.refl _
              · intro a w9 hw ho hk
                have t14 : a.tmps[14]?.getD undef = .bool true := hk 2 14 (by kernel_rfl) rfl
                refine .inl ⟨by simp [Region.wanted, yielded, RG.look t14], ?_⟩
                have t2 := ho 4 rfl
                dsimp at t2
                try with_reducible replace hw := New.undrawN hw
                try with_reducible replace hw := New.undraw hw
                obtain ⟨c, f'⟩ := hw.rules
                go_simp
                exact New.refl _
              · intro a w9 hw ho hk
                have t14 : a.tmps[14]?.getD undef = .bool true := hk 2 14 (by kernel_rfl) rfl
                refine .inl ⟨by simp [Region.wanted, yielded, RG.look t14], ?_⟩
                have t16 : a.tmps[16]?.getD undef = .int .i64 ((m : Int) + 1) := hk 4 16 (by kernel_rfl) rfl
                go_simp
                exact New.refl _
              · intro a w9 hw ho hk
                have t14 : a.tmps[14]?.getD undef = .bool true := hk 2 14 (by kernel_rfl) rfl
                refine .inl ⟨by simp [Region.wanted, yielded, RG.look t14], ?_⟩
                have t15 : a.tmps[15]?.getD undef = .slice (some ⟨b, off, none⟩) ts.length cap := hk 3 15 (by kernel_rfl) rfl
                have t17 : a.tmps[17]?.getD undef = .int .i64 m := hk 5 17 (by kernel_rfl) rfl
                go_simp
                exact New.refl _
              · intro a w9 hw ho hk
                have t14 : a.tmps[14]?.getD undef = .bool true := hk 2 14 (by kernel_rfl) rfl
                refine .inl ⟨by simp [Region.wanted, yielded, RG.look t14], ?_⟩
                have t18 : a.tmps[18]?.getD undef = .pointer (some ⟨b, off + m * 2, none⟩) := hk 6 18 (by kernel_rfl) rfl
                go_simp
                exact New.refl _
              · intro a w9 hw ho hk
                have t14 : a.tmps[14]?.getD undef = .bool true := hk 2 14 (by kernel_rfl) rfl
                refine .inl ⟨by simp [Region.wanted, yielded, RG.look t14], ?_⟩
                have t19 : a.tmps[19]?.getD undef = .pointer (some ⟨b, off + m * 2 + 1, none⟩) := hk 7 19 (by kernel_rfl) rfl
                try with_reducible replace hw := New.undrawN hw
                try with_reducible replace hw := New.undraw hw
                obtain ⟨c, f'⟩ := hw.rules
                go_simp
                exact New.refl _
              · intro a w9 hw ho hk
                have t14 : a.tmps[14]?.getD undef = .bool true := hk 2 14 (by kernel_rfl) rfl
                refine .inl ⟨by simp [Region.wanted, yielded, RG.look t14], ?_⟩
                have t2 := ho 0 rfl
                dsimp at t2
                try with_reducible replace hw := New.undrawN hw
                try with_reducible replace hw := New.undraw hw
                obtain ⟨c, f'⟩ := hw.rules
                go_simp
                exact New.refl _
              · intro a w9 hw ho hk
                have t14 : a.tmps[14]?.getD undef = .bool true := hk 2 14 (by kernel_rfl) rfl
                refine .inl ⟨by simp [Region.wanted, yielded, RG.look t14], ?_⟩
                have t2 := ho 4 rfl
                dsimp at t2
                try with_reducible replace hw := New.undrawN hw
                try with_reducible replace hw := New.undraw hw
                obtain ⟨c, f'⟩ := hw.rules
                go_simp
                exact New.refl _
              · intro a w9 hw ho hk
                have t14 : a.tmps[14]?.getD undef = .bool true := hk 2 14 (by kernel_rfl) rfl
                refine .inl ⟨by simp [Region.wanted, yielded, RG.look t14], ?_⟩
                have t21 : a.tmps[21]?.getD undef = .slice (some ⟨b, off, none⟩) ts.length cap := hk 9 21 (by kernel_rfl) rfl
                have t22 : a.tmps[22]?.getD undef = .int .i64 ((m : Int) + 1) := hk 10 22 (by kernel_rfl) rfl
                go_simp
                exact New.refl _
              · intro a w9 hw ho hk
                have t14 : a.tmps[14]?.getD undef = .bool true := hk 2 14 (by kernel_rfl) rfl
                refine .inl ⟨by simp [Region.wanted, yielded, RG.look t14], ?_⟩
                have t23 : a.tmps[23]?.getD undef = .pointer (some ⟨b, off + (m + 1) * 2, none⟩) := hk 11 23 (by kernel_rfl) rfl
                go_simp
                exact New.refl _
              · intro a w9 hw ho hk
                have t14 : a.tmps[14]?.getD undef = .bool true := hk 2 14 (by kernel_rfl) rfl
                refine .inl ⟨by simp [Region.wanted, yielded, RG.look t14], ?_⟩
                have t24 : a.tmps[24]?.getD undef = .pointer (some ⟨b, off + (m + 1) * 2 + 1, none⟩) := hk 12 24 (by kernel_rfl) rfl
                try with_reducible replace hw := New.undrawN hw
                try with_reducible replace hw := New.undraw hw
                obtain ⟨c, f'⟩ := hw.rules
                go_simp
                exact New.refl _
              · intro a w9 hw ho hk
                have t14 : a.tmps[14]?.getD undef = .bool true := hk 2 14 (by kernel_rfl) rfl
                refine .inl ⟨by simp [Region.wanted, yielded, RG.look t14], ?_⟩
                have t20 : a.tmps[20]?.getD undef = .string u := hk 8 20 (by kernel_rfl) rfl
                have t25 : a.tmps[25]?.getD undef = .string t := hk 13 25 (by kernel_rfl) rfl
                go_simp
                refine (HB.out _).mono ?_; rintro e w2 ⟨rfl, hb⟩
                first | exact ⟨hb, _, rfl, by simp⟩ | exact ⟨hb, by simp⟩
              · intro a w9 hw ho hk
                refine .inl ⟨by rfl, ?_⟩
                have t14 : a.tmps[14]?.getD undef = .bool true := hk 2 14 (by kernel_rfl) rfl
                have t26 : a.tmps[26]?.getD undef = .bool true := hk 14 26 (by kernel_rfl) rfl
                go_simp
                exact New.refl _
            intro w2 b2 x0' h0' x1' h1' x2' h2' x3' h3' x4' h4' x5' h5' x6' h6' x7' h7' x8' h8' x9' h9' x10' h10' x11' h11' x12' h12' x13' h13' x14' h14' x15' h15'
            subst h0' h1' h2' h3' h4' h5' h6' h7' h8' h9' h10' h11' h12' h13' h14' h15'
            try with_reducible replace b2 := New.undrawN b2
            try with_reducible replace b2 := New.undraw b2
            obtain ⟨c2, f2⟩ := b2.rules
            have z2 := b2.size
            try simp only [World.size_alloc, World.size_drew, World.heap_drewN, World.size_setCell] at z2
            simp only [RG.EndAll, List.nil_append, List.cons_append, List.length_cons, List.length_nil, Nat.zero_add, Nat.reduceAdd, List.take_succ_cons, List.take_zero, List.drop_succ_cons, List.drop_zero, RG.putAll, Act.put, List.setIfInBounds_toArray, List.set_cons_succ, List.set_cons_zero]
            have bw := hN.trans b2
            have ow := own_new hown b2
            clear hown
            have bwz := b2.size
            have xw := (bw.cell hbl).trans x1
            have hbw : b < w2.heap.size := by omega
            go_wp2_with (first | (at_builtin; refine wpList_append_own _ rfl _ _ 22 rfl (w.heap.size) 5 i0 (.int .u8 0) 1 1 Tryz.underlying22 hi hz0 hz1 hz2 rfl (by decide) _ _ _ rfl (ow.alloc _) ⟨_, 0, none⟩ 1 1 [byteC ((32 : UInt8))] rfl rfl (by intro j u hj; match j, hj with | 0, hj => simp at hj; subst hj; first | (simp [Addr.add, byteC]; done) | exact alloc_one rfl) (by intro u hu; simp at hu; subst hu; rfl) (by unfold maxLen; omega) (by omega) (by first | (simp; done) | (simp; omega) | omega) ?_; intro va1 wa1 ho1 hg1 _; have ba1 := New.grown (bw.alloc _) hg1 (fun q hq => by have := (own_block_lt ow q hq).1; simpa using this); have xa1 := (ba1.cell hbl).trans x1; have za1 := ba1.size) | (at_builtin; refine Lib.wpList_append_own_string _ rfl _ _ 22 9 rfl (w.heap.size) 5 i0 Tryz.underlying22 Tryz.underlying9 hi hz0 hz1 hz2 _ _ _ rfl (ho1) (t) rfl (by unfold maxLen; omega) (by omega) (by first | (simp; done) | (simp; omega) | omega) ?_; intro va2 wa2 ho2 hg2 _; have ba2 := New.grown (ba1) hg2 (fun q hq => by have := (own_block_lt (ho1) q hq).1; simpa using this); have xa2 := (ba2.cell hbl).trans x1; have za2 := ba2.size) | (at_builtin; refine wpList_append_own _ rfl _ _ 22 rfl (w.heap.size) 5 i0 (.int .u8 0) 1 1 Tryz.underlying22 hi hz0 hz1 hz2 rfl (by decide) _ _ _ rfl (ho2.alloc _) ⟨_, 0, none⟩ 1 1 [byteC ((10 : UInt8))] rfl rfl (by intro j u hj; match j, hj with | 0, hj => simp at hj; subst hj; first | (simp [Addr.add, byteC]; done) | exact alloc_one rfl) (by intro u hu; simp at hu; subst hu; rfl) (by unfold maxLen; omega) (by omega) (by first | (simp; done) | (simp; omega) | omega) ?_; intro va3 wa3 ho3 hg3 _; have ba3 := New.grown (ba2.alloc _) hg3 (fun q hq => by have := (own_block_lt ho2 q hq).1; simpa using this)))
            go_roundw
            case rel => exact ⟨(m + 1) + 1, by omega, by go_num, ba3, own_eq ho3 (by rw [HP.out, HE.out, HS.out]; simp only [List.length_append, hdl, List.length_cons, List.length_nil]; omega) (by rw [HP.out, HE.out, HS.out]; simp [Lib.strCells, byteC]; try rfl)⟩
            case measure => simp [intOf]; omega
          · have HE := Lib.hid (show endL t = [] by simp [endL, he])
            have he2 : (t.toList == [59]) = false := he
            replace he := Lib.hid he
            go_wp2_with fail
            refine RG.wp_facts [fun X _ => X = .int .i64 ((m : Int) + 1), fun X _ => X = .bool true, fun X _ => X = .bool true, fun X _ => X = .slice (some ⟨b, off, none⟩) ts.length cap, fun X _ => X = .int .i64 ((m : Int) + 1), fun X _ => X = .int .i64 m, fun X _ => X = .pointer (some ⟨b, off + m * 2, none⟩), fun X _ => X = .pointer (some ⟨b, off + m * 2 + 1, none⟩), fun X _ => X = .string u, fun X _ => X = .slice (some ⟨b, off, none⟩) ts.length cap, fun X _ => X = .int .i64 ((m : Int) + 1), fun X _ => X = .pointer (some ⟨b, off + (m + 1) * 2, none⟩), fun X _ => X = .pointer (some ⟨b, off + (m + 1) * 2 + 1, none⟩), fun X _ => X = .string t, fun X _ => X = .bool true, fun X _ => X = .bool true] (by kernel_rfl) (by kernel_rfl) ⟨RG.stable_eq _, RG.stable_eq _, RG.stable_eq _, RG.stable_eq _, RG.stable_eq _, RG.stable_eq _, RG.stable_eq _, RG.stable_eq _, RG.stable_eq _, RG.stable_eq _, RG.stable_eq _, RG.stable_eq _, RG.stable_eq _, RG.stable_eq _, RG.stable_eq _, RG.stable_eq _, trivial⟩ ?_ ?_
            · refine ⟨?_, ?_, ?_, ?_, ?_, ?_, ?_, ?_, ?_, ?_, ?_, ?_, ?_, ?_, ?_, ?_, trivial⟩
              · intro a w9 hw ho hk
                refine .inl ⟨by rfl, ?_⟩
                have t2 := ho 4 rfl
                dsimp at t2
                try with_reducible replace hw := New.undrawN hw
                try with_reducible replace hw := New.undraw hw
                obtain ⟨c, f'⟩ := hw.rules
                go_simp
                exact New.refl _
              · intro a w9 hw ho hk
                refine .inl ⟨by rfl, ?_⟩
                have t12 : a.tmps[12]?.getD undef = .int .i64 ((m : Int) + 1) := hk 0 12 (by kernel_rfl) rfl
                go_simp
                exact New.refl _
              · intro a w9 hw ho hk
                refine .inl ⟨by rfl, ?_⟩
                have t13 : a.tmps[13]?.getD undef = .bool true := hk 1 13 (by kernel_rfl) rfl
                go_simp
                exact New.refl _
              · intro a w9 hw ho hk
                have t14 : a.tmps[14]?.getD undef = .bool true := hk 2 14 (by kernel_rfl) rfl
                refine .inl ⟨by simp [Region.wanted, yielded, RG.look t14], ?_⟩
                have t2 := ho 0 rfl
                dsimp at t2
                try with_reducible replace hw := New.undrawN hw
                try with_reducible replace hw := New.undraw hw
                obtain ⟨c, f'⟩ := hw.rules
                go_simp
                exact New.refl _
              · intro a w9 hw ho hk
                have t14 : a.tmps[14]?.getD undef = .bool true := hk 2 14 (by kernel_rfl) rfl
                refine .inl ⟨by simp [Region.wanted, yielded, RG.look t14], ?_⟩
                have t2 := ho 4 rfl
                dsimp at t2
                try with_reducible replace hw := New.undrawN hw
                try with_reducible replace hw := New.undraw hw
                obtain ⟨c, f'⟩ := hw.rules
                go_simp
                exact New.refl _
              · intro a w9 hw ho hk
                have t14 : a.tmps[14]?.getD undef = .bool true := hk 2 14 (by kernel_rfl) rfl
                refine .inl ⟨by simp [Region.wanted, yielded, RG.look t14], ?_⟩
                have t16 : a.tmps[16]?.getD undef = .int .i64 ((m : Int) + 1) := hk 4 16 (by kernel_rfl) rfl
                go_simp
                exact New.refl _
              · intro a w9 hw ho hk
                have t14 : a.tmps[14]?.getD undef = .bool true := hk 2 14 (by kernel_rfl) rfl
                refine .inl ⟨by simp [Region.wanted, yielded, RG.look t14], ?_⟩
                have t15 : a.tmps[15]?.getD undef = .slice (some ⟨b, off, none⟩) ts.length cap := hk 3 15 (by kernel_rfl) rfl
                have t17 : a.tmps[17]?.getD undef = .int .i64 m := hk 5 17 (by kernel_rfl) rfl
                go_simp
                exact New.refl _
              · intro a w9 hw ho hk
                have t14 : a.tmps[14]?.getD undef = .bool true := hk 2 14 (by kernel_rfl) rfl
                refine .inl ⟨by simp [Region.wanted, yielded, RG.look t14], ?_⟩
                have t18 : a.tmps[18]?.getD undef = .pointer (some ⟨b, off + m * 2, none⟩) := hk 6 18 (by kernel_rfl) rfl
                go_simp
                exact New.refl _
              · intro a w9 hw ho hk
                have t14 : a.tmps[14]?.getD undef = .bool true := hk 2 14 (by kernel_rfl) rfl
                refine .inl ⟨by simp [Region.wanted, yielded, RG.look t14], ?_⟩
                have t19 : a.tmps[19]?.getD undef = .pointer (some ⟨b, off + m * 2 + 1, none⟩) := hk 7 19 (by kernel_rfl) rfl
                try with_reducible replace hw := New.undrawN hw
                try with_reducible replace hw := New.undraw hw
                obtain ⟨c, f'⟩ := hw.rules
                go_simp
                exact New.refl _
              · intro a w9 hw ho hk
                have t14 : a.tmps[14]?.getD undef = .bool true := hk 2 14 (by kernel_rfl) rfl
                refine .inl ⟨by simp [Region.wanted, yielded, RG.look t14], ?_⟩
                have t2 := ho 0 rfl
                dsimp at t2
                try with_reducible replace hw := New.undrawN hw
                try with_reducible replace hw := New.undraw hw
                obtain ⟨c, f'⟩ := hw.rules
                go_simp
                exact New.refl _
              · intro a w9 hw ho hk
                have t14 : a.tmps[14]?.getD undef = .bool true := hk 2 14 (by kernel_rfl) rfl
                refine .inl ⟨by simp [Region.wanted, yielded, RG.look t14], ?_⟩
                have t2 := ho 4 rfl
                dsimp at t2
                try with_reducible replace hw := New.undrawN hw
                try with_reducible replace hw := New.undraw hw
                obtain ⟨c, f'⟩ := hw.rules
                go_simp
                exact New.refl _
              · intro a w9 hw ho hk
                have t14 : a.tmps[14]?.getD undef = .bool true := hk 2 14 (by kernel_rfl) rfl
                refine .inl ⟨by simp [Region.wanted, yielded, RG.look t14], ?_⟩
                have t21 : a.tmps[21]?.getD undef = .slice (some ⟨b, off, none⟩) ts.length cap := hk 9 21 (by kernel_rfl) rfl
                have t22 : a.tmps[22]?.getD undef = .int .i64 ((m : Int) + 1) := hk 10 22 (by kernel_rfl) rfl
                go_simp
                exact New.refl _
              · intro a w9 hw ho hk
                have t14 : a.tmps[14]?.getD undef = .bool true := hk 2 14 (by kernel_rfl) rfl
                refine .inl ⟨by simp [Region.wanted, yielded, RG.look t14], ?_⟩
                have t23 : a.tmps[23]?.getD undef = .pointer (some ⟨b, off + (m + 1) * 2, none⟩) := hk 11 23 (by kernel_rfl) rfl
                go_simp
                exact New.refl _
              · intro a w9 hw ho hk
                have t14 : a.tmps[14]?.getD undef = .bool true := hk 2 14 (by kernel_rfl) rfl
                refine .inl ⟨by simp [Region.wanted, yielded, RG.look t14], ?_⟩
                have t24 : a.tmps[24]?.getD undef = .pointer (some ⟨b, off + (m + 1) * 2 + 1, none⟩) := hk 12 24 (by kernel_rfl) rfl
                try with_reducible replace hw := New.undrawN hw
                try with_reducible replace hw := New.undraw hw
                obtain ⟨c, f'⟩ := hw.rules
                go_simp
                exact New.refl _
              · intro a w9 hw ho hk
                have t14 : a.tmps[14]?.getD undef = .bool true := hk 2 14 (by kernel_rfl) rfl
                refine .inl ⟨by simp [Region.wanted, yielded, RG.look t14], ?_⟩
                have t20 : a.tmps[20]?.getD undef = .string u := hk 8 20 (by kernel_rfl) rfl
                have t25 : a.tmps[25]?.getD undef = .string t := hk 13 25 (by kernel_rfl) rfl
                go_simp
                refine (HB.out _).mono ?_; rintro e w2 ⟨rfl, hb⟩
                first | exact ⟨hb, _, rfl, by simp⟩ | exact ⟨hb, by simp⟩
              · intro a w9 hw ho hk
                refine .inl ⟨by rfl, ?_⟩
                have t14 : a.tmps[14]?.getD undef = .bool true := hk 2 14 (by kernel_rfl) rfl
                have t26 : a.tmps[26]?.getD undef = .bool true := hk 14 26 (by kernel_rfl) rfl
                go_simp
                exact New.refl _
            intro w2 b2 x0' h0' x1' h1' x2' h2' x3' h3' x4' h4' x5' h5' x6' h6' x7' h7' x8' h8' x9' h9' x10' h10' x11' h11' x12' h12' x13' h13' x14' h14' x15' h15'
            subst h0' h1' h2' h3' h4' h5' h6' h7' h8' h9' h10' h11' h12' h13' h14' h15'
            try with_reducible replace b2 := New.undrawN b2
            try with_reducible replace b2 := New.undraw b2
            obtain ⟨c2, f2⟩ := b2.rules
            have z2 := b2.size
            try simp only [World.size_alloc, World.size_drew, World.heap_drewN, World.size_setCell] at z2
            simp only [RG.EndAll, List.nil_append, List.cons_append, List.length_cons, List.length_nil, Nat.zero_add, Nat.reduceAdd, List.take_succ_cons, List.take_zero, List.drop_succ_cons, List.drop_zero, RG.putAll, Act.put, List.setIfInBounds_toArray, List.set_cons_succ, List.set_cons_zero]
            have bw := hN.trans b2
            have ow := own_new hown b2
            clear hown
            have bwz := b2.size
            have xw := (bw.cell hbl).trans x1
            have hbw : b < w2.heap.size := by omega
            go_wp2_with (first | (at_builtin; refine wpList_append_own _ rfl _ _ 22 rfl (w.heap.size) 5 i0 (.int .u8 0) 1 1 Tryz.underlying22 hi hz0 hz1 hz2 rfl (by decide) _ _ _ rfl (ow.alloc _) ⟨_, 0, none⟩ 1 1 [byteC ((32 : UInt8))] rfl rfl (by intro j u hj; match j, hj with | 0, hj => simp at hj; subst hj; first | (simp [Addr.add, byteC]; done) | exact alloc_one rfl) (by intro u hu; simp at hu; subst hu; rfl) (by unfold maxLen; omega) (by omega) (by first | (simp; done) | (simp; omega) | omega) ?_; intro va1 wa1 ho1 hg1 _; have ba1 := New.grown (bw.alloc _) hg1 (fun q hq => by have := (own_block_lt ow q hq).1; simpa using this); have xa1 := (ba1.cell hbl).trans x1; have za1 := ba1.size) | (at_builtin; refine Lib.wpList_append_own_string _ rfl _ _ 22 9 rfl (w.heap.size) 5 i0 Tryz.underlying22 Tryz.underlying9 hi hz0 hz1 hz2 _ _ _ rfl (ho1) (t) rfl (by unfold maxLen; omega) (by omega) (by first | (simp; done) | (simp; omega) | omega) ?_; intro va2 wa2 ho2 hg2 _; have ba2 := New.grown (ba1) hg2 (fun q hq => by have := (own_block_lt (ho1) q hq).1; simpa using this); have xa2 := (ba2.cell hbl).trans x1; have za2 := ba2.size))
            go_roundw
            case rel => exact ⟨(m + 1) + 1, by omega, by go_num, ba2, own_eq ho2 (by rw [HP.out, HE.out, HS.out]; simp only [List.length_append, hdl, List.length_cons, List.length_nil]; omega) (by rw [HP.out, HE.out, HS.out]; simp [Lib.strCells, byteC]; try rfl)⟩
            case measure => simp [intOf]; omega
    · obtain rfl : k = ts.length := by omega
      have hcv := conv_own hown
      go_wp2_with fail
      go_ret
      exact ⟨rfl, (by repeat (first | with_reducible exact New.refl _ | with_reducible assumption | with_reducible refine New.drew ?_ | with_reducible refine New.drewN ?_ _ | with_reducible refine New.alloc ?_ _ | with_reducible refine New.setCell ?_ (by first | (simp; done) | (simp; omega) | omega) _ | with_reducible refine New.trans ?_ (by with_reducible assumption)))⟩
theorem sText_any (v : Value) (ts : List EToken) (w : World) (hv : Rd w v ts.length (ts.flatMap encToken)) (hf : ∀ x ∈ ts, fitToken x) (hl : ts.length ≤ 800) :
    Calls Tryz.prog 54 #[v] w fun e w' => e = .returned (.string (strL (stdK ts ts.length))) ∧ New w w' :=
  sTextL_any v ts w hv hf (by omega) (fun k hk => by have := stdK_len hf k hk; omega)
end Go.Proofs.YteielmihlfakgaaGreatDoor
