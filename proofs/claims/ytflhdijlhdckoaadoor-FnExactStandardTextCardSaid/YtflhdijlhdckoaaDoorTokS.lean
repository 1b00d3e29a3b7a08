/- Contracts: the laws' helpers on lists of tokens. -/
import Derived.Test.YtflhdijlhdckoaaDoorProg
import Derived.Test.YtflhdijlhdckoaaDoorInts
import Derived.Test.YtflhdijlhdckoaaDoorTokW
namespace Go.Proofs.YtflhdijlhdckoaaDoor
open Go Go.Proofs Go.RowKit
set_option linter.unusedVariables false
set_option linter.unusedSimpArgs false
set_option maxRecDepth 100000
structure EToken where (kind : Int) (text : ByteArray)
  deriving DecidableEq
def encToken (x : EToken) : List Value := [.int .i64 x.kind, .string x.text]
theorem encToken_len (x : EToken) : (encToken x).length = 2 := rfl
def valToken (x : EToken) : Value := .agg #[.int .i64 x.kind, .string x.text]
theorem infoToken : (Tryd.prog.info? 106).map (fun i => (i.zero, i.size, i.bytes)) = some (some (Value.agg #[Value.int .i64 0, Value.string ⟨#[]⟩]), 2, 24) := by kernel_rfl
theorem strEqToken (s t : ByteArray) : (s.toList = t.toList) ↔ (s = t) := ⟨fun h => by rw [ByteArray.toList_eq, ByteArray.toList_eq] at h; exact ByteArray.ext (Array.toList_inj.1 h), fun h => by rw [h]⟩
theorem eqToken_any (x y : EToken) (w : World) : Calls Tryd.prog 69 #[.agg #[.int .i64 x.kind, .string x.text], .agg #[.int .i64 y.kind, .string y.text]] w fun e w' => e = .returned (.bool (decide (x = y))) ∧ New w w' := by
  obtain ⟨kind, text⟩ := x
  obtain ⟨kind', text'⟩ := y
  dsimp only
  go_enter Tryd.func69, Tryd.ntmps69
  go_wp2_with fail
  all_goals (go_ret; exact ⟨ret_bool (by simp_all [strEqToken]), (by repeat (first | with_reducible exact New.refl _ | with_reducible assumption | with_reducible refine New.drew ?_ | with_reducible refine New.drewN ?_ _ | with_reducible refine New.alloc ?_ _ | with_reducible refine New.setCell ?_ (by first | (simp; done) | (simp; omega) | omega) _ | with_reducible refine New.trans ?_ (by with_reducible assumption)))⟩)
set_option maxHeartbeats 800000 in
theorem toTokenS_any (v : Value) (xs : List EToken) (w : World) (hv : Rd w v xs.length (xs.flatMap encToken)) (hn : xs.length ≤ 1048576) :
    Calls Tryd.prog 28 #[v] w (RetSlice w 106 2 xs.length (xs.flatMap encToken)) := by
  obtain ⟨a, cap, rfl, hm, HC⟩ := Rd.flat encToken_len (by omega) hv
  clear hv
  obtain ⟨i0, hi, hz0, hz1, hz2⟩ := info_parts infoToken
  go_enter Tryd.func28, Tryd.ntmps28
  go_wp2_with (at_make; refine wpList_make_full _ rfl _ _ 59 rfl w.heap.size 106 i0 (Value.agg #[Value.int .i64 0, Value.string ⟨#[]⟩]) 2 Tryd.underlying59 hi hz0 hz1 .i64 .i64 _ _ xs.length rfl rfl rfl rfl (by rw [hz2]; omega) (by unfold maxLen; omega) (Nat.le_refl _) ?_; intro w1 hown hgr)
  have b1 : New w w1 := (New.refl w).grown hgr (fun k hk => by cases hk)
  have hown1 : w1.ownsRow w.heap.size 106 2 (.slice (some ⟨w.heap.size, 0, none⟩) xs.length xs.length) xs.length ((xs.take 0).flatMap encToken ++ (List.replicate (xs.length - 0) [Value.int .i64 0, Value.string ⟨#[]⟩]).flatten) := by
    have e := made_flat #[Value.int .i64 0, Value.string ⟨#[]⟩] xs.length (by decide)
    simp only [List.take_zero, List.flatMap_nil, List.nil_append, Nat.sub_zero]
    rw [← e]; exact hown
  clear hown hgr hz2 hz1 hz0 hi
  go_wp2_with fail
  go_loopw [4] (fun i wr => ∃ k : Nat, k ≤ xs.length ∧ i = .int .i64 k ∧ New w wr ∧ wr.ownsRow w.heap.size 106 2 (.slice (some ⟨w.heap.size, 0, none⟩) xs.length xs.length) xs.length ((xs.take k).flatMap encToken ++ (List.replicate (xs.length - k) [Value.int .i64 0, Value.string ⟨#[]⟩]).flatten)) (fun i _ => xs.length - (intOf i).toNat)
  case atStart => exact ⟨0, Nat.zero_le _, rfl, b1, hown1⟩
  case round =>
    obtain ⟨k, hk, rfl, hb, hown⟩ := hrel
    clear b1 hown1
    obtain ⟨c, f⟩ := hb.rules
    by_cases hlt : k < xs.length
    · obtain ⟨b, off, rfl, hbl, hx⟩ := HC.out k hlt
      have x0 := hx 0 _ (by omega) rfl
      have x1 := hx 1 _ (by omega) rfl
      rw [Nat.add_zero] at x0
      replace hx := Lib.hid hx
      have hdn : ∀ i u, i < 2 → ([Value.int .i64 0, Value.string ⟨#[]⟩] : List Value)[i]? = some u → wr.cell? ⟨w.heap.size, k * 2 + i, none⟩ = some u := fun i u hi hu => by
        rw [hown.cellAt (k * 2 + i) (by omega), flat_zero_at encToken 2 encToken_len _ rfl xs k hlt i hi, hu]
      have d0 := hdn 0 _ (by omega) rfl
      have d1 := hdn 1 _ (by omega) rfl
      rw [Nat.add_zero] at d0
      clear hdn
      have hwr : w.heap.size < wr.heap.size := (own_block_lt hown _ rfl).2
      have f0 := hown.frozenAt (k * 2)
      have f1 := hown.frozenAt (k * 2 + 1)
      go_wp2_with fail
      refine (toToken_any _ _ _).mono ?_; rintro e w2 ⟨rfl, b2⟩
      try with_reducible replace b2 := New.undrawN b2
      try with_reducible replace b2 := New.undraw b2
      obtain ⟨c2, f2⟩ := b2.rules
      have z2 := b2.size
      try simp only [World.size_alloc, World.size_drew, World.heap_drewN, World.size_setCell] at z2
      have z2_0 : w.heap.size < w2.heap.size := by omega
      go_wp2_with fail
      go_roundw
      case rel =>
        have h1 := (((own_new hown b2).stored (k * 2) (.int .i64 xs[k].kind)).1.stored (k * 2 + 1) (.string xs[k].text)).1
        have h2 := set_flat encToken 2 encToken_len [Value.int .i64 0, Value.string ⟨#[]⟩] rfl xs k hlt
        simp only [setFrom, encToken] at h2
        rw [h2] at h1
        exact ⟨k + 1, by omega, by go_num, (((hb.trans b2).setCell (Nat.le_refl _) _).setCell (Nat.le_refl _) _), h1⟩
      case measure => simp [intOf]; omega
    · obtain rfl : k = xs.length := by omega
      go_wp2_with fail
      go_ret
      exact ⟨_, rfl, hb, by simpa using hown⟩
def okToken (x : EToken) : Prop := x.text.size ≤ 9223372036854775807
def fitToken (x : EToken) : Prop := x.text.size ≤ 1048576
def sz1Token (x : EToken) (left : Int) : Int := szK x.text left
theorem sz1Token_bd (x : EToken) (left : Int) (h : 0 ≤ left) : -1 ≤ sz1Token x left ∧ sz1Token x left ≤ left := by rw [sz1Token, szK]; split <;> omega
theorem sz1Token_fit (x : EToken) (left : Int) (h : 0 ≤ left) (h' : left ≤ 1048576) (h2 : 0 ≤ sz1Token x left) : fitToken x := by
  rw [sz1Token, szK] at h2
  split at h2
  · omega
  · rw [fitToken]; omega
def szEToken : List EToken → Int → Int
  | [], left => left
  | x :: xs, left => if sz1Token x left < 0 then -1 else szEToken xs (sz1Token x left)
theorem szEToken_bd : ∀ (xs : List EToken) (left : Int), 0 ≤ left → -1 ≤ szEToken xs left ∧ szEToken xs left ≤ left
  | [], left, h => by simp [szEToken]; omega
  | x :: xs, left, h => by
    have h1 := sz1Token_bd x left h
    rw [szEToken]
    split
    · omega
    · have h2 := szEToken_bd xs (sz1Token x left) (by omega)
      omega
theorem szEToken_fit : ∀ (xs : List EToken) (left : Int), 0 ≤ left → left ≤ 1048576 → 0 ≤ szEToken xs left → ∀ x ∈ xs, fitToken x
  | [], left, h, h', h2, x, hx => by cases hx
  | y :: xs, left, h, h', h2, x, hx => by
    have h1 := sz1Token_bd y left h
    rw [szEToken] at h2
    split at h2
    · omega
    · rename_i hn
      rcases List.mem_cons.1 hx with rfl | hx
      · exact sz1Token_fit _ left h h' (by omega)
      · exact szEToken_fit xs _ (by omega) (by omega) h2 x hx
def szTokenS (xs : List EToken) (left : Int) : Int := if left - xs.length < 0 then -1 else szEToken xs (left - xs.length)
theorem szTokenS_bd (xs : List EToken) (left : Int) (h : 0 ≤ left) : -1 ≤ szTokenS xs left ∧ szTokenS xs left ≤ left ∧ (0 ≤ szTokenS xs left → (xs.length : Int) ≤ left) := by
  rw [szTokenS]
  split
  · omega
  · have := szEToken_bd xs (left - xs.length) (by omega)
    omega
theorem szTokenS_fit (xs : List EToken) (left : Int) (h : 0 ≤ left) (h' : left ≤ 1048576) (h2 : 0 ≤ szTokenS xs left) : ∀ x ∈ xs, fitToken x := by
  rw [szTokenS] at h2
  split at h2
  · omega
  · exact szEToken_fit xs _ (by omega) (by omega) h2
set_option maxHeartbeats 800000 in
theorem szTokenS_any (v : Value) (xs : List EToken) (left : Int) (w : World) (hv : Rd w v xs.length (xs.flatMap encToken)) (hl : 0 ≤ left) (hl' : left ≤ 1048576) (hok : ∀ x ∈ xs, okToken x) :
    Calls Tryd.prog 26 #[v, .int .i64 left] w fun e w' => e = .returned (.int .i64 (szTokenS xs left)) ∧ New w w' := by
  obtain ⟨a, cap, rfl, hm, HC⟩ := Rd.flat encToken_len (by omega) hv
  clear hv
  have HO := Lib.hid hok; clear hok
  by_cases h0 : left - (xs.length : Int) < 0
  · go_enter Tryd.func26, Tryd.ntmps26
    go_wp2_with fail
    go_ret
    exact ⟨ret_int (by rw [szTokenS, if_pos h0]), New.refl _⟩
  · have HZ := Lib.hid (show szTokenS xs left = szEToken xs (left - xs.length) by rw [szTokenS, if_neg h0])
    have h1 : 0 ≤ left - (xs.length : Int) := by omega
    have hlen : xs.length ≤ 1048576 := by omega
    clear h0
    go_enter Tryd.func26, Tryd.ntmps26
    go_wp2_with fail
    go_loopw [1, 5] (fun l i wr => ∃ (k : Nat) (m : Int), k ≤ xs.length ∧ i = .int .i64 k ∧ l = .int .i64 m ∧ 0 ≤ m ∧ m ≤ 1048576 ∧ Hid (szTokenS xs left = szEToken (xs.drop k) m) ∧ New w wr) (fun _ i _ => xs.length - (intOf i).toNat)
    case atStart => exact ⟨0, _, Nat.zero_le _, rfl, rfl, h1, by omega, Lib.hid (by rw [HZ.out]; simp), New.refl w⟩
    case round =>
      obtain ⟨k, m, hk, rfl, rfl, hm0, hm1, hz, hb⟩ := hrel
      obtain ⟨c, f⟩ := hb.rules
      have hzw := hb.size
      by_cases hlt : k < xs.length
      · obtain ⟨b, off, rfl, hbl, hx⟩ := HC.out k hlt
        have x0 := hx 0 _ (by omega) rfl
        have x1 := hx 1 _ (by omega) rfl
        rw [Nat.add_zero] at x0
        replace hx := Lib.hid hx
        have hbw : b < wr.heap.size := by omega
        have hd := Lib.hid (show xs.drop k = xs[k] :: xs.drop (k + 1) from List.drop_eq_getElem_cons hlt)
        have hbd := sz1Token_bd xs[k] m hm0
        have HX := Lib.hid (HO.out xs[k] (List.getElem_mem hlt))
        by_cases hn : sz1Token xs[k] m < 0
        · have hn' := hn
          simp only [sz1Token] at hn' hbd
          go_wp2_with fail
          refine (szToken_any _ _ m _ hm0 hm1 HX.out).mono ?_; rintro e w3 ⟨rfl, b3⟩
          try with_reducible replace b3 := New.undrawN b3
          try with_reducible replace b3 := New.undraw b3
          obtain ⟨c3, f3⟩ := b3.rules
          have z3 := b3.size
          try simp only [World.size_alloc, World.size_drew, World.heap_drewN, World.size_setCell] at z3
          go_wp2_with fail
          go_ret
          exact ⟨ret_int (by rw [hz.out, hd.out, szEToken, if_pos (by omega)]), hb.trans b3⟩
        · have hn' := hn
          simp only [sz1Token] at hn' hbd
          go_wp2_with fail
          refine (szToken_any _ _ m _ hm0 hm1 HX.out).mono ?_; rintro e w3 ⟨rfl, b3⟩
          try with_reducible replace b3 := New.undrawN b3
          try with_reducible replace b3 := New.undraw b3
          obtain ⟨c3, f3⟩ := b3.rules
          have z3 := b3.size
          try simp only [World.size_alloc, World.size_drew, World.heap_drewN, World.size_setCell] at z3
          go_wp2_with fail
          go_roundw
          case rel => exact ⟨k + 1, sz1Token xs[k] m, by omega, by go_num, rfl, by simp only [sz1Token]; omega, by simp only [sz1Token]; omega, Lib.hid (by rw [hz.out, hd.out, szEToken, if_neg (by omega)]), hb.trans b3⟩
          case measure => simp [intOf]; omega
      · obtain rfl : k = xs.length := by omega
        go_wp2_with fail
        go_ret
        exact ⟨ret_int (by rw [hz.out]; simp [szEToken]), hb⟩
set_option maxHeartbeats 800000 in
theorem eqTokenS_any (v u : Value) (xs ys : List EToken) (w : World) (hv : Rd w v xs.length (xs.flatMap encToken)) (hu : Rd w u ys.length (ys.flatMap encToken)) :
    Calls Tryd.prog 30 #[v, u] w fun e w' => e = .returned (.bool (decide (xs = ys))) ∧ New w w' := by
  obtain ⟨a, cap, rfl, hn, HC⟩ := Rd.flat encToken_len (by omega) hv
  obtain ⟨a', cap', rfl, hn', HC'⟩ := Rd.flat encToken_len (by omega) hu
  clear hv hu
  by_cases hlen : xs.length = ys.length
  · have hne : ((xs.length : Int) != ys.length) = false := by simp [hlen]
    have HL : Hid (xs.length = ys.length) := hlen
    have hle : xs.length ≤ ys.length := by omega
    have hge : ys.length ≤ xs.length := by omega
    clear hlen
    go_enter Tryd.func30, Tryd.ntmps30
    go_wp2_with fail
    go_loopw [5] (fun i wr => ∃ k : Nat, k ≤ xs.length ∧ i = .int .i64 k ∧ Hid (xs.take k = ys.take k) ∧ New w wr) (fun i _ => xs.length - (intOf i).toNat)
    case atStart => exact ⟨0, Nat.zero_le _, rfl, rfl, New.refl w⟩
    case round =>
      obtain ⟨k, hk, rfl, hpre, hb⟩ := hrel
      obtain ⟨c, f⟩ := hb.rules
      have hsz := hb.size
      by_cases hlt : k < xs.length
      · have hlt' : k < ys.length := by omega
        obtain ⟨b, off, rfl, hbl, hx⟩ := HC.out k hlt
        obtain ⟨b', off', rfl, hbl', hy⟩ := HC'.out k hlt'
        have hbw : b < wr.heap.size := by omega
        have hbw' : b' < wr.heap.size := by omega
        have x0 := hx 0 _ (by omega) rfl
        have x1 := hx 1 _ (by omega) rfl
        rw [Nat.add_zero] at x0
        have y0 := hy 0 _ (by omega) rfl
        have y1 := hy 1 _ (by omega) rfl
        rw [Nat.add_zero] at y0
        replace hx := Lib.hid hx
        replace hy := Lib.hid hy
        go_wp2_with fail
        have hq := fun (n : NewOf wr) b o => NewOf.cell n b o
        refine wp_region_new (by kernel_rfl) (by kernel_rfl) ?_
        repeat (first | go_big_quiet_skip | go_big_quiet_step ((first | exact newq (eqToken_any xs[k] ys[k] _))) | quiet_step ((first | exact newq (eqToken_any xs[k] ys[k] _))))
        refine wpQuiet_nil ?_
        rintro ⟨w3, b3⟩
        dsimp only
        try with_reducible replace b3 := New.undrawN b3
        try with_reducible replace b3 := New.undraw b3
        obtain ⟨c3, f3⟩ := b3.rules
        have z3 := b3.size
        try simp only [World.size_alloc, World.size_drew, World.heap_drewN, World.size_setCell] at z3
        go_wp2_with fail
        · go_ret
          have hh : (!decide (xs[k] = ys[k])) = true := by assumption
          refine ⟨ret_bool (Eq.symm (decide_eq_false ?_)), (by repeat (first | with_reducible exact New.refl _ | with_reducible assumption | with_reducible refine New.drew ?_ | with_reducible refine New.drewN ?_ _ | with_reducible refine New.alloc ?_ _ | with_reducible refine New.setCell ?_ (by first | (simp; done) | (simp; omega) | omega) _ | with_reducible refine New.trans ?_ (by with_reducible assumption)))⟩
          rintro rfl
          simp at hh
        · have hh : (!decide (xs[k] = ys[k])) = false := by assumption
          replace hh : xs[k] = ys[k] := by simpa using hh
          replace hh := Lib.hid hh
          go_roundw
          case rel => exact ⟨k + 1, by omega, by go_num, Lib.hid (by rw [List.take_succ_eq_append_getElem hlt, List.take_succ_eq_append_getElem hlt', hpre.out, hh.out]), (by repeat (first | with_reducible exact New.refl _ | with_reducible assumption | with_reducible refine New.drew ?_ | with_reducible refine New.drewN ?_ _ | with_reducible refine New.alloc ?_ _ | with_reducible refine New.setCell ?_ (by first | (simp; done) | (simp; omega) | omega) _ | with_reducible refine New.trans ?_ (by with_reducible assumption)))⟩
          case measure => simp [intOf]; omega
      · have hkx : k = xs.length := by omega
        have hky : k = ys.length := by omega
        have he : xs = ys := by
          have := hpre.out
          rwa [List.take_of_length_le (by omega), List.take_of_length_le (by omega)] at this
        have HE := Lib.hid he
        clear hkx hky he
        go_wp2_with fail
        go_ret
        exact ⟨ret_bool (decide_eq_true HE.out).symm, hb⟩
  · have hne : ((xs.length : Int) != ys.length) = true := by simp; omega
    go_enter Tryd.func30, Tryd.ntmps30
    go_wp2_with fail
    go_ret
    exact ⟨ret_bool (decide_eq_false (fun h => hlen (by rw [h]))).symm, New.refl w⟩











end Go.Proofs.YtflhdijlhdckoaaDoor
