/- Contracts: the laws' helpers on lists of strings; sizes of lists, said once. -/
import Derived.Test.YteielmihlfakgaaGreatDoorProg
import Derived.Test.YteielmihlfakgaaGreatDoorVB
import Derived.Test.YteielmihlfakgaaGreatDoorVA
namespace Go.Proofs.YteielmihlfakgaaGreatDoor
open Go Go.Proofs Go.RowKit
set_option linter.unusedVariables false
set_option linter.unusedSimpArgs false
set_option maxRecDepth 100000
def szFold {α : Type} (f : α → Int → Int) : List α → Int → Int
  | [], l => l
  | x :: xs, l => if f x l < 0 then -1 else szFold f xs (f x l)
def szSl {α : Type} (f : α → Int → Int) (xs : List α) (left : Int) : Int := if left - xs.length < 0 then -1 else szFold f xs (left - xs.length)
theorem szFold_bd {α : Type} {f : α → Int → Int} (hf : ∀ x l, 0 ≤ l → -1 ≤ f x l ∧ f x l ≤ l) : ∀ (xs : List α) (l : Int), 0 ≤ l → -1 ≤ szFold f xs l ∧ szFold f xs l ≤ l
  | [], l, h => by simp [szFold]; omega
  | x :: xs, l, h => by
    have h1 := hf x l h
    rw [szFold]; split
    · omega
    · have := szFold_bd hf xs (f x l) (by omega); omega
theorem szFold_fit {α : Type} {f : α → Int → Int} {fit : α → Prop} (hf : ∀ x l, 0 ≤ l → -1 ≤ f x l ∧ f x l ≤ l) (hfit : ∀ x l, 0 ≤ l → l ≤ 1048576 → 0 ≤ f x l → fit x) : ∀ (xs : List α) (l : Int), 0 ≤ l → l ≤ 1048576 → 0 ≤ szFold f xs l → ∀ x ∈ xs, fit x
  | [], l, h, h', h2, x, hx => by cases hx
  | y :: xs, l, h, h', h2, x, hx => by
    have h1 := hf y l h
    rw [szFold] at h2
    split at h2
    · omega
    · rcases List.mem_cons.1 hx with rfl | hx
      · exact hfit _ l h h' (by omega)
      · exact szFold_fit hf hfit xs _ (by omega) (by omega) h2 x hx
theorem szSl_bd {α : Type} {f : α → Int → Int} (hf : ∀ x l, 0 ≤ l → -1 ≤ f x l ∧ f x l ≤ l) (xs : List α) (left : Int) (h : 0 ≤ left) : -1 ≤ szSl f xs left ∧ szSl f xs left ≤ left ∧ (0 ≤ szSl f xs left → (xs.length : Int) ≤ left) := by
  rw [szSl]; split
  · omega
  · have := szFold_bd hf xs (left - xs.length) (by omega); omega
theorem szSl_fit {α : Type} {f : α → Int → Int} {fit : α → Prop} (hf : ∀ x l, 0 ≤ l → -1 ≤ f x l ∧ f x l ≤ l) (hfit : ∀ x l, 0 ≤ l → l ≤ 1048576 → 0 ≤ f x l → fit x) (xs : List α) (left : Int) (h : 0 ≤ left) (h' : left ≤ 1048576) (h2 : 0 ≤ szSl f xs left) : ∀ x ∈ xs, fit x := by
  rw [szSl] at h2; split at h2
  · omega
  · exact szFold_fit hf hfit xs _ (by omega) (by omega) h2
theorem szT_bd (s : ByteArray) (l : Int) (h : 0 ≤ l) : -1 ≤ szT s l ∧ szT s l ≤ l := by rw [szT]; split <;> omega
def okS (s : ByteArray) : Prop := s.size ≤ 9223372036854775807
def fitS (s : ByteArray) : Prop := s.size ≤ 1048576
theorem szT_fit (s : ByteArray) (l : Int) (h : 0 ≤ l) (h' : l ≤ 1048576) (h2 : 0 ≤ szT s l) : fitS s := by
  rw [szT] at h2; split at h2
  · omega
  · rw [fitS]; omega
set_option maxHeartbeats 800000 in
theorem szStringS_any (v : Value) (xs : List ByteArray) (left : Int) (w : World) (hv : RdS w v xs) (hl : 0 ≤ left) (hl' : left ≤ 1048576) (hok : ∀ x ∈ xs, okS x) :
    Calls Tryz.prog 49 #[v, .int .i64 left] w fun e w' => e = .returned (.int .i64 (szSl szT xs left)) ∧ w = w' := by
  obtain ⟨a, cap, rfl, hm, HC⟩ := hv.open
  clear hv
  have HO := Lib.hid hok; clear hok
  by_cases h0 : left - (xs.length : Int) < 0
  · go_enter Tryz.func49, Tryz.ntmps49
    go_wp2_with fail
    go_ret
    exact ⟨ret_int (by rw [szSl, if_pos h0]), rfl⟩
  · have HZ := Lib.hid (show szSl szT xs left = szFold szT xs (left - xs.length) by rw [szSl, if_neg h0])
    have h1 : 0 ≤ left - (xs.length : Int) := by omega
    have hlen : xs.length ≤ 1048576 := by omega
    clear h0
    go_enter Tryz.func49, Tryz.ntmps49
    go_wp2_with fail
    go_loop [1, 5] (fun l i => ∃ (k : Nat) (m : Int), k ≤ xs.length ∧ i = .int .i64 k ∧ l = .int .i64 m ∧ 0 ≤ m ∧ m ≤ 1048576 ∧ Hid (szSl szT xs left = szFold szT (xs.drop k) m)) (fun _ i => xs.length - (intOf i).toNat)
    case atStart => exact ⟨0, _, Nat.zero_le _, rfl, rfl, h1, by omega, Lib.hid (by rw [HZ.out]; simp)⟩
    case round =>
      obtain ⟨k, m, hk, rfl, rfl, hm0, hm1, hz⟩ := hrel
      by_cases hlt : k < xs.length
      · obtain ⟨b, off, rfl, hbl, hx⟩ := HC.out w (New.refl w) k hlt
        have hd := Lib.hid (show xs.drop k = xs[k] :: xs.drop (k + 1) from List.drop_eq_getElem_cons hlt)
        have hsz : xs[k].size ≤ 9223372036854775807 := HO.out xs[k] (List.getElem_mem hlt)
        by_cases hn : m - (xs[k].size : Int) < 0
        · have hN := Lib.hid (show szT xs[k] m = -1 by rw [szT, if_pos hn])
          go_wp2_with fail
          go_ret
          exact ⟨ret_int (by rw [hz.out, hd.out, szFold, hN.out]; rfl), rfl⟩
        · have hN := Lib.hid (show szT xs[k] m = m - xs[k].size by rw [szT, if_neg hn])
          go_wp2_with fail
          go_round
          case rel => exact ⟨k + 1, m - xs[k].size, by omega, by go_num, rfl, by omega, by omega, Lib.hid (by rw [hz.out, hd.out, szFold, hN.out, if_neg (by omega)])⟩
          case measure => simp [intOf]; omega
      · obtain rfl : k = xs.length := by omega
        go_wp2_with fail
        go_ret
        exact ⟨ret_int (by rw [hz.out]; simp [szFold]), rfl⟩
theorem infoStr : (Tryz.prog.info? 9).map (fun i => (i.zero, i.size, i.bytes)) = some (some (.string ⟨#[]⟩), 1, 16) := by kernel_rfl
theorem toStringS_any (v : Value) (xs : List ByteArray) (w : World) (hv : RdS w v xs) (hn : xs.length ≤ 1048576) :
    Calls Tryz.prog 55 #[v] w (RetSlice w 9 1 xs.length (xs.map Value.string)) := by
  obtain ⟨a, cap, rfl, hm, HC⟩ := hv.open
  obtain ⟨i0, hi, hz0, hz1, hz2⟩ := info_parts infoStr
  go_enter Tryz.func55, Tryz.ntmps55
  go_wp2_with (at_make; refine wpList_make_full _ rfl _ _ 39 rfl w.heap.size 9 i0 (.string ⟨#[]⟩) 1 Tryz.underlying39 hi hz0 hz1 .i64 .i64 _ _ xs.length rfl rfl rfl rfl (by rw [hz2]; omega) (by unfold maxLen; omega) (Nat.le_refl _) ?_; intro w1 hown hgr)
  have b1 : New w w1 := (New.refl w).grown hgr (fun k hk => by cases hk)
  have hown1 : w1.ownsRow w.heap.size 9 1 (.slice (some ⟨w.heap.size, 0, none⟩) xs.length xs.length) xs.length (((xs.take 0).map Value.string) ++ List.replicate (xs.length - 0) (.string ⟨#[]⟩)) := by
    have e : (madeCells (Value.string ⟨#[]⟩).cells (xs.length * 1)).toList = ((xs.take 0).map Value.string) ++ List.replicate (xs.length - 0) (.string ⟨#[]⟩) := by
      rw [show (Value.string ⟨#[]⟩).cells = #[.string ⟨#[]⟩] from rfl, toList_madeCells_one]; simp
    rw [← e]; exact hown
  clear hown hgr hz2 hz1 hz0 hi
  go_wp2_with fail
  go_loopw [4] (fun i wr => ∃ k : Nat, k ≤ xs.length ∧ i = .int .i64 k ∧ New w wr ∧ wr.ownsRow w.heap.size 9 1 (.slice (some ⟨w.heap.size, 0, none⟩) xs.length xs.length) xs.length (((xs.take k).map Value.string) ++ List.replicate (xs.length - k) (.string ⟨#[]⟩))) (fun i _ => xs.length - (intOf i).toNat)
  case atStart => exact ⟨0, Nat.zero_le _, rfl, b1, hown1⟩
  case round =>
    obtain ⟨k, hk, rfl, hb, hown⟩ := hrel
    clear b1 hown1
    by_cases hlt : k < xs.length
    · obtain ⟨b, off, rfl, hbl, hx⟩ := HC.out wr hb k hlt
      have hd : wr.cell? ⟨w.heap.size, k, none⟩ = some (.string ⟨#[]⟩) := by rw [hown.cellAt k (by omega)]; exact row_at _ _ _ _ hlt
      have hfz := hown.frozenAt k
      clear hv
      go_wp2_with fail
      go_roundw
      case rel =>
        have h1 := (hown.stored k (.string xs[k])).1
        rw [set_next _ _ _ _ hlt] at h1
        exact ⟨k + 1, by omega, by go_num, hb.setCell (Nat.le_refl _) _, h1⟩
      case measure => simp [intOf]; omega
    · obtain rfl : k = xs.length := by omega
      go_wp2_with fail
      go_ret
      exact ⟨_, rfl, hb, by simpa using hown⟩
set_option maxHeartbeats 800000 in
theorem eqStringS_any (v u : Value) (xs : List ByteArray) (w : World) (hv : RdS w v xs) (hu : RdS w u xs) :
    Calls Tryz.prog 60 #[v, u] w fun e w' => e = .returned (.bool true) ∧ New w w' := by
  obtain ⟨a, cap, rfl, hm, HC⟩ := hv.open
  obtain ⟨a', cap', rfl, _, HC'⟩ := hu.open
  clear hv hu
  have hne : ((xs.length : Int) != xs.length) = false := by simp
  go_enter Tryz.func60, Tryz.ntmps60
  go_wp2_with fail
  go_loopw [5] (fun i wr => ∃ k : Nat, k ≤ xs.length ∧ i = .int .i64 k ∧ New w wr) (fun i _ => xs.length - (intOf i).toNat)
  case atStart => exact ⟨0, Nat.zero_le _, rfl, New.refl _⟩
  case round =>
    obtain ⟨k, hk, rfl, hb⟩ := hrel
    obtain ⟨cc, f'⟩ := hb.rules
    have hbz := hb.size
    by_cases hlt : k < xs.length
    · obtain ⟨b, off, rfl, hbl, hx⟩ := HC.out w (New.refl w) k hlt
      obtain ⟨b', off', rfl, hbl', hx'⟩ := HC'.out w (New.refl w) k hlt
      have hbw : b < wr.heap.size := by omega
      have hbw' : b' < wr.heap.size := by omega
      have heq : (xs[k].toList == xs[k].toList) = true := by simp
      go_wp2_with fail
      go_quiet (fail)
      go_wp2_with fail
      go_roundw
      case rel => exact ⟨k + 1, by omega, by go_num, (by repeat (first | with_reducible exact New.refl _ | with_reducible assumption | with_reducible refine New.drew ?_ | with_reducible refine New.drewN ?_ _ | with_reducible refine New.alloc ?_ _ | with_reducible refine New.setCell ?_ (by first | (simp; done) | (simp; omega) | omega) _ | with_reducible refine New.trans ?_ (by with_reducible assumption)))⟩
      case measure => simp [intOf]; omega
    · obtain rfl : k = xs.length := by omega
      go_wp2_with fail
      go_ret
      exact ⟨rfl, hb⟩
end Go.Proofs.YteielmihlfakgaaGreatDoor
/- Contracts: the laws' helpers on lists of lines (a text and a list of terms). -/
namespace Go.Proofs.YteielmihlfakgaaGreatDoor
open Go Go.Proofs Go.RowKit
set_option linter.unusedVariables false
set_option linter.unusedSimpArgs false
set_option maxRecDepth 100000
theorem set_next_flat {α : Type} (enc : α → List Value) (sz : Nat) (hs : ∀ x, (enc x).length = sz) (zc : List Value) (hz : zc.length = sz) (qs : List α) (q : α) (n : Nat) (h : qs.length < n) :
    setFrom (qs.flatMap enc ++ (List.replicate (n - qs.length) zc).flatten) (qs.length * sz) (enc q) = (qs ++ [q]).flatMap enc ++ (List.replicate (n - (qs.length + 1)) zc).flatten := by
  obtain ⟨m, rfl⟩ : ∃ m, n = qs.length + m + 1 := ⟨n - qs.length - 1, by omega⟩
  have hl : (qs ++ q :: List.replicate m q).length = qs.length + m + 1 := by simp; omega
  have hk : qs.length < (qs ++ q :: List.replicate m q).length := by omega
  have := set_flat enc sz hs zc hz (qs ++ q :: List.replicate m q) qs.length hk
  rw [hl] at this
  have e1 : (qs ++ q :: List.replicate m q).take qs.length = qs := by simp
  have e2 : (qs ++ q :: List.replicate m q).take (qs.length + 1) = qs ++ [q] := by rw [List.take_append, List.take_of_length_le (by omega), Nat.add_sub_cancel_left]; rfl
  have e3 : (qs ++ q :: List.replicate m q)[qs.length] = q := by simp
  rw [e1, e2, e3] at this
  exact this
theorem zero_next_at {α : Type} (enc : α → List Value) (sz : Nat) (hs : ∀ x, (enc x).length = sz) (zc : List Value) (hz : zc.length = sz) (qs : List α) (n : Nat) (h : qs.length < n) (i : Nat) (hi : i < sz) :
    (qs.flatMap enc ++ (List.replicate (n - qs.length) zc).flatten)[qs.length * sz + i]? = zc[i]? := by
  have h1 : (qs.flatMap enc).length = qs.length * sz := flat_length enc sz hs qs
  rw [List.getElem?_append_right (by omega), h1]
  obtain ⟨m, hm⟩ : ∃ m, n - qs.length = m + 1 := ⟨n - qs.length - 1, by omega⟩
  rw [hm, List.replicate_succ, List.flatten_cons, List.getElem?_append_left (by omega)]
  congr 1; omega
structure LineD where
  target : ByteArray
  terms : List ETerm
abbrev LV := LineD × Value
def encLV (p : LV) : List Value := [.string p.1.target, p.2]
theorem encLV_len (p : LV) : (encLV p).length = 2 := rfl
/-- A list of lines reads. -/
def RdLn (w : World) (v : Value) (ls : List LineD) : Prop := ∃ ps : List LV, ps.map Prod.fst = ls ∧ Rd w v ps.length (ps.flatMap encLV) ∧ ∀ p ∈ ps, Rd w p.2 p.1.terms.length (p.1.terms.flatMap encTerm)
theorem RdLn.new {w w' : World} {v : Value} {ls : List LineD} (h : RdLn w v ls) (n : New w w') : RdLn w' v ls := by
  obtain ⟨ps, e, h1, h2⟩ := h
  exact ⟨ps, e, h1.new n, fun p hp => (h2 p hp).new n⟩
/-- No two of the lists' blocks are one. -/
def Apart (v : Value) (ps : List LV) : Prop :=
  (∀ i (h : i < ps.length), ∀ x y, v.ownBlock = some x → (ps[i]).2.ownBlock = some y → x ≠ y) ∧
  ∀ i j (h : i < ps.length) (h' : j < ps.length), i ≠ j → ∀ x y, (ps[i]).2.ownBlock = some x → (ps[j]).2.ownBlock = some y → x ≠ y
/-- A list of lines in memory of the call's own. -/
def OwnLnX (w : World) (base : Nat) (v : Value) (ps : List LV) : Prop := w.ownsRow base 91 2 v ps.length (ps.flatMap encLV) ∧ ∀ i (h : i < ps.length), w.ownsRow base 66 3 (ps[i]).2 (ps[i]).1.terms.length ((ps[i]).1.terms.flatMap encTerm)
def OwnLn (w : World) (base : Nat) (v : Value) (ls : List LineD) : Prop := ∃ ps : List LV, ps.map Prod.fst = ls ∧ OwnLnX w base v ps ∧ Apart v ps
theorem OwnLnX.new {w w' : World} {base : Nat} {v : Value} {ps : List LV} (h : OwnLnX w base v ps) (n : New w w') : OwnLnX w' base v ps := ⟨own_new h.1 n, fun i hi => own_new (h.2 i hi) n⟩
theorem OwnLn.rd {w : World} {base : Nat} {v : Value} {ls : List LineD} (h : OwnLn w base v ls) : RdLn w v ls := by
  obtain ⟨ps, e, ⟨h1, h2⟩, _⟩ := h
  exact ⟨ps, e, own_rd h1, fun p hp => by obtain ⟨i, hi, rfl⟩ := List.mem_iff_getElem.1 hp; exact own_rd (h2 i hi)⟩
theorem OwnLn.new {w w' : World} {base : Nat} {v : Value} {ls : List LineD} (h : OwnLn w base v ls) (n : New w w') : OwnLn w' base v ls := by
  obtain ⟨ps, e, h1, h2⟩ := h
  exact ⟨ps, e, h1.new n, h2⟩
theorem OwnLn.setBelow {w : World} {base : Nat} {v : Value} {ls : List LineD} (h : OwnLn w base v ls) {p : Addr} {u : Value} (hp : p.block < base) : OwnLn (w.setCell p u) base v ls := by
  obtain ⟨ps, e, ⟨h1, h2⟩, h3⟩ := h
  exact ⟨ps, e, ⟨ownsRow_setCell_below h1 hp u, fun i hi => ownsRow_setCell_below (h2 i hi) hp u⟩, h3⟩
theorem OwnLn.base {w : World} {base base' : Nat} {v : Value} {ls : List LineD} (h : OwnLn w base v ls) (hb : base' ≤ base) : OwnLn w base' v ls := by
  obtain ⟨ps, e, ⟨h1, h2⟩, h3⟩ := h
  exact ⟨ps, e, ⟨own_base h1 hb, fun i hi => own_base (h2 i hi) hb⟩, h3⟩
def szLn (l : LineD) (left : Int) : Int := if szT l.target left < 0 then -1 else szTermS l.terms (szT l.target left)
theorem szLn_bd (l : LineD) (left : Int) (h : 0 ≤ left) : -1 ≤ szLn l left ∧ szLn l left ≤ left := by
  have h1 := szT_bd l.target left h
  rw [szLn]; split
  · omega
  · have := szTermS_bd l.terms (szT l.target left) (by omega); omega
def okLn (l : LineD) : Prop := okS l.target ∧ ∀ x ∈ l.terms, okTerm x
def fitLn (l : LineD) : Prop := fitS l.target ∧ (∀ x ∈ l.terms, fitTerm x) ∧ l.terms.length ≤ 1048576
theorem szLn_fit (l : LineD) (left : Int) (h : 0 ≤ left) (h' : left ≤ 1048576) (h2 : 0 ≤ szLn l left) : fitLn l := by
  have h1 := szT_bd l.target left h
  rw [szLn] at h2; split at h2
  · omega
  · have h3 := szTermS_bd l.terms (szT l.target left) (by omega)
    exact ⟨szT_fit l.target left h h' (by omega), szTermS_fit l.terms _ (by omega) (by omega) h2, by have := h3.2.2 (by omega); omega⟩
theorem szLine_any (l : LineD) (tv : Value) (left : Int) (w : World) (ht : Rd w tv l.terms.length (l.terms.flatMap encTerm)) (hl : 0 ≤ left) (hl' : left ≤ 1048576) (ho : okLn l) :
    Calls Tryz.prog 84 #[.agg #[.string l.target, tv], .int .i64 left] w fun e w' => e = .returned (.int .i64 (szLn l left)) ∧ New w w' := by
  have HT := Lib.hid ht; clear ht
  have hs : l.target.size ≤ 9223372036854775807 := ho.1
  have HO := Lib.hid ho.2; clear ho
  by_cases h1 : left - (l.target.size : Int) < 0
  · have h2 : szT l.target left = -1 := by rw [szT, if_pos h1]
    have HZ := Lib.hid (show szLn l left = -1 by rw [szLn, h2]; rfl)
    go_enter Tryz.func84, Tryz.ntmps84
    go_wp2_with fail
    go_ret
    exact ⟨ret_int HZ.out.symm, (by repeat (first | with_reducible exact New.refl _ | with_reducible assumption | with_reducible refine New.drew ?_ | with_reducible refine New.drewN ?_ _ | with_reducible refine New.alloc ?_ _ | with_reducible refine New.setCell ?_ (by first | (simp; done) | (simp; omega) | omega) _ | with_reducible refine New.trans ?_ (by with_reducible assumption)))⟩
  · have h2 : szT l.target left = left - l.target.size := by rw [szT, if_neg h1]
    have HZ := Lib.hid (show szLn l left = szTermS l.terms (left - l.target.size) by rw [szLn, h2, if_neg h1])
    have hb := szTermS_bd l.terms (left - l.target.size) (by omega)
    rw [HZ.out]
    clear h2
    go_enter Tryz.func84, Tryz.ntmps84
    go_wp2_with fail
    refine (szTermS_any tv l.terms (left - l.target.size) _ (Rd.new HT.out (by repeat (first | with_reducible exact New.refl _ | with_reducible assumption | with_reducible refine New.drew ?_ | with_reducible refine New.drewN ?_ _ | with_reducible refine New.alloc ?_ _ | with_reducible refine New.setCell ?_ (by first | (simp; done) | (simp; omega) | omega) _ | with_reducible refine New.trans ?_ (by with_reducible assumption)))) (by omega) (by omega) HO.out).mono ?_; rintro e w1 ⟨rfl, b1⟩
    try with_reducible replace b1 := New.undrawN b1
    try with_reducible replace b1 := New.undraw b1
    obtain ⟨c1, f1⟩ := b1.rules
    have z1 := b1.size
    try simp only [World.size_alloc, World.size_drew, World.heap_drewN, World.size_setCell] at z1
    go_wp2_with fail
    all_goals go_ret
    all_goals exact ⟨ret_int (by omega), (by repeat (first | with_reducible exact New.refl _ | with_reducible assumption | with_reducible refine New.drew ?_ | with_reducible refine New.drewN ?_ _ | with_reducible refine New.alloc ?_ _ | with_reducible refine New.setCell ?_ (by first | (simp; done) | (simp; omega) | omega) _ | with_reducible refine New.trans ?_ (by with_reducible assumption)))⟩
set_option maxHeartbeats 800000 in
theorem szLineS_any (v : Value) (ls : List LineD) (left : Int) (w : World) (hv : RdLn w v ls) (hl : 0 ≤ left) (hl' : left ≤ 1048576) (hok : ∀ x ∈ ls, okLn x) :
    Calls Tryz.prog 50 #[v, .int .i64 left] w fun e w' => e = .returned (.int .i64 (szSl szLn ls left)) ∧ New w w' := by
  obtain ⟨ps, rfl, h1, h2⟩ := hv
  obtain ⟨a, cap, rfl, hm, HC⟩ := Rd.flat encLV_len (by omega) h1
  clear h1
  have HT := Lib.hid h2; clear h2
  have HO := Lib.hid (fun p (hp : p ∈ ps) => hok p.1 (List.mem_map_of_mem hp)); clear hok
  by_cases h0 : left - (ps.length : Int) < 0
  · go_enter Tryz.func50, Tryz.ntmps50
    go_wp2_with fail
    go_ret
    exact ⟨ret_int (by rw [szSl, List.length_map, if_pos h0]), New.refl _⟩
  · have HZ := Lib.hid (show szSl szLn (ps.map Prod.fst) left = szFold szLn (ps.map Prod.fst) (left - ps.length) by rw [szSl, List.length_map, if_neg h0])
    have h1 : 0 ≤ left - (ps.length : Int) := by omega
    have hlen : ps.length ≤ 1048576 := by omega
    clear h0
    go_enter Tryz.func50, Tryz.ntmps50
    go_wp2_with fail
    go_loopw [1, 5] (fun l i wr => ∃ (k : Nat) (m : Int), k ≤ ps.length ∧ i = .int .i64 k ∧ l = .int .i64 m ∧ 0 ≤ m ∧ m ≤ 1048576 ∧ Hid (szSl szLn (ps.map Prod.fst) left = szFold szLn ((ps.drop k).map Prod.fst) m) ∧ New w wr) (fun _ i _ => ps.length - (intOf i).toNat)
    case atStart => exact ⟨0, _, Nat.zero_le _, rfl, rfl, h1, by omega, Lib.hid (by rw [HZ.out]; simp), New.refl w⟩
    case round =>
      obtain ⟨k, m, hk, rfl, rfl, hm0, hm1, hz, hb⟩ := hrel
      obtain ⟨c, f⟩ := hb.rules
      have hzw := hb.size
      by_cases hlt : k < ps.length
      · obtain ⟨b, off, rfl, hbl, hx⟩ := HC.out k hlt
        have x0 := hx 0 _ (by omega) rfl
        have x1 := hx 1 _ (by omega) rfl
        rw [Nat.add_zero] at x0
        replace hx := Lib.hid hx
        have hbw : b < wr.heap.size := by omega
        have hd := Lib.hid (show (ps.drop k).map Prod.fst = ps[k].1 :: (ps.drop (k + 1)).map Prod.fst by rw [List.drop_eq_getElem_cons hlt]; rfl)
        have hbd := szLn_bd ps[k].1 m hm0
        have HX := Lib.hid (HO.out ps[k] (List.getElem_mem hlt))
        have HY := Lib.hid (HT.out ps[k] (List.getElem_mem hlt))
        by_cases hn : szLn ps[k].1 m < 0
        · go_wp2_with fail
          refine (szLine_any ps[k].1 _ m _ (Rd.new HY.out hb) hm0 hm1 HX.out).mono ?_; rintro e w3 ⟨rfl, b3⟩
          try with_reducible replace b3 := New.undrawN b3
          try with_reducible replace b3 := New.undraw b3
          obtain ⟨c3, f3⟩ := b3.rules
          have z3 := b3.size
          try simp only [World.size_alloc, World.size_drew, World.heap_drewN, World.size_setCell] at z3
          go_wp2_with fail
          go_ret
          exact ⟨ret_int (by rw [hz.out, hd.out, szFold, if_pos (by omega)]), hb.trans b3⟩
        · go_wp2_with fail
          refine (szLine_any ps[k].1 _ m _ (Rd.new HY.out hb) hm0 hm1 HX.out).mono ?_; rintro e w3 ⟨rfl, b3⟩
          try with_reducible replace b3 := New.undrawN b3
          try with_reducible replace b3 := New.undraw b3
          obtain ⟨c3, f3⟩ := b3.rules
          have z3 := b3.size
          try simp only [World.size_alloc, World.size_drew, World.heap_drewN, World.size_setCell] at z3
          go_wp2_with fail
          go_roundw
          case rel => exact ⟨k + 1, szLn ps[k].1 m, by omega, by go_num, rfl, by omega, by omega, Lib.hid (by rw [hz.out, hd.out, szFold, if_neg (by omega)]), hb.trans b3⟩
          case measure => simp [intOf]; omega
      · obtain rfl : k = ps.length := by omega
        go_wp2_with fail
        go_ret
        exact ⟨ret_int (by rw [hz.out]; simp [szFold]), hb⟩
set_option maxHeartbeats 800000 in
theorem toLine_any (l : LineD) (tv : Value) (w : World) (ht : Rd w tv l.terms.length (l.terms.flatMap encTerm)) (hn : l.terms.length ≤ 1048576) :
    Calls Tryz.prog 93 #[.agg #[.string l.target, tv]] w fun e w' => ∃ r, e = .returned (.agg #[.string l.target, r]) ∧ New w w' ∧ (∃ a c, r = .slice a l.terms.length c) ∧ w'.ownsRow w.heap.size 66 3 r l.terms.length (l.terms.flatMap encTerm) := by
  go_enter Tryz.func93, Tryz.ntmps93
  go_wp2_with fail
  refine (toTermS_any _ l.terms _ (Rd.new ht (by repeat (first | with_reducible exact New.refl _ | with_reducible assumption | with_reducible refine New.drew ?_ | with_reducible refine New.drewN ?_ _ | with_reducible refine New.alloc ?_ _ | with_reducible refine New.setCell ?_ (by first | (simp; done) | (simp; omega) | omega) _ | with_reducible refine New.trans ?_ (by with_reducible assumption)))) hn).mono ?_; rintro e w1 ⟨r, rfl, b1, own1⟩
  obtain ⟨ra, rc, rfl⟩ := own_slice own1; simp only [World.size_alloc, World.size_setCell] at own1
  obtain ⟨c1, f1⟩ := b1.rules
  have z1 := b1.size
  try simp only [World.size_alloc, World.size_drew, World.heap_drewN, World.size_setCell] at z1
  have z1_0 : w.heap.size < w1.heap.size := by omega
  have z1_1 : w.heap.size + 1 < w1.heap.size := by omega
  have z1_2 : w.heap.size + 1 + 1 < w1.heap.size := by omega
  go_wp2_with fail
  refine bodyPost_ret (v := .agg #[.string l.target, .slice ra l.terms.length rc]) (by simp [results, Tryz.results93, go_sem, c1, f1, z1_0, z1_1, z1_2]) rfl ⟨_, rfl, (by repeat (first | with_reducible exact New.refl _ | with_reducible assumption | with_reducible refine New.drew ?_ | with_reducible refine New.drewN ?_ _ | with_reducible refine New.alloc ?_ _ | with_reducible refine New.setCell ?_ (by first | (simp; done) | (simp; omega) | omega) _ | with_reducible refine New.trans ?_ (by with_reducible assumption))), ⟨_, _, rfl⟩, ?_⟩
  refine own_base (base := w.heap.size + 1 + 1 + 1) ?_ (by omega)
  iterate 3 apply ownsRow_setCell_below
  exact own1
  all_goals (dsimp; omega)
theorem infoLine : (Tryz.prog.info? 91).map (fun i => (i.zero, i.size, i.bytes)) = some (some (Value.agg #[.string ⟨#[]⟩, .slice none 0 0]), 2, 40) := by kernel_rfl
def RetLn (w : World) (ls : List LineD) (e : Ending) (w' : World) : Prop := ∃ r, e = .returned r ∧ New w w' ∧ (∃ a c, r = .slice a ls.length c) ∧ OwnLn w' w.heap.size r ls
set_option maxHeartbeats 1600000 in
theorem toLineS_any (v : Value) (ls : List LineD) (w : World) (hv : RdLn w v ls) (hn : ls.length ≤ 1048576) (hf : ∀ x ∈ ls, x.terms.length ≤ 1048576) :
    Calls Tryz.prog 56 #[v] w (RetLn w ls) := by
  obtain ⟨ps, rfl, h1, h2⟩ := hv
  rw [List.length_map] at hn
  obtain ⟨a, cap, rfl, hm, HC⟩ := Rd.flat encLV_len (by omega) h1
  clear h1
  have HT := Lib.hid h2; clear h2
  have HF := Lib.hid (fun p (hp : p ∈ ps) => hf p.1 (List.mem_map_of_mem hp)); clear hf
  obtain ⟨i0, hi, hz0, hz1, hz2⟩ := info_parts infoLine
  go_enter Tryz.func56, Tryz.ntmps56
  go_wp2_with (at_make; refine wpList_make_full _ rfl _ _ 46 rfl w.heap.size 91 i0 (Value.agg #[.string ⟨#[]⟩, .slice none 0 0]) 2 Tryz.underlying46 hi hz0 hz1 .i64 .i64 _ _ ps.length rfl rfl rfl rfl (by rw [hz2]; omega) (by unfold maxLen; omega) (Nat.le_refl _) ?_; intro w1 hown hgr)
  have b1 : New w w1 := (New.refl w).grown hgr (fun k hk => by cases hk)
  have hw1 := own_block_lt hown _ rfl
  have hown1 : w1.ownsRow w.heap.size 91 2 (.slice (some ⟨w.heap.size, 0, none⟩) ps.length ps.length) ps.length (([] : List LV).flatMap encLV ++ (List.replicate (ps.length - ([] : List LV).length) [Value.string ⟨#[]⟩, Value.slice none 0 0]).flatten) := by
    have e := made_flat #[Value.string ⟨#[]⟩, Value.slice none 0 0] ps.length (by decide)
    simp only [List.flatMap_nil, List.nil_append, List.length_nil, Nat.sub_zero]
    rw [← e]; exact hown
  clear hown hgr hz2 hz1 hz0 hi
  go_wp2_with fail
  go_loopw [4] (fun i wr => ∃ (k : Nat) (qs : List LV), k ≤ ps.length ∧ i = .int .i64 k ∧ qs.length = k ∧ Hid (qs.map Prod.fst = (ps.take k).map Prod.fst) ∧ New w wr ∧ w.heap.size < wr.heap.size ∧ wr.ownsRow w.heap.size 91 2 (.slice (some ⟨w.heap.size, 0, none⟩) ps.length ps.length) ps.length (qs.flatMap encLV ++ (List.replicate (ps.length - qs.length) [Value.string ⟨#[]⟩, Value.slice none 0 0]).flatten) ∧ Hid (∀ i (h : i < qs.length), wr.ownsRow (w.heap.size + 1) 66 3 (qs[i]).2 (qs[i]).1.terms.length ((qs[i]).1.terms.flatMap encTerm)) ∧ Hid (∀ i j (h : i < qs.length) (h' : j < qs.length), i ≠ j → ∀ x y, (qs[i]).2.ownBlock = some x → (qs[j]).2.ownBlock = some y → x ≠ y)) (fun i _ => ps.length - (intOf i).toNat)
  case atStart => exact ⟨0, [], Nat.zero_le _, rfl, rfl, rfl, b1, hw1.2, hown1, Lib.hid (fun i h => by simp at h), Lib.hid (fun i j h => by simp at h)⟩
  case round =>
    obtain ⟨k, qs, hk, rfl, hql, hqe, hb, hwr, hown, hqo, hqa⟩ := hrel
    clear b1 hown1 hw1
    obtain ⟨c, f⟩ := hb.rules
    by_cases hlt : k < ps.length
    · obtain ⟨b, off, rfl, hbl, hx⟩ := HC.out k hlt
      have x0 := hx 0 _ (by omega) rfl
      have x1 := hx 1 _ (by omega) rfl
      rw [Nat.add_zero] at x0
      replace hx := Lib.hid hx
      have hdn : ∀ i u, i < 2 → ([Value.string ⟨#[]⟩, Value.slice none 0 0] : List Value)[i]? = some u → wr.cell? ⟨w.heap.size, k * 2 + i, none⟩ = some u := fun i u hi hu => by
        have := zero_next_at encLV 2 encLV_len [Value.string ⟨#[]⟩, Value.slice none 0 0] rfl qs ps.length (by omega) i hi
        rw [hql] at this
        rw [hown.cellAt (k * 2 + i) (by omega), hql, this, hu]
      have d0 := hdn 0 _ (by omega) rfl
      have d1 := hdn 1 _ (by omega) rfl
      rw [Nat.add_zero] at d0
      clear hdn
      have f0 := hown.frozenAt (k * 2)
      have f1 := hown.frozenAt (k * 2 + 1)
      have HY := Lib.hid (HT.out ps[k] (List.getElem_mem hlt))
      have HX := Lib.hid (HF.out ps[k] (List.getElem_mem hlt))
      replace hown := Lib.hid hown
      go_wp2_with fail
      refine (toLine_any ps[k].1 _ _ (Rd.new HY.out hb) HX.out).mono ?_; rintro e w2 ⟨r, rfl, b2, ⟨ra, rc, rfl⟩, own2⟩
      obtain ⟨c2, f2⟩ := b2.rules
      have z2 := b2.size
      try simp only [World.size_alloc, World.size_drew, World.heap_drewN, World.size_setCell] at z2
      have z2_0 : w.heap.size < w2.heap.size := by omega
      go_wp2_with fail
      go_roundw
      case rel =>
        have h1 := (((own_new hown.out b2).stored (k * 2) (.string ps[k].1.target)).1.stored (k * 2 + 1) (.slice ra ps[k].1.terms.length rc)).1
        have h2 := set_next_flat encLV 2 encLV_len [Value.string ⟨#[]⟩, Value.slice none 0 0] rfl qs (ps[k].1, .slice ra ps[k].1.terms.length rc) ps.length (by omega)
        rw [hql] at h2 h1
        simp only [setFrom, encLV] at h2
        rw [h2] at h1
        refine ⟨k + 1, qs ++ [(ps[k].1, .slice ra ps[k].1.terms.length rc)], by omega, by go_num, by simp [hql], Lib.hid (by rw [List.take_succ_eq_append_getElem hlt, List.map_append, List.map_append, hqe.out]; rfl), (((hb.trans b2).setCell (Nat.le_refl _) _).setCell (Nat.le_refl _) _), by simp only [World.size_setCell]; omega, ?_, Lib.hid (fun i hq => ?_), Lib.hid (fun i j h1' h2' hij x y hx hy => ?_)⟩
        · have hl : (qs ++ [(ps[k].1, Value.slice ra ps[k].1.terms.length rc)]).length = k + 1 := by simp [hql]
          rw [hl]
          exact h1
        · rw [List.length_append, List.length_singleton] at hq
          apply ownsRow_setCell_below
          apply ownsRow_setCell_below
          · by_cases hc : i < qs.length
            · rw [List.getElem_append_left hc]
              exact own_new (hqo.out i hc) b2
            · have hce : i = qs.length := by omega
              subst hce
              rw [List.getElem_append_right (Nat.le_refl _)]
              simp only [Nat.sub_self, List.getElem_cons_zero]
              exact own_base own2 (by omega)
          all_goals (dsimp; omega)
        · rw [List.length_append, List.length_singleton] at h1' h2'
          have low : ∀ i (hc : i < qs.length) x, (qs[i]).2.ownBlock = some x → x < wr.heap.size := fun i hc x hx => (own_block_lt (hqo.out i hc) x hx).2
          have hig : ∀ y, (Value.slice ra ps[k].1.terms.length rc).ownBlock = some y → wr.heap.size ≤ y := fun y hy => (own_block_lt own2 y hy).1
          by_cases hc : i < qs.length
          · by_cases hd : j < qs.length
            · rw [List.getElem_append_left hc] at hx
              rw [List.getElem_append_left hd] at hy
              exact hqa.out i j hc hd hij x y hx hy
            · have hde : j = qs.length := by omega
              subst hde
              rw [List.getElem_append_left hc] at hx
              rw [List.getElem_append_right (Nat.le_refl _)] at hy
              simp only [Nat.sub_self, List.getElem_cons_zero] at hy
              have := low i hc x hx; have := hig y hy; omega
          · have hce : i = qs.length := by omega
            subst hce
            have hd : j < qs.length := by omega
            rw [List.getElem_append_left hd] at hy
            rw [List.getElem_append_right (Nat.le_refl _)] at hx
            simp only [Nat.sub_self, List.getElem_cons_zero] at hx
            have := low j hd y hy; have := hig x hx; omega
      case measure => simp [intOf]; omega
    · obtain rfl : k = ps.length := by omega
      have HE := Lib.hid (show qs.map Prod.fst = ps.map Prod.fst by have := hqe.out; rwa [List.take_length] at this)
      go_wp2_with fail
      go_ret
      refine ⟨_, rfl, hb, ⟨_, _, by rw [List.length_map]; rfl⟩, qs, HE.out, ⟨?_, fun i hi => own_base (hqo.out i hi) (by omega)⟩, ⟨fun i hi x y hx hy => ?_, hqa.out⟩⟩
      · rw [hql] at hown ⊢
        simpa using hown
      · have h2 := (own_block_lt (hqo.out i hi) y hy).1
        have hx' : w.heap.size = x := Option.some.inj hx
        omega
theorem eqLine_any (l : LineD) (tv uv : Value) (w : World) (ht : Rd w tv l.terms.length (l.terms.flatMap encTerm)) (hu : Rd w uv l.terms.length (l.terms.flatMap encTerm)) :
    Calls Tryz.prog 106 #[.agg #[.string l.target, tv], .agg #[.string l.target, uv]] w fun e w' => e = .returned (.bool true) ∧ New w w' := by
  have zz : w.heap.size < w.heap.size + 1 + 1 := by omega
  have heq : (l.target.toList == l.target.toList) = true := by simp
  go_enter Tryz.func106, Tryz.ntmps106
  go_wp2_with fail
  refine (eqTermS_any _ _ l.terms l.terms _ (Rd.new ht (by repeat (first | with_reducible exact New.refl _ | with_reducible assumption | with_reducible refine New.drew ?_ | with_reducible refine New.drewN ?_ _ | with_reducible refine New.alloc ?_ _ | with_reducible refine New.setCell ?_ (by first | (simp; done) | (simp; omega) | omega) _ | with_reducible refine New.trans ?_ (by with_reducible assumption)))) (Rd.new hu (by repeat (first | with_reducible exact New.refl _ | with_reducible assumption | with_reducible refine New.drew ?_ | with_reducible refine New.drewN ?_ _ | with_reducible refine New.alloc ?_ _ | with_reducible refine New.setCell ?_ (by first | (simp; done) | (simp; omega) | omega) _ | with_reducible refine New.trans ?_ (by with_reducible assumption))))).mono ?_; rintro e w1 ⟨rfl, b1⟩
  try with_reducible replace b1 := New.undrawN b1
  try with_reducible replace b1 := New.undraw b1
  obtain ⟨c1, f1⟩ := b1.rules
  have z1 := b1.size
  try simp only [World.size_alloc, World.size_drew, World.heap_drewN, World.size_setCell] at z1
  go_wp2_with fail
  go_ret
  exact ⟨rfl, (by repeat (first | with_reducible exact New.refl _ | with_reducible assumption | with_reducible refine New.drew ?_ | with_reducible refine New.drewN ?_ _ | with_reducible refine New.alloc ?_ _ | with_reducible refine New.setCell ?_ (by first | (simp; done) | (simp; omega) | omega) _ | with_reducible refine New.trans ?_ (by with_reducible assumption)))⟩
set_option maxHeartbeats 800000 in
theorem eqLineS_any (v u : Value) (ls : List LineD) (w : World) (hv : RdLn w v ls) (hu : RdLn w u ls) :
    Calls Tryz.prog 61 #[v, u] w fun e w' => e = .returned (.bool true) ∧ New w w' := by
  obtain ⟨ps, rfl, h1, h2⟩ := hv
  obtain ⟨qs, hqe, g1, g2⟩ := hu
  have hlen : qs.length = ps.length := by have := congrArg List.length hqe; simpa using this
  have HE := Lib.hid (fun k (h : k < ps.length) => show (qs[k]'(by omega)).1 = ps[k].1 by
    have := congrArg (fun l => l[k]?) hqe
    simpa [List.getElem?_map, List.getElem?_eq_getElem, h, hlen] using this)
  rw [hlen] at g1
  obtain ⟨a, cap, rfl, hm, HC⟩ := Rd.flat encLV_len (by omega) h1
  have g1' : Rd w u qs.length (qs.flatMap encLV) := by rw [hlen]; exact g1
  obtain ⟨a', cap', rfl, hm', HC'⟩ := Rd.flat encLV_len (by omega) g1'
  clear h1 g1 g1' hqe
  have HT := Lib.hid h2; clear h2
  have HU := Lib.hid g2; clear g2
  have hne : ((ps.length : Int) != qs.length) = false := by simp [hlen]
  have hle : ps.length ≤ qs.length := by omega
  go_enter Tryz.func61, Tryz.ntmps61
  go_wp2_with fail
  go_loopw [5] (fun i wr => ∃ k : Nat, k ≤ ps.length ∧ i = .int .i64 k ∧ New w wr) (fun i _ => ps.length - (intOf i).toNat)
  case atStart => exact ⟨0, Nat.zero_le _, rfl, New.refl _⟩
  case round =>
    obtain ⟨k, hk, rfl, hb⟩ := hrel
    obtain ⟨cc, f'⟩ := hb.rules
    have hbz := hb.size
    by_cases hlt : k < ps.length
    · have hlt' : k < qs.length := by omega
      obtain ⟨b, off, rfl, hbl, hx⟩ := HC.out k hlt
      obtain ⟨b', off', rfl, hbl', hy⟩ := HC'.out k hlt'
      have x0 := hx 0 _ (by omega) rfl
      have x1 := hx 1 _ (by omega) rfl
      have y0 := hy 0 _ (by omega) rfl
      have y1 := hy 1 _ (by omega) rfl
      rw [Nat.add_zero] at x0 y0
      replace hx := Lib.hid hx
      replace hy := Lib.hid hy
      have hee := HE.out k hlt
      rw [hee] at y0
      have HY := Lib.hid (HT.out ps[k] (List.getElem_mem hlt))
      have HZ := Lib.hid (show Rd w (qs[k]'hlt').2 ps[k].1.terms.length (ps[k].1.terms.flatMap encTerm) by have := HU.out qs[k] (List.getElem_mem hlt'); rwa [hee] at this)
      clear hee
      have hbw : b < wr.heap.size := by omega
      have hbw' : b' < wr.heap.size := by omega
      have hq := fun (n : NewOf wr) b o => NewOf.cell n b o
      go_wp2_with fail
      refine wp_region_new (by kernel_rfl) (by kernel_rfl) ?_
      repeat (first | go_big_quiet_skip | go_big_quiet_step ((first | exact newq (eqLine_any ps[k].1 _ _ _ (Rd.new HY.out (hb.trans (NewOf.property _))) (Rd.new HZ.out (hb.trans (NewOf.property _)))))) | quiet_step ((first | exact newq (eqLine_any ps[k].1 _ _ _ (Rd.new HY.out (hb.trans (NewOf.property _))) (Rd.new HZ.out (hb.trans (NewOf.property _)))))))
      refine wpQuiet_nil ?_
      rintro ⟨w3, b3⟩
      dsimp only
      try with_reducible replace b3 := New.undrawN b3
      try with_reducible replace b3 := New.undraw b3
      obtain ⟨c3, f3⟩ := b3.rules
      have z3 := b3.size
      try simp only [World.size_alloc, World.size_drew, World.heap_drewN, World.size_setCell] at z3
      go_wp2_with fail
      go_roundw
      case rel => exact ⟨k + 1, by omega, by go_num, hb.trans b3⟩
      case measure => simp [intOf]; omega
    · obtain rfl : k = ps.length := by omega
      go_wp2_with fail
      go_ret
      exact ⟨rfl, hb⟩
end Go.Proofs.YteielmihlfakgaaGreatDoor
/- Contracts: the laws' helpers on programs. -/
namespace Go.Proofs.YteielmihlfakgaaGreatDoor
open Go Go.Proofs Go.RowKit
set_option linter.unusedVariables false
set_option linter.unusedSimpArgs false
set_option maxRecDepth 100000
structure ProgD where
  name : ByteArray
  inputs : List ByteArray
  vars : List ByteArray
  outputs : List ByteArray
  guard : ByteArray
  lines : List LineD
abbrev valP (p : ProgD) (iv vv ov lv : Value) : Value := .agg #[.string p.name, iv, vv, ov, .string p.guard, lv]
structure RdP (w : World) (p : ProgD) (iv vv ov lv : Value) : Prop where
  ins : RdS w iv p.inputs
  vars : RdS w vv p.vars
  outs : RdS w ov p.outputs
  lines : RdLn w lv p.lines
theorem RdP.new {w w' : World} {p : ProgD} {iv vv ov lv : Value} (h : RdP w p iv vv ov lv) (n : New w w') : RdP w' p iv vv ov lv :=
  ⟨Rd.new h.ins n, Rd.new h.vars n, Rd.new h.outs n, h.lines.new n⟩
theorem RdLn.slice {w : World} {v : Value} {ls : List LineD} (h : RdLn w v ls) : ∃ a c, v = .slice a ls.length c := by
  obtain ⟨ps, rfl, ⟨a, c, rfl, _⟩, _⟩ := h
  exact ⟨a, c, by rw [List.length_map]⟩
structure OkP (p : ProgD) : Prop where
  name : okS p.name
  ins : ∀ x ∈ p.inputs, okS x
  vars : ∀ x ∈ p.vars, okS x
  outs : ∀ x ∈ p.outputs, okS x
  guard : okS p.guard
  lines : ∀ x ∈ p.lines, okLn x
structure FitP (p : ProgD) : Prop where
  name : fitS p.name
  ins : ∀ x ∈ p.inputs, fitS x
  insl : p.inputs.length ≤ 1048576
  vars : ∀ x ∈ p.vars, fitS x
  varsl : p.vars.length ≤ 1048576
  outs : ∀ x ∈ p.outputs, fitS x
  outsl : p.outputs.length ≤ 1048576
  guard : fitS p.guard
  lines : ∀ x ∈ p.lines, fitLn x
  linesl : p.lines.length ≤ 1048576
def szCh : List (Int → Int) → Int → Int
  | [], l => l
  | f :: fs, l => if f l < 0 then -1 else szCh fs (f l)
def szSteps (p : ProgD) : List (Int → Int) := [szT p.name, szSl szT p.inputs, szSl szT p.vars, szSl szT p.outputs, szT p.guard, szSl szLn p.lines]
def szP (p : ProgD) (left : Int) : Int := szCh (szSteps p) left
theorem szCh_bd : ∀ (fs : List (Int → Int)), (∀ f ∈ fs, ∀ l, 0 ≤ l → -1 ≤ f l ∧ f l ≤ l) → ∀ l, 0 ≤ l → -1 ≤ szCh fs l ∧ szCh fs l ≤ l
  | [], _, l, h => by simp [szCh]; omega
  | f :: fs, hf, l, h => by
    have h1 := hf f (by simp) l h
    rw [szCh]; split
    · omega
    · have := szCh_bd fs (fun g hg => hf g (by simp [hg])) (f l) (by omega); omega
theorem szCh_cons {f : Int → Int} {fs : List (Int → Int)} {l : Int} (h : 0 ≤ szCh (f :: fs) l) : 0 ≤ f l ∧ 0 ≤ szCh fs (f l) := by
  rw [szCh] at h; split at h
  · omega
  · exact ⟨by omega, h⟩
theorem szSteps_bd (p : ProgD) : ∀ f ∈ szSteps p, ∀ l, 0 ≤ l → -1 ≤ f l ∧ f l ≤ l := by
  intro f hf l hl
  simp only [szSteps, List.mem_cons, List.not_mem_nil, or_false] at hf
  rcases hf with rfl | rfl | rfl | rfl | rfl | rfl
  · exact szT_bd _ l hl
  · have := szSl_bd szT_bd p.inputs l hl; omega
  · have := szSl_bd szT_bd p.vars l hl; omega
  · have := szSl_bd szT_bd p.outputs l hl; omega
  · exact szT_bd _ l hl
  · have := szSl_bd szLn_bd p.lines l hl; omega
theorem szP_bd (p : ProgD) (left : Int) (h : 0 ≤ left) : -1 ≤ szP p left ∧ szP p left ≤ left := szCh_bd _ (szSteps_bd p) left h
theorem szP_fit (p : ProgD) (left : Int) (h : 0 ≤ left) (h' : left ≤ 1048576) (h2 : 0 ≤ szP p left) : FitP p := by
  rw [szP, szSteps] at h2
  obtain ⟨a1, h2⟩ := szCh_cons h2
  have b1 := szT_bd p.name left h
  obtain ⟨a2, h2⟩ := szCh_cons h2
  have b2 := szSl_bd szT_bd p.inputs _ a1
  obtain ⟨a3, h2⟩ := szCh_cons h2
  have b3 := szSl_bd szT_bd p.vars _ a2
  obtain ⟨a4, h2⟩ := szCh_cons h2
  have b4 := szSl_bd szT_bd p.outputs _ a3
  obtain ⟨a5, h2⟩ := szCh_cons h2
  have b5 := szT_bd p.guard _ a4
  obtain ⟨a6, h2⟩ := szCh_cons h2
  have b6 := szSl_bd szLn_bd p.lines _ a5
  refine ⟨szT_fit p.name left h h' a1, szSl_fit szT_bd szT_fit p.inputs _ a1 (by omega) a2, ?_, szSl_fit szT_bd szT_fit p.vars _ a2 (by omega) a3, ?_, szSl_fit szT_bd szT_fit p.outputs _ a3 (by omega) a4, ?_, szT_fit p.guard _ a4 (by omega) a5, szSl_fit szLn_bd szLn_fit p.lines _ a5 (by omega) a6, ?_⟩
  · have := b2.2.2 a2; omega
  · have := b3.2.2 a3; omega
  · have := b4.2.2 a4; omega
  · have := b6.2.2 a6; omega
set_option maxHeartbeats 2000000 in
theorem szProgram_any (p : ProgD) (iv vv ov lv : Value) (left : Int) (w : World) (hp : RdP w p iv vv ov lv) (hl : 0 ≤ left) (hl' : left ≤ 1048576) (ho : OkP p) :
    Calls Tryz.prog 17 #[valP p iv vv ov lv, .int .i64 left] w fun e w' => e = .returned (.int .i64 (szP p left)) ∧ New w w' := by
  have HP := Lib.hid hp; clear hp
  obtain ⟨ho1, ho2, ho3, ho4, ho5, ho6⟩ := ho
  have hs1 : p.name.size ≤ 9223372036854775807 := ho1
  have hs5 : p.guard.size ≤ 9223372036854775807 := ho5
  have HO2 := Lib.hid ho2; have HO3 := Lib.hid ho3; have HO4 := Lib.hid ho4; have HO6 := Lib.hid ho6
  clear ho1 ho2 ho3 ho4 ho5 ho6
  have e0 : szP p left = szCh (szSteps p) left := rfl
  rw [e0, szSteps]; clear e0
  by_cases h1 : left - (p.name.size : Int) < 0
  · have t1 : szT p.name left = -1 := by rw [szT, if_pos h1]
    rw [szCh, t1, if_pos (by omega)]
    go_enter Tryz.func17, Tryz.ntmps17
    go_wp2_with fail
    go_ret
    exact ⟨rfl, (by repeat (first | with_reducible exact New.refl _ | with_reducible assumption | with_reducible refine New.drew ?_ | with_reducible refine New.drewN ?_ _ | with_reducible refine New.alloc ?_ _ | with_reducible refine New.setCell ?_ (by first | (simp; done) | (simp; omega) | omega) _ | with_reducible refine New.trans ?_ (by with_reducible assumption)))⟩
  have t1 : szT p.name left = left - p.name.size := by rw [szT, if_neg h1]
  rw [szCh, t1, if_neg h1]; clear t1
  generalize hL1 : left - (p.name.size : Int) = l1 at *
  have hl1 : 0 ≤ l1 ∧ l1 ≤ 1048576 := by omega
  have b2 := szSl_bd szT_bd p.inputs l1 hl1.1
  have C2 := Lib.hid (fun (w0 : World) (n : New w w0) => szStringS_any iv p.inputs l1 w0 (Rd.new HP.out.ins n) hl1.1 hl1.2 HO2.out)
  rw [szCh]
  generalize szSl szT p.inputs l1 = l2 at *
  by_cases h2 : l2 < 0
  · rw [if_pos h2]
    go_enter Tryz.func17, Tryz.ntmps17
    go_wp2_with fail
    refine (C2.out _ (by repeat (first | with_reducible exact New.refl _ | with_reducible assumption | with_reducible refine New.drew ?_ | with_reducible refine New.drewN ?_ _ | with_reducible refine New.alloc ?_ _ | with_reducible refine New.setCell ?_ (by first | (simp; done) | (simp; omega) | omega) _ | with_reducible refine New.trans ?_ (by with_reducible assumption)))).mono ?_; rintro e _ ⟨rfl, rfl⟩
    go_wp2_with fail
    go_ret
    exact ⟨rfl, (by repeat (first | with_reducible exact New.refl _ | with_reducible assumption | with_reducible refine New.drew ?_ | with_reducible refine New.drewN ?_ _ | with_reducible refine New.alloc ?_ _ | with_reducible refine New.setCell ?_ (by first | (simp; done) | (simp; omega) | omega) _ | with_reducible refine New.trans ?_ (by with_reducible assumption)))⟩
  rw [if_neg h2]
  have b3 := szSl_bd szT_bd p.vars l2 (by omega)
  have C3 := Lib.hid (fun (w0 : World) (n : New w w0) => szStringS_any vv p.vars l2 w0 (Rd.new HP.out.vars n) (by omega) (by omega) HO3.out)
  rw [szCh]
  generalize szSl szT p.vars l2 = l3 at *
  by_cases h3 : l3 < 0
  · rw [if_pos h3]
    go_enter Tryz.func17, Tryz.ntmps17
    go_wp2_with fail
    refine (C2.out _ (by repeat (first | with_reducible exact New.refl _ | with_reducible assumption | with_reducible refine New.drew ?_ | with_reducible refine New.drewN ?_ _ | with_reducible refine New.alloc ?_ _ | with_reducible refine New.setCell ?_ (by first | (simp; done) | (simp; omega) | omega) _ | with_reducible refine New.trans ?_ (by with_reducible assumption)))).mono ?_; rintro e _ ⟨rfl, rfl⟩
    go_wp2_with fail
    refine (C3.out _ (by repeat (first | with_reducible exact New.refl _ | with_reducible assumption | with_reducible refine New.drew ?_ | with_reducible refine New.drewN ?_ _ | with_reducible refine New.alloc ?_ _ | with_reducible refine New.setCell ?_ (by first | (simp; done) | (simp; omega) | omega) _ | with_reducible refine New.trans ?_ (by with_reducible assumption)))).mono ?_; rintro e _ ⟨rfl, rfl⟩
    go_wp2_with fail
    go_ret
    exact ⟨rfl, (by repeat (first | with_reducible exact New.refl _ | with_reducible assumption | with_reducible refine New.drew ?_ | with_reducible refine New.drewN ?_ _ | with_reducible refine New.alloc ?_ _ | with_reducible refine New.setCell ?_ (by first | (simp; done) | (simp; omega) | omega) _ | with_reducible refine New.trans ?_ (by with_reducible assumption)))⟩
  rw [if_neg h3]
  have b4 := szSl_bd szT_bd p.outputs l3 (by omega)
  have C4 := Lib.hid (fun (w0 : World) (n : New w w0) => szStringS_any ov p.outputs l3 w0 (Rd.new HP.out.outs n) (by omega) (by omega) HO4.out)
  rw [szCh]
  generalize szSl szT p.outputs l3 = l4 at *
  by_cases h4 : l4 < 0
  · rw [if_pos h4]
    go_enter Tryz.func17, Tryz.ntmps17
    go_wp2_with fail
    refine (C2.out _ (by repeat (first | with_reducible exact New.refl _ | with_reducible assumption | with_reducible refine New.drew ?_ | with_reducible refine New.drewN ?_ _ | with_reducible refine New.alloc ?_ _ | with_reducible refine New.setCell ?_ (by first | (simp; done) | (simp; omega) | omega) _ | with_reducible refine New.trans ?_ (by with_reducible assumption)))).mono ?_; rintro e _ ⟨rfl, rfl⟩
    go_wp2_with fail
    refine (C3.out _ (by repeat (first | with_reducible exact New.refl _ | with_reducible assumption | with_reducible refine New.drew ?_ | with_reducible refine New.drewN ?_ _ | with_reducible refine New.alloc ?_ _ | with_reducible refine New.setCell ?_ (by first | (simp; done) | (simp; omega) | omega) _ | with_reducible refine New.trans ?_ (by with_reducible assumption)))).mono ?_; rintro e _ ⟨rfl, rfl⟩
    go_wp2_with fail
    refine (C4.out _ (by repeat (first | with_reducible exact New.refl _ | with_reducible assumption | with_reducible refine New.drew ?_ | with_reducible refine New.drewN ?_ _ | with_reducible refine New.alloc ?_ _ | with_reducible refine New.setCell ?_ (by first | (simp; done) | (simp; omega) | omega) _ | with_reducible refine New.trans ?_ (by with_reducible assumption)))).mono ?_; rintro e _ ⟨rfl, rfl⟩
    go_wp2_with fail
    go_ret
    exact ⟨rfl, (by repeat (first | with_reducible exact New.refl _ | with_reducible assumption | with_reducible refine New.drew ?_ | with_reducible refine New.drewN ?_ _ | with_reducible refine New.alloc ?_ _ | with_reducible refine New.setCell ?_ (by first | (simp; done) | (simp; omega) | omega) _ | with_reducible refine New.trans ?_ (by with_reducible assumption)))⟩
  rw [if_neg h4]
  by_cases h5 : l4 - (p.guard.size : Int) < 0
  · have t1 : szT p.guard l4 = -1 := by rw [szT, if_pos h5]
    rw [szCh, t1, if_pos (by omega)]
    go_enter Tryz.func17, Tryz.ntmps17
    go_wp2_with fail
    refine (C2.out _ (by repeat (first | with_reducible exact New.refl _ | with_reducible assumption | with_reducible refine New.drew ?_ | with_reducible refine New.drewN ?_ _ | with_reducible refine New.alloc ?_ _ | with_reducible refine New.setCell ?_ (by first | (simp; done) | (simp; omega) | omega) _ | with_reducible refine New.trans ?_ (by with_reducible assumption)))).mono ?_; rintro e _ ⟨rfl, rfl⟩
    go_wp2_with fail
    refine (C3.out _ (by repeat (first | with_reducible exact New.refl _ | with_reducible assumption | with_reducible refine New.drew ?_ | with_reducible refine New.drewN ?_ _ | with_reducible refine New.alloc ?_ _ | with_reducible refine New.setCell ?_ (by first | (simp; done) | (simp; omega) | omega) _ | with_reducible refine New.trans ?_ (by with_reducible assumption)))).mono ?_; rintro e _ ⟨rfl, rfl⟩
    go_wp2_with fail
    refine (C4.out _ (by repeat (first | with_reducible exact New.refl _ | with_reducible assumption | with_reducible refine New.drew ?_ | with_reducible refine New.drewN ?_ _ | with_reducible refine New.alloc ?_ _ | with_reducible refine New.setCell ?_ (by first | (simp; done) | (simp; omega) | omega) _ | with_reducible refine New.trans ?_ (by with_reducible assumption)))).mono ?_; rintro e _ ⟨rfl, rfl⟩
    go_wp2_with fail
    go_ret
    exact ⟨rfl, (by repeat (first | with_reducible exact New.refl _ | with_reducible assumption | with_reducible refine New.drew ?_ | with_reducible refine New.drewN ?_ _ | with_reducible refine New.alloc ?_ _ | with_reducible refine New.setCell ?_ (by first | (simp; done) | (simp; omega) | omega) _ | with_reducible refine New.trans ?_ (by with_reducible assumption)))⟩
  have t5 : szT p.guard l4 = l4 - p.guard.size := by rw [szT, if_neg h5]
  rw [szCh, t5, if_neg h5]; clear t5
  have b6 := szSl_bd szLn_bd p.lines (l4 - p.guard.size) (by omega)
  have C6 := Lib.hid (fun (w0 : World) (n : New w w0) => szLineS_any lv p.lines (l4 - p.guard.size) w0 (HP.out.lines.new n) (by omega) (by omega) HO6.out)
  rw [szCh]
  generalize szSl szLn p.lines (l4 - p.guard.size) = l6 at *
  by_cases h6 : l6 < 0
  · rw [if_pos h6]
    go_enter Tryz.func17, Tryz.ntmps17
    go_wp2_with fail
    refine (C2.out _ (by repeat (first | with_reducible exact New.refl _ | with_reducible assumption | with_reducible refine New.drew ?_ | with_reducible refine New.drewN ?_ _ | with_reducible refine New.alloc ?_ _ | with_reducible refine New.setCell ?_ (by first | (simp; done) | (simp; omega) | omega) _ | with_reducible refine New.trans ?_ (by with_reducible assumption)))).mono ?_; rintro e _ ⟨rfl, rfl⟩
    go_wp2_with fail
    refine (C3.out _ (by repeat (first | with_reducible exact New.refl _ | with_reducible assumption | with_reducible refine New.drew ?_ | with_reducible refine New.drewN ?_ _ | with_reducible refine New.alloc ?_ _ | with_reducible refine New.setCell ?_ (by first | (simp; done) | (simp; omega) | omega) _ | with_reducible refine New.trans ?_ (by with_reducible assumption)))).mono ?_; rintro e _ ⟨rfl, rfl⟩
    go_wp2_with fail
    refine (C4.out _ (by repeat (first | with_reducible exact New.refl _ | with_reducible assumption | with_reducible refine New.drew ?_ | with_reducible refine New.drewN ?_ _ | with_reducible refine New.alloc ?_ _ | with_reducible refine New.setCell ?_ (by first | (simp; done) | (simp; omega) | omega) _ | with_reducible refine New.trans ?_ (by with_reducible assumption)))).mono ?_; rintro e _ ⟨rfl, rfl⟩
    go_wp2_with fail
    refine (C6.out _ (by repeat (first | with_reducible exact New.refl _ | with_reducible assumption | with_reducible refine New.drew ?_ | with_reducible refine New.drewN ?_ _ | with_reducible refine New.alloc ?_ _ | with_reducible refine New.setCell ?_ (by first | (simp; done) | (simp; omega) | omega) _ | with_reducible refine New.trans ?_ (by with_reducible assumption)))).mono ?_; rintro e w6 ⟨rfl, b6⟩
    try with_reducible replace b6 := New.undrawN b6
    try with_reducible replace b6 := New.undraw b6
    obtain ⟨c6, f6⟩ := b6.rules
    have z6 := b6.size
    try simp only [World.size_alloc, World.size_drew, World.heap_drewN, World.size_setCell] at z6
    go_wp2_with fail
    go_ret
    exact ⟨rfl, (by repeat (first | with_reducible exact New.refl _ | with_reducible assumption | with_reducible refine New.drew ?_ | with_reducible refine New.drewN ?_ _ | with_reducible refine New.alloc ?_ _ | with_reducible refine New.setCell ?_ (by first | (simp; done) | (simp; omega) | omega) _ | with_reducible refine New.trans ?_ (by with_reducible assumption)))⟩
  · rw [if_neg h6, szCh]
    go_enter Tryz.func17, Tryz.ntmps17
    go_wp2_with fail
    refine (C2.out _ (by repeat (first | with_reducible exact New.refl _ | with_reducible assumption | with_reducible refine New.drew ?_ | with_reducible refine New.drewN ?_ _ | with_reducible refine New.alloc ?_ _ | with_reducible refine New.setCell ?_ (by first | (simp; done) | (simp; omega) | omega) _ | with_reducible refine New.trans ?_ (by with_reducible assumption)))).mono ?_; rintro e _ ⟨rfl, rfl⟩
    go_wp2_with fail
    refine (C3.out _ (by repeat (first | with_reducible exact New.refl _ | with_reducible assumption | with_reducible refine New.drew ?_ | with_reducible refine New.drewN ?_ _ | with_reducible refine New.alloc ?_ _ | with_reducible refine New.setCell ?_ (by first | (simp; done) | (simp; omega) | omega) _ | with_reducible refine New.trans ?_ (by with_reducible assumption)))).mono ?_; rintro e _ ⟨rfl, rfl⟩
    go_wp2_with fail
    refine (C4.out _ (by repeat (first | with_reducible exact New.refl _ | with_reducible assumption | with_reducible refine New.drew ?_ | with_reducible refine New.drewN ?_ _ | with_reducible refine New.alloc ?_ _ | with_reducible refine New.setCell ?_ (by first | (simp; done) | (simp; omega) | omega) _ | with_reducible refine New.trans ?_ (by with_reducible assumption)))).mono ?_; rintro e _ ⟨rfl, rfl⟩
    go_wp2_with fail
    refine (C6.out _ (by repeat (first | with_reducible exact New.refl _ | with_reducible assumption | with_reducible refine New.drew ?_ | with_reducible refine New.drewN ?_ _ | with_reducible refine New.alloc ?_ _ | with_reducible refine New.setCell ?_ (by first | (simp; done) | (simp; omega) | omega) _ | with_reducible refine New.trans ?_ (by with_reducible assumption)))).mono ?_; rintro e w6 ⟨rfl, b6⟩
    try with_reducible replace b6 := New.undrawN b6
    try with_reducible replace b6 := New.undraw b6
    obtain ⟨c6, f6⟩ := b6.rules
    have z6 := b6.size
    try simp only [World.size_alloc, World.size_drew, World.heap_drewN, World.size_setCell] at z6
    go_wp2_with fail
    go_ret
    exact ⟨rfl, (by repeat (first | with_reducible exact New.refl _ | with_reducible assumption | with_reducible refine New.drew ?_ | with_reducible refine New.drewN ?_ _ | with_reducible refine New.alloc ?_ _ | with_reducible refine New.setCell ?_ (by first | (simp; done) | (simp; omega) | omega) _ | with_reducible refine New.trans ?_ (by with_reducible assumption)))⟩
/-- A program in memory of the call's own, list by list. -/
structure OwnP (w : World) (b0 b1 b2 b3 : Nat) (p : ProgD) (iv vv ov lv : Value) : Prop where
  ins : w.ownsRow b0 9 1 iv p.inputs.length (p.inputs.map Value.string)
  insE : ∀ k, iv.ownBlock = some k → k < b1
  vars : w.ownsRow b1 9 1 vv p.vars.length (p.vars.map Value.string)
  varsE : ∀ k, vv.ownBlock = some k → k < b2
  outs : w.ownsRow b2 9 1 ov p.outputs.length (p.outputs.map Value.string)
  outsE : ∀ k, ov.ownBlock = some k → k < b3
  lines : OwnLn w b3 lv p.lines
  o1 : b0 ≤ b1
  o2 : b1 ≤ b2
  o3 : b2 ≤ b3
  o4 : b3 ≤ w.heap.size
theorem OwnP.rd {w : World} {b0 b1 b2 b3 : Nat} {p : ProgD} {iv vv ov lv : Value} (h : OwnP w b0 b1 b2 b3 p iv vv ov lv) : RdP w p iv vv ov lv := ⟨own_rd h.ins, own_rd h.vars, own_rd h.outs, h.lines.rd⟩
theorem OwnP.new {w w' : World} {b0 b1 b2 b3 : Nat} {p : ProgD} {iv vv ov lv : Value} (h : OwnP w b0 b1 b2 b3 p iv vv ov lv) (n : New w w') : OwnP w' b0 b1 b2 b3 p iv vv ov lv :=
  ⟨own_new h.ins n, h.insE, own_new h.vars n, h.varsE, own_new h.outs n, h.outsE, h.lines.new n, h.o1, h.o2, h.o3, Nat.le_trans h.o4 n.size⟩
def RetPO (w : World) (p : ProgD) (e : Ending) (w' : World) : Prop := ∃ iv vv ov lv b1 b2 b3, e = .returned (valP p iv vv ov lv) ∧ New w w' ∧ OwnP w' w.heap.size b1 b2 b3 p iv vv ov lv
def RetP (w : World) (p : ProgD) (e : Ending) (w' : World) : Prop := ∃ iv vv ov lv, e = .returned (valP p iv vv ov lv) ∧ New w w' ∧ RdP w' p iv vv ov lv
set_option maxHeartbeats 2000000 in
theorem toProgramO_any (p : ProgD) (iv vv ov lv : Value) (w : World) (hp : RdP w p iv vv ov lv) (hf : FitP p) :
    Calls Tryz.prog 19 #[valP p iv vv ov lv] w (RetPO w p) := by
  have HP := Lib.hid hp; clear hp
  have hfl : ∀ x ∈ p.lines, x.terms.length ≤ 1048576 := fun x hx => (hf.lines x hx).2.2
  go_enter Tryz.func19, Tryz.ntmps19
  go_wp2_with fail
  refine (toStringS_any _ p.inputs _ (Rd.new HP.out.ins (by repeat (first | with_reducible exact New.refl _ | with_reducible assumption | with_reducible refine New.drew ?_ | with_reducible refine New.drewN ?_ _ | with_reducible refine New.alloc ?_ _ | with_reducible refine New.setCell ?_ (by first | (simp; done) | (simp; omega) | omega) _ | with_reducible refine New.trans ?_ (by with_reducible assumption)))) hf.insl).mono ?_; rintro e w1 ⟨r1, rfl, b1, own1⟩
  obtain ⟨a1, k1, rfl⟩ := own_slice own1; simp only [World.size_alloc, World.size_setCell] at own1
  obtain ⟨c1, f1⟩ := b1.rules
  have z1 := b1.size
  try simp only [World.size_alloc, World.size_drew, World.heap_drewN, World.size_setCell] at z1
  have z1_0 : w.heap.size < w1.heap.size := by omega
  have z1_1 : w.heap.size + 1 < w1.heap.size := by omega
  have z1_2 : w.heap.size + 1 + 1 < w1.heap.size := by omega
  go_wp2_with fail
  refine (toStringS_any _ p.vars _ (Rd.new HP.out.vars (by repeat (first | with_reducible exact New.refl _ | with_reducible assumption | with_reducible refine New.drew ?_ | with_reducible refine New.drewN ?_ _ | with_reducible refine New.alloc ?_ _ | with_reducible refine New.setCell ?_ (by first | (simp; done) | (simp; omega) | omega) _ | with_reducible refine New.trans ?_ (by with_reducible assumption)))) hf.varsl).mono ?_; rintro e w2 ⟨r2, rfl, b2, own2⟩
  obtain ⟨a2, k2, rfl⟩ := own_slice own2; simp only [World.size_alloc, World.size_setCell] at own2
  obtain ⟨c2, f2⟩ := b2.rules
  have z2 := b2.size
  try simp only [World.size_alloc, World.size_drew, World.heap_drewN, World.size_setCell] at z2
  have z2_0 : w.heap.size < w2.heap.size := by omega
  have z2_1 : w.heap.size + 1 < w2.heap.size := by omega
  have z2_2 : w.heap.size + 1 + 1 < w2.heap.size := by omega
  go_wp2_with fail
  refine (toStringS_any _ p.outputs _ (Rd.new HP.out.outs (by repeat (first | with_reducible exact New.refl _ | with_reducible assumption | with_reducible refine New.drew ?_ | with_reducible refine New.drewN ?_ _ | with_reducible refine New.alloc ?_ _ | with_reducible refine New.setCell ?_ (by first | (simp; done) | (simp; omega) | omega) _ | with_reducible refine New.trans ?_ (by with_reducible assumption)))) hf.outsl).mono ?_; rintro e w3 ⟨r3, rfl, b3, own3⟩
  obtain ⟨a3, k3, rfl⟩ := own_slice own3; simp only [World.size_alloc, World.size_setCell] at own3
  obtain ⟨c3, f3⟩ := b3.rules
  have z3 := b3.size
  try simp only [World.size_alloc, World.size_drew, World.heap_drewN, World.size_setCell] at z3
  have z3_0 : w.heap.size < w3.heap.size := by omega
  have z3_1 : w.heap.size + 1 < w3.heap.size := by omega
  have z3_2 : w.heap.size + 1 + 1 < w3.heap.size := by omega
  go_wp2_with fail
  refine (toLineS_any _ p.lines _ (HP.out.lines.new (by repeat (first | with_reducible exact New.refl _ | with_reducible assumption | with_reducible refine New.drew ?_ | with_reducible refine New.drewN ?_ _ | with_reducible refine New.alloc ?_ _ | with_reducible refine New.setCell ?_ (by first | (simp; done) | (simp; omega) | omega) _ | with_reducible refine New.trans ?_ (by with_reducible assumption)))) hf.linesl hfl).mono ?_; rintro e w4 ⟨r4, rfl, b4, ⟨a4, k4, rfl⟩, own4⟩
  simp only [World.size_alloc, World.size_setCell] at own4
  obtain ⟨c4, f4⟩ := b4.rules
  have z4 := b4.size
  try simp only [World.size_alloc, World.size_drew, World.heap_drewN, World.size_setCell] at z4
  have z4_0 : w.heap.size < w4.heap.size := by omega
  have z4_1 : w.heap.size + 1 < w4.heap.size := by omega
  have z4_2 : w.heap.size + 1 + 1 < w4.heap.size := by omega
  go_wp2_with fail
  refine bodyPost_ret (v := valP p (.slice a1 p.inputs.length k1) (.slice a2 p.vars.length k2) (.slice a3 p.outputs.length k3) (.slice a4 p.lines.length k4)) (by simp [results, Tryz.results19, go_sem, c4, f4, c3, f3, c2, f2, c1, f1, z1_0, z1_1, z1_2, z2_0, z2_1, z2_2, z3_0, z3_1, z3_2, z4_0, z4_1, z4_2]) rfl ⟨_, _, _, _, w1.heap.size, w2.heap.size, w3.heap.size, rfl, ?_, ⟨own_base (base := w.heap.size + 1 + 1 + 1) ?_ (by omega), fun k hk => (own_block_lt own1 k hk).2, ?_, fun k hk => (own_block_lt own2 k hk).2, ?_, fun k hk => (own_block_lt own3 k hk).2, ?_, by omega, by omega, by omega, by simp only [World.size_setCell]; omega⟩⟩
  · exact (by repeat (first | with_reducible exact New.refl _ | with_reducible assumption | with_reducible refine New.drew ?_ | with_reducible refine New.drewN ?_ _ | with_reducible refine New.alloc ?_ _ | with_reducible refine New.setCell ?_ (by first | (simp; done) | (simp; omega) | omega) _ | with_reducible refine New.trans ?_ (by with_reducible assumption)))
  · iterate 7 apply ownsRow_setCell_below
    refine own_new ?_ b4
    iterate 2 apply ownsRow_setCell_below
    refine own_new ?_ b3
    apply ownsRow_setCell_below
    refine own_new ?_ b2
    apply ownsRow_setCell_below
    exact own1
    all_goals (dsimp; omega)
  · iterate 7 apply ownsRow_setCell_below
    refine own_new ?_ b4
    iterate 2 apply ownsRow_setCell_below
    refine own_new ?_ b3
    apply ownsRow_setCell_below
    exact own2
    all_goals (dsimp; omega)
  · iterate 7 apply ownsRow_setCell_below
    refine own_new ?_ b4
    iterate 2 apply ownsRow_setCell_below
    exact own3
    all_goals (dsimp; omega)
  · iterate 7 apply OwnLn.setBelow
    exact own4
    all_goals (dsimp; omega)
theorem toProgram_any (p : ProgD) (iv vv ov lv : Value) (w : World) (hp : RdP w p iv vv ov lv) (hf : FitP p) :
    Calls Tryz.prog 19 #[valP p iv vv ov lv] w (RetP w p) := by
  refine (toProgramO_any p iv vv ov lv w hp hf).mono ?_
  rintro e w' ⟨i, v, o, l, b1, b2, b3, rfl, n, h⟩
  exact ⟨i, v, o, l, rfl, n, h.rd⟩
set_option maxHeartbeats 1000000 in
theorem eqProgram_any (p : ProgD) (iv vv ov lv iv' vv' ov' lv' : Value) (w : World) (hp : RdP w p iv vv ov lv) (hp' : RdP w p iv' vv' ov' lv') :
    Calls Tryz.prog 21 #[valP p iv vv ov lv, valP p iv' vv' ov' lv'] w fun e w' => e = .returned (.bool true) ∧ New w w' := by
  have HP := Lib.hid hp; clear hp
  have HP' := Lib.hid hp'; clear hp'
  have zz : w.heap.size < w.heap.size + 1 + 1 := by omega
  have e1 : (p.name.toList == p.name.toList) = true := by simp
  have e2 : (p.guard.toList == p.guard.toList) = true := by simp
  go_enter Tryz.func21, Tryz.ntmps21
  go_wp2_with fail
  refine (eqStringS_any _ _ p.inputs _ (Rd.new HP.out.ins (by repeat (first | with_reducible exact New.refl _ | with_reducible assumption | with_reducible refine New.drew ?_ | with_reducible refine New.drewN ?_ _ | with_reducible refine New.alloc ?_ _ | with_reducible refine New.setCell ?_ (by first | (simp; done) | (simp; omega) | omega) _ | with_reducible refine New.trans ?_ (by with_reducible assumption)))) (Rd.new HP'.out.ins (by repeat (first | with_reducible exact New.refl _ | with_reducible assumption | with_reducible refine New.drew ?_ | with_reducible refine New.drewN ?_ _ | with_reducible refine New.alloc ?_ _ | with_reducible refine New.setCell ?_ (by first | (simp; done) | (simp; omega) | omega) _ | with_reducible refine New.trans ?_ (by with_reducible assumption))))).mono ?_; rintro e w1 ⟨rfl, b1⟩
  try with_reducible replace b1 := New.undrawN b1
  try with_reducible replace b1 := New.undraw b1
  obtain ⟨c1, f1⟩ := b1.rules
  have z1 := b1.size
  try simp only [World.size_alloc, World.size_drew, World.heap_drewN, World.size_setCell] at z1
  have z1_0 : w.heap.size < w1.heap.size := by omega
  have z1_1 : w.heap.size + 1 < w1.heap.size := by omega
  go_wp2_with fail
  refine (eqStringS_any _ _ p.vars _ (Rd.new HP.out.vars (by repeat (first | with_reducible exact New.refl _ | with_reducible assumption | with_reducible refine New.drew ?_ | with_reducible refine New.drewN ?_ _ | with_reducible refine New.alloc ?_ _ | with_reducible refine New.setCell ?_ (by first | (simp; done) | (simp; omega) | omega) _ | with_reducible refine New.trans ?_ (by with_reducible assumption)))) (Rd.new HP'.out.vars (by repeat (first | with_reducible exact New.refl _ | with_reducible assumption | with_reducible refine New.drew ?_ | with_reducible refine New.drewN ?_ _ | with_reducible refine New.alloc ?_ _ | with_reducible refine New.setCell ?_ (by first | (simp; done) | (simp; omega) | omega) _ | with_reducible refine New.trans ?_ (by with_reducible assumption))))).mono ?_; rintro e w2 ⟨rfl, b2⟩
  try with_reducible replace b2 := New.undrawN b2
  try with_reducible replace b2 := New.undraw b2
  obtain ⟨c2, f2⟩ := b2.rules
  have z2 := b2.size
  try simp only [World.size_alloc, World.size_drew, World.heap_drewN, World.size_setCell] at z2
  have z2_0 : w.heap.size < w2.heap.size := by omega
  have z2_1 : w.heap.size + 1 < w2.heap.size := by omega
  go_wp2_with fail
  refine (eqStringS_any _ _ p.outputs _ (Rd.new HP.out.outs (by repeat (first | with_reducible exact New.refl _ | with_reducible assumption | with_reducible refine New.drew ?_ | with_reducible refine New.drewN ?_ _ | with_reducible refine New.alloc ?_ _ | with_reducible refine New.setCell ?_ (by first | (simp; done) | (simp; omega) | omega) _ | with_reducible refine New.trans ?_ (by with_reducible assumption)))) (Rd.new HP'.out.outs (by repeat (first | with_reducible exact New.refl _ | with_reducible assumption | with_reducible refine New.drew ?_ | with_reducible refine New.drewN ?_ _ | with_reducible refine New.alloc ?_ _ | with_reducible refine New.setCell ?_ (by first | (simp; done) | (simp; omega) | omega) _ | with_reducible refine New.trans ?_ (by with_reducible assumption))))).mono ?_; rintro e w3 ⟨rfl, b3⟩
  try with_reducible replace b3 := New.undrawN b3
  try with_reducible replace b3 := New.undraw b3
  obtain ⟨c3, f3⟩ := b3.rules
  have z3 := b3.size
  try simp only [World.size_alloc, World.size_drew, World.heap_drewN, World.size_setCell] at z3
  have z3_0 : w.heap.size < w3.heap.size := by omega
  have z3_1 : w.heap.size + 1 < w3.heap.size := by omega
  go_wp2_with fail
  refine (eqLineS_any _ _ p.lines _ (HP.out.lines.new (by repeat (first | with_reducible exact New.refl _ | with_reducible assumption | with_reducible refine New.drew ?_ | with_reducible refine New.drewN ?_ _ | with_reducible refine New.alloc ?_ _ | with_reducible refine New.setCell ?_ (by first | (simp; done) | (simp; omega) | omega) _ | with_reducible refine New.trans ?_ (by with_reducible assumption)))) (HP'.out.lines.new (by repeat (first | with_reducible exact New.refl _ | with_reducible assumption | with_reducible refine New.drew ?_ | with_reducible refine New.drewN ?_ _ | with_reducible refine New.alloc ?_ _ | with_reducible refine New.setCell ?_ (by first | (simp; done) | (simp; omega) | omega) _ | with_reducible refine New.trans ?_ (by with_reducible assumption))))).mono ?_; rintro e w4 ⟨rfl, b4⟩
  try with_reducible replace b4 := New.undrawN b4
  try with_reducible replace b4 := New.undraw b4
  obtain ⟨c4, f4⟩ := b4.rules
  have z4 := b4.size
  try simp only [World.size_alloc, World.size_drew, World.heap_drewN, World.size_setCell] at z4
  go_wp2_with fail
  go_ret
  exact ⟨rfl, (by repeat (first | with_reducible exact New.refl _ | with_reducible assumption | with_reducible refine New.drew ?_ | with_reducible refine New.drewN ?_ _ | with_reducible refine New.alloc ?_ _ | with_reducible refine New.setCell ?_ (by first | (simp; done) | (simp; omega) | omega) _ | with_reducible refine New.trans ?_ (by with_reducible assumption)))⟩
end Go.Proofs.YteielmihlfakgaaGreatDoor
/- Plain law: the rules of programs. -/
namespace Go.Proofs.YteielmihlfakgaaGreatDoor
open Go Go.Proofs Go.RowKit
set_option linter.unusedVariables false
set_option linter.unusedSimpArgs false
theorem bytes_eq (s t : ByteArray) : (s.toList = t.toList) ↔ (s = t) := strEqTerm s t
/-- A word is in a list. -/
def memS (xs : List ByteArray) (x : ByteArray) : Bool := xs.any fun y => x.toList == y.toList
theorem memS_iff (xs : List ByteArray) (x : ByteArray) : memS xs x = true ↔ x ∈ xs := by
  rw [memS, List.any_eq_true]
  constructor
  · rintro ⟨y, hy, h⟩
    rw [beq_iff_eq, bytes_eq] at h; subst h; exact hy
  · intro h; exact ⟨x, h, by simp⟩
theorem memS_append (xs ys : List ByteArray) (x : ByteArray) : memS (xs ++ ys) x = (memS xs x || memS ys x) := by rw [memS, List.any_append]; rfl
/-- Something is twice in a list. -/
def twB (xs : List ByteArray) : Bool := (List.range xs.length).any fun i => memS (xs.take i) (xs.getD i ⟨#[]⟩)
theorem twB_iff (xs : List ByteArray) : twB xs = true ↔ ∃ (i j : Nat) (hi : i < xs.length) (hj : j < i), xs[j] = xs[i] := by
  rw [twB, List.any_eq_true]
  constructor
  · rintro ⟨i, hi, h⟩
    have hi' := List.mem_range.1 hi
    rw [memS_iff, List.mem_take_iff_getElem] at h
    obtain ⟨j, hj, e⟩ := h
    refine ⟨i, j, hi', by omega, ?_⟩
    rw [e]; simp [List.getD, hi']
  · rintro ⟨i, j, hi, hj, e⟩
    refine ⟨i, List.mem_range.2 hi, ?_⟩
    rw [memS_iff, List.mem_take_iff_getElem]
    exact ⟨j, by omega, by simp [List.getD, hi, e]⟩
theorem twB_nodup (xs : List ByteArray) : twB xs = false ↔ xs.Nodup := by
  rw [← Bool.not_eq_true, twB_iff, List.nodup_iff_pairwise_ne, List.pairwise_iff_getElem]
  constructor
  · intro h i j hi hj hij e; exact h ⟨j, i, hj, hij, e⟩
  · rintro h ⟨i, j, hi, hj, e⟩; exact h j i (by omega) hi hj e
theorem nodup_len {α : Type} [BEq α] [LawfulBEq α] : ∀ (xs ys : List α), xs.Nodup → (∀ x ∈ xs, x ∈ ys) → xs.length ≤ ys.length
  | [], _, _, _ => by simp
  | x :: xs, ys, h, hs => by
    have h1 := List.nodup_cons.1 h
    have hx := hs x (by simp)
    have := nodup_len xs (ys.erase x) h1.2 (fun y hy => (List.mem_erase_of_ne (fun e => h1.1 (by rw [← e]; exact hy))).2 (hs y (by simp [hy])))
    rw [List.length_erase_of_mem hx] at this
    have : 0 < ys.length := List.length_pos_of_mem hx
    simp; omega
/-- .. up to an index. -/
def twUp (xs : List ByteArray) (k : Nat) : Bool := (List.range k).any fun i => memS (xs.take i) (xs.getD i ⟨#[]⟩)
theorem twUp_next {xs : List ByteArray} {k : Nat} (hk : k < xs.length) (h : twUp xs k = false) : (memS (xs.take k) xs[k] = true → twB xs = true) ∧ (memS (xs.take k) xs[k] = false → twUp xs (k + 1) = false) := by
  have e : xs.getD k ⟨#[]⟩ = xs[k] := by simp [List.getD, hk]
  constructor
  · intro hm
    rw [twB, List.any_eq_true]
    exact ⟨k, List.mem_range.2 hk, by rw [e]; exact hm⟩
  · intro hm
    rw [twUp, List.range_succ, List.any_append]
    rw [twUp] at h
    rw [h]; simp [hm, hk]
def allP (p : ProgD) : List ByteArray := p.inputs ++ p.vars ++ p.outputs
def madeP (p : ProgD) : List ByteArray := p.vars ++ p.outputs
def targetsP (p : ProgD) : List ByteArray := p.lines.map (·.target)
def readB (p : ProgD) (s : ByteArray) : Bool := memS p.inputs s || memS p.vars s
def unkT (p : ProgD) (t : ETerm) : Bool := decide (t.kind = 1) && !readB p t.name
def unkL (p : ProgD) (l : LineD) : Bool := l.terms.any (unkT p)
def out3 (p : ProgD) (s : ByteArray) : Bool := !memS (madeP p) s
def bad2 (p : ProgD) : Bool := !p.guard.toList.isEmpty && !readB p p.guard
def faultS (p : ProgD) : Int :=
  if twB (allP p) then 1 else if bad2 p then 2 else if (targetsP p).any (out3 p) then 3 else if twB (targetsP p) then 4
  else if (targetsP p).length < p.vars.length + p.outputs.length then 5 else if p.lines.any (unkL p) then 6 else 0
def faultI (p : ProgD) : Int :=
  if twB (allP p) then 1 else if bad2 p then 2 else if (targetsP p).any (out3 p) then 3 else if twB (targetsP p) then 4
  else if (madeP p).any (fun s => !memS (targetsP p) s) then 5 else if p.lines.any (unkL p) then 6 else 0
instance : BEq ByteArray := ⟨fun a b => decide (a = b)⟩
instance : LawfulBEq ByteArray := { eq_of_beq := fun {a b} h => of_decide_eq_true h, rfl := fun {a} => decide_eq_true rfl }
theorem five (p : ProgD) (h1 : twB (allP p) = false) (h3 : (targetsP p).any (out3 p) = false) (h4 : twB (targetsP p) = false) :
    ((targetsP p).length < p.vars.length + p.outputs.length) ↔ (madeP p).any (fun s => !memS (targetsP p) s) = true := by
  rw [twB_nodup] at h1 h4
  have hm : (madeP p).Nodup := by
    rw [allP, List.append_assoc, List.nodup_append] at h1; exact h1.2.1
  have hsub : ∀ x ∈ targetsP p, x ∈ madeP p := fun x hx => by
    have := List.any_eq_false.1 h3 x hx
    rw [out3] at this
    simpa [memS_iff] using this
  have hl : (madeP p).length = p.vars.length + p.outputs.length := by rw [madeP, List.length_append]
  rw [← hl, List.any_eq_true]
  constructor
  · intro h
    refine Classical.byContradiction fun hn => ?_
    have := nodup_len (madeP p) (targetsP p) hm (fun x hx => by
      refine Classical.byContradiction fun hx' => hn ⟨x, hx, ?_⟩
      cases hh : memS (targetsP p) x with
      | true => exact absurd ((memS_iff _ _).1 hh) hx'
      | false => rfl)
    omega
  · rintro ⟨x, hx, h⟩
    have hx' : x ∉ targetsP p := fun h' => by rw [(memS_iff _ _).2 h'] at h; cases h
    have := nodup_len (x :: targetsP p) (madeP p) (List.nodup_cons.2 ⟨hx', h4⟩) (fun y hy => by
      rcases List.mem_cons.1 hy with rfl | hy
      · exact hx
      · exact hsub y hy)
    simp at this; omega
theorem fault_eq (p : ProgD) : faultI p = faultS p := by
  unfold faultI faultS
  by_cases h1 : twB (allP p) = true
  · simp [h1]
  rw [if_neg h1, if_neg h1]
  by_cases h2 : bad2 p = true
  · simp [h2]
  rw [if_neg h2, if_neg h2]
  by_cases h3 : (targetsP p).any (out3 p) = true
  · rw [if_pos h3, if_pos h3]
  rw [if_neg h3, if_neg h3]
  by_cases h4 : twB (targetsP p) = true
  · rw [if_pos h4, if_pos h4]
  rw [if_neg h4, if_neg h4]
  have h5 := five p (by simpa using h1) ((Bool.not_eq_true _).mp h3) (by simpa using h4)
  by_cases h : (targetsP p).length < p.vars.length + p.outputs.length
  · rw [if_pos h, if_pos (h5.1 h)]
  · rw [if_neg h, if_neg (fun h' => h (h5.2 h'))]
end Go.Proofs.YteielmihlfakgaaGreatDoor
/- Contracts: the library's searches with a function, at lists of texts. -/
namespace Go.Proofs.YteielmihlfakgaaGreatDoor
open Go Go.Proofs Go.RowKit
set_option linter.unusedVariables false
set_option linter.unusedSimpArgs false
set_option maxRecDepth 100000
set_option maxHeartbeats 800000 in
theorem indexFuncS_any (F : FuncId) (caps : Array Value) (p : ByteArray → Bool) (v : Value) (xs : List ByteArray) (w : World) (hv : RdS w v xs)
    (hF : ∀ args w, Sem.run Tryz.prog (callFunc F args) w = .ok (.enter F args) w)
    (hp : ∀ x w1, x ∈ xs → New w w1 → Calls Tryz.prog F (#[.string x] ++ caps) w1 fun e w' => e = .returned (.bool (p x)) ∧ New w1 w') :
    Calls Tryz.prog 163 #[v, .func (.func F) #[] caps] w (RetVal w (.int .i64 (idx p xs))) := by
  obtain ⟨a, cap, rfl, hm, HC⟩ := hv.open
  have HP := Lib.hid hp; clear hp
  go_enter Tryz.func163, Tryz.ntmps163
  go_wp2_with fail
  go_loopw [8] (fun i wr => ∃ k : Nat, k ≤ xs.length ∧ i = .int .i64 k ∧ Hid ((xs.take k).findIdx? p = none) ∧ New w wr) (fun i _ => xs.length - (intOf i).toNat)
  case atStart => exact ⟨0, Nat.zero_le _, rfl, rfl, New.refl _⟩
  case round =>
    obtain ⟨k, hk, rfl, hpre, hb⟩ := hrel
    by_cases hlt : k < xs.length
    · obtain ⟨b, off, rfl, hbl, hx⟩ := HC.out wr hb k hlt
      have HT := Lib.hid (take_find hlt hpre.out)
      clear hv
      go_wp2_with fail
      refine (HP.out xs[k] _ (by simp) hb).mono ?_
      rintro e w2 ⟨rfl, hb2⟩
      go_wp2_with fail
      · have hh : p xs[k] = true := by assumption
        go_ret
        exact ⟨by rw [idx_some (HT.out.1 hh)]; rfl, hb.trans hb2⟩
      · have hh : p xs[k] = false := by assumption
        go_roundw
        case rel => exact ⟨k + 1, by omega, by go_num, Lib.hid (HT.out.2 hh), hb.trans hb2⟩
        case measure => simp [intOf]; omega
    · obtain rfl : k = xs.length := by omega
      go_wp2_with fail
      go_ret
      exact ⟨by rw [idx_none (by simpa using hpre.out)]; rfl, hb⟩
theorem containsFuncS_any (F : FuncId) (caps : Array Value) (p : ByteArray → Bool) (v : Value) (xs : List ByteArray) (w : World) (hv : RdS w v xs)
    (hF : ∀ args w, Sem.run Tryz.prog (callFunc F args) w = .ok (.enter F args) w)
    (hp : ∀ x w1, x ∈ xs → New w w1 → Calls Tryz.prog F (#[.string x] ++ caps) w1 fun e w' => e = .returned (.bool (p x)) ∧ New w1 w') :
    Calls Tryz.prog 135 #[v, .func (.func F) #[] caps] w (RetVal w (.bool (xs.any p))) := by
  have HV := Lib.hid hv; clear hv
  have HP := Lib.hid hp; clear hp
  have HI := Lib.hid (idx_any p xs)
  go_enter Tryz.func135, Tryz.ntmps135
  go_wp2_with fail
  refine (indexFuncS_any F caps p v xs w HV.out hF HP.out).mono ?_
  rintro e w2 ⟨rfl, hb2⟩
  go_wp2_with fail
  go_ret
  exact ⟨ret_bool HI.out, hb2⟩
end Go.Proofs.YteielmihlfakgaaGreatDoor
/- Contracts: the library's searches with a function, at lists of lines. -/
namespace Go.Proofs.YteielmihlfakgaaGreatDoor
open Go Go.Proofs Go.RowKit
set_option linter.unusedVariables false
set_option linter.unusedSimpArgs false
set_option maxRecDepth 100000
theorem idx_map {α β : Type} (g : α → β) (p : β → Bool) (xs : List α) : idx (fun x => p (g x)) xs = idx p (xs.map g) := by
  unfold idx
  rw [List.findIdx?_map]
  rfl
set_option maxHeartbeats 800000 in
theorem indexFuncLn_any (F : FuncId) (caps : Array Value) (p : LineD → Bool) (v : Value) (ls : List LineD) (w : World) (hv : RdLn w v ls)
    (hF : ∀ args w, Sem.run Tryz.prog (callFunc F args) w = .ok (.enter F args) w)
    (hp : ∀ (x : LineD) (tv : Value) w1, x ∈ ls → New w w1 → Rd w1 tv x.terms.length (x.terms.flatMap encTerm) → Calls Tryz.prog F (#[.agg #[.string x.target, tv]] ++ caps) w1 fun e w' => e = .returned (.bool (p x)) ∧ New w1 w') :
    Calls Tryz.prog 139 #[v, .func (.func F) #[] caps] w (RetVal w (.int .i64 (idx p ls))) := by
  obtain ⟨ps, rfl, h1, h2⟩ := hv
  obtain ⟨a, cap, rfl, hm, HC⟩ := Rd.flat encLV_len (by omega) h1
  clear h1
  have HP := Lib.hid (fun (x : LV) w1 (hx : x ∈ ps) (n : New w w1) => hp x.1 x.2 w1 (List.mem_map_of_mem hx) n ((h2 x hx).new n)); clear hp h2
  rw [← idx_map]
  generalize hpp : (fun x : LV => p x.1) = pp
  replace HP : Hid (∀ (x : LV) w1 (hx : x ∈ ps) (n : New w w1), Calls Tryz.prog F (#[.agg #[.string x.1.target, x.2]] ++ caps) w1 fun e w' => e = .returned (.bool (pp x)) ∧ New w1 w') := by subst hpp; exact HP
  clear hpp
  go_enter Tryz.func139, Tryz.ntmps139
  go_wp2_with fail
  go_loopw [8] (fun i wr => ∃ k : Nat, k ≤ ps.length ∧ i = .int .i64 k ∧ Hid ((ps.take k).findIdx? pp = none) ∧ New w wr) (fun i _ => ps.length - (intOf i).toNat)
  case atStart => exact ⟨0, Nat.zero_le _, rfl, rfl, New.refl _⟩
  case round =>
    obtain ⟨k, hk, rfl, hpre, hb⟩ := hrel
    obtain ⟨c, f⟩ := hb.rules
    by_cases hlt : k < ps.length
    · obtain ⟨b, off, rfl, hbl, hx⟩ := HC.out k hlt
      have x0 := hx 0 _ (by omega) rfl
      have x1 := hx 1 _ (by omega) rfl
      rw [Nat.add_zero] at x0
      replace hx := Lib.hid hx
      have HT := Lib.hid (take_find hlt hpre.out)
      go_wp2_with fail
      refine (HP.out ps[k] _ (by simp) hb).mono ?_
      rintro e w2 ⟨rfl, hb2⟩
      go_wp2_with fail
      · have hh : pp ps[k] = true := by assumption
        go_ret
        exact ⟨by rw [idx_some (HT.out.1 hh)]; rfl, hb.trans hb2⟩
      · have hh : pp ps[k] = false := by assumption
        go_roundw
        case rel => exact ⟨k + 1, by omega, by go_num, Lib.hid (HT.out.2 hh), hb.trans hb2⟩
        case measure => simp [intOf]; omega
    · obtain rfl : k = ps.length := by omega
      go_wp2_with fail
      go_ret
      exact ⟨by rw [idx_none (by simpa using hpre.out)]; rfl, hb⟩
theorem containsFuncLn_any (F : FuncId) (caps : Array Value) (p : LineD → Bool) (v : Value) (ls : List LineD) (w : World) (hv : RdLn w v ls)
    (hF : ∀ args w, Sem.run Tryz.prog (callFunc F args) w = .ok (.enter F args) w)
    (hp : ∀ (x : LineD) (tv : Value) w1, x ∈ ls → New w w1 → Rd w1 tv x.terms.length (x.terms.flatMap encTerm) → Calls Tryz.prog F (#[.agg #[.string x.target, tv]] ++ caps) w1 fun e w' => e = .returned (.bool (p x)) ∧ New w1 w') :
    Calls Tryz.prog 98 #[v, .func (.func F) #[] caps] w (RetVal w (.bool (ls.any p))) := by
  have HV := Lib.hid hv; clear hv
  have HP := Lib.hid hp; clear hp
  have HI := Lib.hid (idx_any p ls)
  go_enter Tryz.func98, Tryz.ntmps98
  go_wp2_with fail
  refine (indexFuncLn_any F caps p v ls w HV.out hF HP.out).mono ?_
  rintro e w2 ⟨rfl, hb2⟩
  go_wp2_with fail
  go_ret
  exact ⟨ret_bool HI.out, hb2⟩
end Go.Proofs.YteielmihlfakgaaGreatDoor
/- Contracts: slices.Concat at lists of texts. -/
namespace Go.Proofs.YteielmihlfakgaaGreatDoor
open Go Go.Proofs Go.RowKit
set_option linter.unusedVariables false
set_option linter.unusedSimpArgs false
set_option maxRecDepth 100000
theorem infoStrC : (Tryz.prog.info? 9).map (fun i => (i.zero, i.size, i.bytes)) = some (some (.string ⟨#[]⟩), 1, 16) := by kernel_rfl
set_option maxHeartbeats 1000000 in
theorem growS_any (n : Nat) (w : World) (hn : n ≤ 100000000) :
    Calls Tryz.prog 137 #[.slice none 0 0, .int .i64 n] w fun e w' => ∃ r, e = .returned r ∧ New w w' ∧ w'.ownsRow w.heap.size 9 1 r 0 [] := by
  obtain ⟨i0, hi, hz0, hz1, hz2⟩ := info_parts infoStrC
  by_cases h0 : n = 0
  · subst h0
    go_enter Tryz.func137, Tryz.ntmps137
    go_wp2_with fail
    go_ret
    exact ⟨_, rfl, New.refl _, World.ownsRow_nil _ _ _ _⟩
  · have h1 : 0 < (n : Int) := by omega
    have kc := Lib.run_append_nil_zeros (P := Tryz.prog) w 39 3 39 9 i0 (.string ⟨#[]⟩) .i64 .i64 Tryz.underlying39 Tryz.underlying3 hi hz0 n (by omega) (by rw [hz1]; omega) (by omega) (by rw [hz2]; omega)
    have hge := grownCap_ge w n 0 9
    have hle := grownCap_le_maxLen w n 0 9 (by unfold maxLen; omega)
    generalize grownCap w n 0 9 = C at kc hge hle
    have hle' : C ≤ 9223372036854775807 := by unfold maxLen at hle; omega
    have hle0 : (0 : Int) ≤ (C : Int) := by omega
    go_enter Tryz.func137, Tryz.ntmps137
    go_wp2_with (at_builtin; refine wpList_append_is rfl _ _ _ _ rfl _ _ _ rfl rfl kc ?_)
    go_ret
    refine ⟨_, rfl, (by repeat (first | with_reducible exact New.refl _ | with_reducible assumption | with_reducible refine New.drew ?_ | with_reducible refine New.drewN ?_ _ | with_reducible refine New.alloc ?_ _ | with_reducible refine New.setCell ?_ (by first | (simp; done) | (simp; omega) | omega) _ | with_reducible refine New.trans ?_ (by with_reducible assumption))), rfl, .inr ⟨w.heap.size, C, _, rfl, Nat.le_refl _, (show ((w.alloc _).drew).heap[w.heap.size]? = _ from Array.getElem?_push_size), Nat.zero_le _, hle, ?_, by simp⟩⟩
    simp only [Array.size_append, size_zeroCells]
    simp
    omega
theorem flat_next {α : Type} {xss : List (List α)} {k : Nat} (h : k < xss.length) : (xss.take (k + 1)).flatten = (xss.take k).flatten ++ xss[k] := by
  rw [List.take_succ_eq_append_getElem h, List.flatten_append]; simp
theorem flat_bd {α : Type} {B : Nat} : ∀ (xss : List (List α)), (∀ xs ∈ xss, xs.length ≤ B) → xss.flatten.length ≤ xss.length * B
  | [], _ => by simp
  | x :: xs, h => by
    have h1 := flat_bd xs (fun y hy => h y (by simp [hy]))
    have h2 := h x (by simp)
    rw [List.flatten_cons, List.length_append, List.length_cons, Nat.add_mul]; omega
theorem flat_take_bd {α : Type} {B : Nat} (xss : List (List α)) (h : ∀ xs ∈ xss, xs.length ≤ B) (k : Nat) : (xss.take k).flatten.length ≤ xss.length * B := by
  have := flat_bd (xss.take k) (fun y hy => h y (List.mem_of_mem_take hy))
  refine Nat.le_trans this (Nat.mul_le_mul_right _ ?_)
  rw [List.length_take]; omega
set_option maxHeartbeats 1600000 in
theorem concatS_any (v : Value) (vs : List Value) (xss : List (List ByteArray)) (w : World) (hv : Rd w v vs.length vs) (hlen : vs.length = xss.length) (hr : ∀ k (h : k < vs.length) (h' : k < xss.length), RdS w vs[k] xss[k]) (hsz : ∀ xs ∈ xss, xs.length ≤ 1048576) (hn : xss.length ≤ 8) :
    Calls Tryz.prog 96 #[v] w fun e w' => ∃ r, e = .returned r ∧ New w w' ∧ w'.ownsRow w.heap.size 9 1 r xss.flatten.length (xss.flatten.map Value.string) := by
  obtain ⟨i0, hi, hz0, hz1, hz2⟩ := info_parts infoStrC
  obtain ⟨a, cap, rfl, hm, h0, hc⟩ := hv
  have HC := Lib.hid (fun (k : Nat) (hk : k < vs.length) => show ∃ b off, a = some ⟨b, off, none⟩ ∧ b < w.heap.size ∧ w.cell? ⟨b, off + k, none⟩ = some vs[k] from hc k vs[k] (by simp [hk]))
  clear h0 hc
  have HR := Lib.hid hr; clear hr
  have HB := Lib.hid (fun k => flat_take_bd xss hsz k)
  have hvn : vs.length ≤ 8 := by omega
  go_enter Tryz.func96, Tryz.ntmps96
  go_wp2_with fail
  go_loop [3, 11] (fun s i => ∃ k : Nat, k ≤ vs.length ∧ i = .int .i64 k ∧ s = .int .i64 (((xss.take k).flatten.length : Nat) : Int)) (fun _ i => vs.length - (intOf i).toNat)
  case atStart => exact ⟨0, Nat.zero_le _, rfl, by simp⟩
  case round =>
    obtain ⟨k, hk, rfl, rfl⟩ := hrel
    by_cases hlt : k < vs.length
    · obtain ⟨b, off, rfl, hbl, hx⟩ := HC.out k hlt
      have hlt' : k < xss.length := by omega
      obtain ⟨ka, kc, hke, hkm, _⟩ := HR.out k hlt hlt'
      rw [hke] at hx
      have hF := flat_next hlt'
      have hF' := congrArg List.length hF
      rw [List.length_append] at hF'
      have hb1 := HB.out (k + 1)
      have HF := Lib.hid hF'
      have hb2 : (xss.take k).flatten.length + xss[k].length ≤ 8388608 := by rw [← hF']; have := Nat.mul_le_mul_right 1048576 hn; omega
      have hneg : ¬ (((xss.take k).flatten.length : Int) + (xss[k].length : Int) < 0) := by omega
      clear hF hF' hb1
      generalize (xss.take k).flatten.length = s0 at *
      go_wp2_with fail
      go_round
      case rel => exact ⟨k + 1, by omega, by go_num, by rw [HF.out]; go_num⟩
      case measure => simp [intOf]; omega
    · obtain rfl : k = vs.length := by omega
      have hE : (xss.take vs.length).flatten = xss.flatten := by rw [hlen, List.take_length]
      have hb2 : (xss.take vs.length).flatten.length ≤ 8388608 := by have := HB.out vs.length; have := Nat.mul_le_mul_right 1048576 hn; omega
      generalize (xss.take vs.length).flatten.length = s0 at *
      go_wp2_with fail
      refine (growS_any s0 _ (by omega)).mono ?_; rintro e w2 ⟨r2, rfl, b2, own2⟩
      obtain ⟨c2, f2⟩ := b2.rules
      have z2 := b2.size
      try simp only [World.size_alloc, World.size_drew, World.heap_drewN, World.size_setCell] at z2
      go_wp2_with fail
      go_loopw [6, 27] (fun o i wr => ∃ k : Nat, k ≤ vs.length ∧ i = .int .i64 k ∧ New w wr ∧ wr.ownsRow w.heap.size 9 1 o (xss.take k).flatten.length ((xss.take k).flatten.map Value.string)) (fun _ i _ => vs.length - (intOf i).toNat)
      case atStart => exact ⟨0, Nat.zero_le _, rfl, b2, by simpa using own2⟩
      case round =>
        obtain ⟨k, hk, rfl, hb, hown⟩ := hrel
        clear own2 b2 z2 c2 f2
        obtain ⟨cc, f'⟩ := hb.rules
        by_cases hlt : k < vs.length
        · obtain ⟨b, off, rfl, hbl, hx⟩ := HC.out k hlt
          have hlt' : k < xss.length := by omega
          have HRk := Lib.hid (Rd.new (HR.out k hlt hlt') hb)
          obtain ⟨ka, kc, hke, hkm, _⟩ := HR.out k hlt hlt'
          rw [hke] at hx HRk
          have HF := Lib.hid (flat_next hlt')
          have hb1 := HB.out k
          have hb3 : (xss.take k).flatten.length ≤ 8388608 := by have := Nat.mul_le_mul_right 1048576 hn; omega
          have hb4 : xss[k].length ≤ 1048576 := hsz _ (List.getElem_mem hlt')
          clear hb1
          go_wp2_with (at_builtin; refine wpList_append_rd rfl _ _ 39 rfl w.heap.size 9 i0 (.string ⟨#[]⟩) 1 16 Tryz.underlying39 hi hz0 hz1 hz2 rfl (by decide) _ _ _ rfl hown _ xss[k].length (xss[k].map Value.string) rfl HRk.out (by simp) (by intro u hu; obtain ⟨y, _, rfl⟩ := List.mem_map.1 hu; rfl) (by unfold maxLen; omega) (by omega) hb.size ?_; intro va wa howna hgra)
          have ba : New w wa := New.grown hb hgra (fun q hq => (own_block_lt hown q hq).1)
          go_roundw
          case rel => exact ⟨k + 1, by omega, by go_num, ba, by rw [HF.out, List.length_append, List.map_append]; exact howna⟩
          case measure => simp [intOf]; omega
        · obtain rfl : k = vs.length := by omega
          have hE' : (xss.take vs.length).flatten = xss.flatten := by rw [hlen, List.take_length]
          rw [hE'] at hown
          go_wp2_with fail
          go_ret
          exact ⟨_, rfl, hb, hown⟩
end Go.Proofs.YteielmihlfakgaaGreatDoor
