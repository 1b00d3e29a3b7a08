/- Contracts: the laws' helpers on lists of strings; sizes of lists, said once. -/
import Derived.Test.YtadoocadohdfcaaDoorProg
import Derived.Test.YtadoocadohdfcaaDoorStrs
import Derived.Test.YtadoocadohdfcaaDoorTermS
namespace Go.Proofs.YtadoocadohdfcaaDoor
open Go Go.Proofs Go.RowKit
set_option linter.unusedVariables false
set_option linter.unusedSimpArgs false
set_option maxRecDepth 100000
def szFold {α : Type} (f : α → Int → Int) : List α → Int → Int
  | [], l => l
  | x :: xs, l => if f x l < 0 then -1 else szFold f xs (f x l)
def szSl {α : Type} (f : α → Int → Int) (xs : List α) (left : Int) : Int := if left - xs.length < 0 then -1 else szFold f xs (left - xs.length)
theorem szFold_bd {α : Type} {f : α → Int → Int} (hf : ∀ x l, 0 ≤ l → -1 ≤ f x l ∧ f x l ≤ l) : ∀ (xs : List α) (l : Int), 0 ≤ l → -1 ≤ szFold f xs l ∧ szFold f xs l ≤ l
  | [], l, h => by simp [szFold]; omega
  | x :: xs, l, h => by
    have h1 := hf x l h
    rw [szFold]; split
    · omega
    · have := szFold_bd hf xs (f x l) (by omega); omega
theorem szFold_fit {α : Type} {f : α → Int → Int} {fit : α → Prop} (hf : ∀ x l, 0 ≤ l → -1 ≤ f x l ∧ f x l ≤ l) (hfit : ∀ x l, 0 ≤ l → l ≤ 1048576 → 0 ≤ f x l → fit x) : ∀ (xs : List α) (l : Int), 0 ≤ l → l ≤ 1048576 → 0 ≤ szFold f xs l → ∀ x ∈ xs, fit x
  | [], l, h, h', h2, x, hx => by cases hx
  | y :: xs, l, h, h', h2, x, hx => by
    have h1 := hf y l h
    rw [szFold] at h2
    split at h2
    · omega
    · rcases List.mem_cons.1 hx with rfl | hx
      · exact hfit _ l h h' (by omega)
      · exact szFold_fit hf hfit xs _ (by omega) (by omega) h2 x hx
theorem szSl_bd {α : Type} {f : α → Int → Int} (hf : ∀ x l, 0 ≤ l → -1 ≤ f x l ∧ f x l ≤ l) (xs : List α) (left : Int) (h : 0 ≤ left) : -1 ≤ szSl f xs left ∧ szSl f xs left ≤ left ∧ (0 ≤ szSl f xs left → (xs.length : Int) ≤ left) := by
  rw [szSl]; split
  · omega
  · have := szFold_bd hf xs (left - xs.length) (by omega); omega
theorem szSl_fit {α : Type} {f : α → Int → Int} {fit : α → Prop} (hf : ∀ x l, 0 ≤ l → -1 ≤ f x l ∧ f x l ≤ l) (hfit : ∀ x l, 0 ≤ l → l ≤ 1048576 → 0 ≤ f x l → fit x) (xs : List α) (left : Int) (h : 0 ≤ left) (h' : left ≤ 1048576) (h2 : 0 ≤ szSl f xs left) : ∀ x ∈ xs, fit x := by
  rw [szSl] at h2; split at h2
  · omega
  · exact szFold_fit hf hfit xs _ (by omega) (by omega) h2
theorem szT_bd (s : ByteArray) (l : Int) (h : 0 ≤ l) : -1 ≤ szT s l ∧ szT s l ≤ l := by rw [szT]; split <;> omega
def okS (s : ByteArray) : Prop := s.size ≤ 9223372036854775807
def fitS (s : ByteArray) : Prop := s.size ≤ 1048576
theorem szT_fit (s : ByteArray) (l : Int) (h : 0 ≤ l) (h' : l ≤ 1048576) (h2 : 0 ≤ szT s l) : fitS s := by
  rw [szT] at h2; split at h2
  · omega
  · rw [fitS]; omega
set_option maxHeartbeats 800000 in
theorem szStringS_any (v : Value) (xs : List ByteArray) (left : Int) (w : World) (hv : RdS w v xs) (hl : 0 ≤ left) (hl' : left ≤ 1048576) (hok : ∀ x ∈ xs, okS x) :
    Calls Tryd.prog 35 #[v, .int .i64 left] w fun e w' => e = .returned (.int .i64 (szSl szT xs left)) ∧ w = w' := by
  obtain ⟨a, cap, rfl, hm, HC⟩ := hv.open
  clear hv
  have HO := Lib.hid hok; clear hok
  by_cases h0 : left - (xs.length : Int) < 0
  · go_enter Tryd.func35, Tryd.ntmps35
    go_wp2_with fail
    go_ret
    exact ⟨ret_int (by rw [szSl, if_pos h0]), rfl⟩
  · have HZ := Lib.hid (show szSl szT xs left = szFold szT xs (left - xs.length) by rw [szSl, if_neg h0])
    have h1 : 0 ≤ left - (xs.length : Int) := by omega
    have hlen : xs.length ≤ 1048576 := by omega
    clear h0
    go_enter Tryd.func35, Tryd.ntmps35
    go_wp2_with fail
    go_loop [1, 5] (fun l i => ∃ (k : Nat) (m : Int), k ≤ xs.length ∧ i = .int .i64 k ∧ l = .int .i64 m ∧ 0 ≤ m ∧ m ≤ 1048576 ∧ Hid (szSl szT xs left = szFold szT (xs.drop k) m)) (fun _ i => xs.length - (intOf i).toNat)
    case atStart => exact ⟨0, _, Nat.zero_le _, rfl, rfl, h1, by omega, Lib.hid (by rw [HZ.out]; simp)⟩
    case round =>
      obtain ⟨k, m, hk, rfl, rfl, hm0, hm1, hz⟩ := hrel
      by_cases hlt : k < xs.length
      · obtain ⟨b, off, rfl, hbl, hx⟩ := HC.out w (New.refl w) k hlt
        have hd := Lib.hid (show xs.drop k = xs[k] :: xs.drop (k + 1) from List.drop_eq_getElem_cons hlt)
        have hsz : xs[k].size ≤ 9223372036854775807 := HO.out xs[k] (List.getElem_mem hlt)
        by_cases hn : m - (xs[k].size : Int) < 0
        · have hN := Lib.hid (show szT xs[k] m = -1 by rw [szT, if_pos hn])
          go_wp2_with fail
          go_ret
          exact ⟨ret_int (by rw [hz.out, hd.out, szFold, hN.out]; rfl), rfl⟩
        · have hN := Lib.hid (show szT xs[k] m = m - xs[k].size by rw [szT, if_neg hn])
          go_wp2_with fail
          go_round
          case rel => exact ⟨k + 1, m - xs[k].size, by omega, by go_num, rfl, by omega, by omega, Lib.hid (by rw [hz.out, hd.out, szFold, hN.out, if_neg (by omega)])⟩
          case measure => simp [intOf]; omega
      · obtain rfl : k = xs.length := by omega
        go_wp2_with fail
        go_ret
        exact ⟨ret_int (by rw [hz.out]; simp [szFold]), rfl⟩
theorem infoStr : (Tryd.prog.info? 9).map (fun i => (i.zero, i.size, i.bytes)) = some (some (.string ⟨#[]⟩), 1, 16) := by kernel_rfl
theorem toStringS_any (v : Value) (xs : List ByteArray) (w : World) (hv : RdS w v xs) (hn : xs.length ≤ 1048576) :
    Calls Tryd.prog 42 #[v] w (RetSlice w 9 1 xs.length (xs.map Value.string)) := by
  obtain ⟨a, cap, rfl, hm, HC⟩ := hv.open
  obtain ⟨i0, hi, hz0, hz1, hz2⟩ := info_parts infoStr
  go_enter Tryd.func42, Tryd.ntmps42
  go_wp2_with (at_make; refine wpList_make_full _ rfl _ _ 22 rfl w.heap.size 9 i0 (.string ⟨#[]⟩) 1 Tryd.underlying22 hi hz0 hz1 .i64 .i64 _ _ xs.length rfl rfl rfl rfl (by rw [hz2]; omega) (by unfold maxLen; omega) (Nat.le_refl _) ?_; intro w1 hown hgr)
  have b1 : New w w1 := (New.refl w).grown hgr (fun k hk => by cases hk)
  have hown1 : w1.ownsRow w.heap.size 9 1 (.slice (some ⟨w.heap.size, 0, none⟩) xs.length xs.length) xs.length (((xs.take 0).map Value.string) ++ List.replicate (xs.length - 0) (.string ⟨#[]⟩)) := by
    have e : (madeCells (Value.string ⟨#[]⟩).cells (xs.length * 1)).toList = ((xs.take 0).map Value.string) ++ List.replicate (xs.length - 0) (.string ⟨#[]⟩) := by
      rw [show (Value.string ⟨#[]⟩).cells = #[.string ⟨#[]⟩] from rfl, toList_madeCells_one]; simp
    rw [← e]; exact hown
  clear hown hgr hz2 hz1 hz0 hi
  go_wp2_with fail
  go_loopw [4] (fun i wr => ∃ k : Nat, k ≤ xs.length ∧ i = .int .i64 k ∧ New w wr ∧ wr.ownsRow w.heap.size 9 1 (.slice (some ⟨w.heap.size, 0, none⟩) xs.length xs.length) xs.length (((xs.take k).map Value.string) ++ List.replicate (xs.length - k) (.string ⟨#[]⟩))) (fun i _ => xs.length - (intOf i).toNat)
  case atStart => exact ⟨0, Nat.zero_le _, rfl, b1, hown1⟩
  case round =>
    obtain ⟨k, hk, rfl, hb, hown⟩ := hrel
    clear b1 hown1
    by_cases hlt : k < xs.length
    · obtain ⟨b, off, rfl, hbl, hx⟩ := HC.out wr hb k hlt
      have hd : wr.cell? ⟨w.heap.size, k, none⟩ = some (.string ⟨#[]⟩) := by rw [hown.cellAt k (by omega)]; exact row_at _ _ _ _ hlt
      have hfz := hown.frozenAt k
      clear hv
      go_wp2_with fail
      go_roundw
      case rel =>
        have h1 := (hown.stored k (.string xs[k])).1
        rw [set_next _ _ _ _ hlt] at h1
        exact ⟨k + 1, by omega, by go_num, hb.setCell (Nat.le_refl _) _, h1⟩
      case measure => simp [intOf]; omega
    · obtain rfl : k = xs.length := by omega
      go_wp2_with fail
      go_ret
      exact ⟨_, rfl, hb, by simpa using hown⟩
set_option maxHeartbeats 800000 in
theorem eqStringS_any (v u : Value) (xs : List ByteArray) (w : World) (hv : RdS w v xs) (hu : RdS w u xs) :
    Calls Tryd.prog 49 #[v, u] w fun e w' => e = .returned (.bool true) ∧ New w w' := by
  obtain ⟨a, cap, rfl, hm, HC⟩ := hv.open
  obtain ⟨a', cap', rfl, _, HC'⟩ := hu.open
  clear hv hu
  have hne : ((xs.length : Int) != xs.length) = false := by simp
  go_enter Tryd.func49, Tryd.ntmps49
  go_wp2_with fail
  go_loopw [5] (fun i wr => ∃ k : Nat, k ≤ xs.length ∧ i = .int .i64 k ∧ New w wr) (fun i _ => xs.length - (intOf i).toNat)
  case atStart => exact ⟨0, Nat.zero_le _, rfl, New.refl _⟩
  case round =>
    obtain ⟨k, hk, rfl, hb⟩ := hrel
    obtain ⟨cc, f'⟩ := hb.rules
    have hbz := hb.size
    by_cases hlt : k < xs.length
    · obtain ⟨b, off, rfl, hbl, hx⟩ := HC.out w (New.refl w) k hlt
      obtain ⟨b', off', rfl, hbl', hx'⟩ := HC'.out w (New.refl w) k hlt
      have hbw : b < wr.heap.size := by omega
      have hbw' : b' < wr.heap.size := by omega
      have heq : (xs[k].toList == xs[k].toList) = true := by simp
      go_wp2_with fail
      go_quiet (fail)
      go_wp2_with fail
      go_roundw
      case rel => exact ⟨k + 1, by omega, by go_num, (by repeat (first | with_reducible exact New.refl _ | with_reducible assumption | with_reducible refine New.drew ?_ | with_reducible refine New.drewN ?_ _ | with_reducible refine New.alloc ?_ _ | with_reducible refine New.setCell ?_ (by first | (simp; done) | (simp; omega) | omega) _ | with_reducible refine New.trans ?_ (by with_reducible assumption)))⟩
      case measure => simp [intOf]; omega
    · obtain rfl : k = xs.length := by omega
      go_wp2_with fail
      go_ret
      exact ⟨rfl, hb⟩
end Go.Proofs.YtadoocadohdfcaaDoor
