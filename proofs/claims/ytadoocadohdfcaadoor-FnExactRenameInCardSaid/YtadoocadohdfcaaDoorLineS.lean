/- Contracts: the laws' helpers on lists of lines (a text and a list of terms). -/
import Derived.Test.YtadoocadohdfcaaDoorProg
import Derived.Test.YtadoocadohdfcaaDoorStrSl
namespace Go.Proofs.YtadoocadohdfcaaDoor
open Go Go.Proofs Go.RowKit
set_option linter.unusedVariables false
set_option linter.unusedSimpArgs false
set_option maxRecDepth 100000
theorem set_next_flat {α : Type} (enc : α → List Value) (sz : Nat) (hs : ∀ x, (enc x).length = sz) (zc : List Value) (hz : zc.length = sz) (qs : List α) (q : α) (n : Nat) (h : qs.length < n) :
    setFrom (qs.flatMap enc ++ (List.replicate (n - qs.length) zc).flatten) (qs.length * sz) (enc q) = (qs ++ [q]).flatMap enc ++ (List.replicate (n - (qs.length + 1)) zc).flatten := by
  obtain ⟨m, rfl⟩ : ∃ m, n = qs.length + m + 1 := ⟨n - qs.length - 1, by omega⟩
  have hl : (qs ++ q :: List.replicate m q).length = qs.length + m + 1 := by simp; omega
  have hk : qs.length < (qs ++ q :: List.replicate m q).length := by omega
  have := set_flat enc sz hs zc hz (qs ++ q :: List.replicate m q) qs.length hk
  rw [hl] at this
  have e1 : (qs ++ q :: List.replicate m q).take qs.length = qs := by simp
  have e2 : (qs ++ q :: List.replicate m q).take (qs.length + 1) = qs ++ [q] := by rw [List.take_append, List.take_of_length_le (by omega), Nat.add_sub_cancel_left]; rfl
  have e3 : (qs ++ q :: List.replicate m q)[qs.length] = q := by simp
  rw [e1, e2, e3] at this
  exact this
theorem zero_next_at {α : Type} (enc : α → List Value) (sz : Nat) (hs : ∀ x, (enc x).length = sz) (zc : List Value) (hz : zc.length = sz) (qs : List α) (n : Nat) (h : qs.length < n) (i : Nat) (hi : i < sz) :
    (qs.flatMap enc ++ (List.replicate (n - qs.length) zc).flatten)[qs.length * sz + i]? = zc[i]? := by
  have h1 : (qs.flatMap enc).length = qs.length * sz := flat_length enc sz hs qs
  rw [List.getElem?_append_right (by omega), h1]
  obtain ⟨m, hm⟩ : ∃ m, n - qs.length = m + 1 := ⟨n - qs.length - 1, by omega⟩
  rw [hm, List.replicate_succ, List.flatten_cons, List.getElem?_append_left (by omega)]
  congr 1; omega
structure LineD where
  target : ByteArray
  terms : List ETerm
abbrev LV := LineD × Value
def encLV (p : LV) : List Value := [.string p.1.target, p.2]
theorem encLV_len (p : LV) : (encLV p).length = 2 := rfl
/-- A list of lines reads. -/
def RdLn (w : World) (v : Value) (ls : List LineD) : Prop := ∃ ps : List LV, ps.map Prod.fst = ls ∧ Rd w v ps.length (ps.flatMap encLV) ∧ ∀ p ∈ ps, Rd w p.2 p.1.terms.length (p.1.terms.flatMap encTerm)
theorem RdLn.new {w w' : World} {v : Value} {ls : List LineD} (h : RdLn w v ls) (n : New w w') : RdLn w' v ls := by
  obtain ⟨ps, e, h1, h2⟩ := h
  exact ⟨ps, e, h1.new n, fun p hp => (h2 p hp).new n⟩
/-- No two of the lists' blocks are one. -/
def Apart (v : Value) (ps : List LV) : Prop :=
  (∀ i (h : i < ps.length), ∀ x y, v.ownBlock = some x → (ps[i]).2.ownBlock = some y → x ≠ y) ∧
  ∀ i j (h : i < ps.length) (h' : j < ps.length), i ≠ j → ∀ x y, (ps[i]).2.ownBlock = some x → (ps[j]).2.ownBlock = some y → x ≠ y
/-- A list of lines in memory of the call's own. -/
def OwnLnX (w : World) (base : Nat) (v : Value) (ps : List LV) : Prop := w.ownsRow base 55 2 v ps.length (ps.flatMap encLV) ∧ ∀ i (h : i < ps.length), w.ownsRow base 53 3 (ps[i]).2 (ps[i]).1.terms.length ((ps[i]).1.terms.flatMap encTerm)
def OwnLn (w : World) (base : Nat) (v : Value) (ls : List LineD) : Prop := ∃ ps : List LV, ps.map Prod.fst = ls ∧ OwnLnX w base v ps ∧ Apart v ps
theorem OwnLnX.new {w w' : World} {base : Nat} {v : Value} {ps : List LV} (h : OwnLnX w base v ps) (n : New w w') : OwnLnX w' base v ps := ⟨own_new h.1 n, fun i hi => own_new (h.2 i hi) n⟩
theorem OwnLn.rd {w : World} {base : Nat} {v : Value} {ls : List LineD} (h : OwnLn w base v ls) : RdLn w v ls := by
  obtain ⟨ps, e, ⟨h1, h2⟩, _⟩ := h
  exact ⟨ps, e, own_rd h1, fun p hp => by obtain ⟨i, hi, rfl⟩ := List.mem_iff_getElem.1 hp; exact own_rd (h2 i hi)⟩
theorem OwnLn.new {w w' : World} {base : Nat} {v : Value} {ls : List LineD} (h : OwnLn w base v ls) (n : New w w') : OwnLn w' base v ls := by
  obtain ⟨ps, e, h1, h2⟩ := h
  exact ⟨ps, e, h1.new n, h2⟩
theorem OwnLn.setBelow {w : World} {base : Nat} {v : Value} {ls : List LineD} (h : OwnLn w base v ls) {p : Addr} {u : Value} (hp : p.block < base) : OwnLn (w.setCell p u) base v ls := by
  obtain ⟨ps, e, ⟨h1, h2⟩, h3⟩ := h
  exact ⟨ps, e, ⟨ownsRow_setCell_below h1 hp u, fun i hi => ownsRow_setCell_below (h2 i hi) hp u⟩, h3⟩
theorem OwnLn.base {w : World} {base base' : Nat} {v : Value} {ls : List LineD} (h : OwnLn w base v ls) (hb : base' ≤ base) : OwnLn w base' v ls := by
  obtain ⟨ps, e, ⟨h1, h2⟩, h3⟩ := h
  exact ⟨ps, e, ⟨own_base h1 hb, fun i hi => own_base (h2 i hi) hb⟩, h3⟩
def szLn (l : LineD) (left : Int) : Int := if szT l.target left < 0 then -1 else szTermS l.terms (szT l.target left)
theorem szLn_bd (l : LineD) (left : Int) (h : 0 ≤ left) : -1 ≤ szLn l left ∧ szLn l left ≤ left := by
  have h1 := szT_bd l.target left h
  rw [szLn]; split
  · omega
  · have := szTermS_bd l.terms (szT l.target left) (by omega); omega
def okLn (l : LineD) : Prop := okS l.target ∧ ∀ x ∈ l.terms, okTerm x
def fitLn (l : LineD) : Prop := fitS l.target ∧ (∀ x ∈ l.terms, fitTerm x) ∧ l.terms.length ≤ 1048576
theorem szLn_fit (l : LineD) (left : Int) (h : 0 ≤ left) (h' : left ≤ 1048576) (h2 : 0 ≤ szLn l left) : fitLn l := by
  have h1 := szT_bd l.target left h
  rw [szLn] at h2; split at h2
  · omega
  · have h3 := szTermS_bd l.terms (szT l.target left) (by omega)
    exact ⟨szT_fit l.target left h h' (by omega), szTermS_fit l.terms _ (by omega) (by omega) h2, by have := h3.2.2 (by omega); omega⟩
theorem szLine_any (l : LineD) (tv : Value) (left : Int) (w : World) (ht : Rd w tv l.terms.length (l.terms.flatMap encTerm)) (hl : 0 ≤ left) (hl' : left ≤ 1048576) (ho : okLn l) :
    Calls Tryd.prog 71 #[.agg #[.string l.target, tv], .int .i64 left] w fun e w' => e = .returned (.int .i64 (szLn l left)) ∧ New w w' := by
  have HT := Lib.hid ht; clear ht
  have hs : l.target.size ≤ 9223372036854775807 := ho.1
  have HO := Lib.hid ho.2; clear ho
  by_cases h1 : left - (l.target.size : Int) < 0
  · have h2 : szT l.target left = -1 := by rw [szT, if_pos h1]
    have HZ := Lib.hid (show szLn l left = -1 by rw [szLn, h2]; rfl)
    go_enter Tryd.func71, Tryd.ntmps71
    go_wp2_with fail
    go_ret
    exact ⟨ret_int HZ.out.symm, (by repeat (first | with_reducible exact New.refl _ | with_reducible assumption | with_reducible refine New.drew ?_ | with_reducible refine New.drewN ?_ _ | with_reducible refine New.alloc ?_ _ | with_reducible refine New.setCell ?_ (by first | (simp; done) | (simp; omega) | omega) _ | with_reducible refine New.trans ?_ (by with_reducible assumption)))⟩
  · have h2 : szT l.target left = left - l.target.size := by rw [szT, if_neg h1]
    have HZ := Lib.hid (show szLn l left = szTermS l.terms (left - l.target.size) by rw [szLn, h2, if_neg h1])
    have hb := szTermS_bd l.terms (left - l.target.size) (by omega)
    rw [HZ.out]
    clear h2
    go_enter Tryd.func71, Tryd.ntmps71
    go_wp2_with fail
    refine (szTermS_any tv l.terms (left - l.target.size) _ (Rd.new HT.out (by repeat (first | with_reducible exact New.refl _ | with_reducible assumption | with_reducible refine New.drew ?_ | with_reducible refine New.drewN ?_ _ | with_reducible refine New.alloc ?_ _ | with_reducible refine New.setCell ?_ (by first | (simp; done) | (simp; omega) | omega) _ | with_reducible refine New.trans ?_ (by with_reducible assumption)))) (by omega) (by omega) HO.out).mono ?_; rintro e w1 ⟨rfl, b1⟩
    try with_reducible replace b1 := New.undrawN b1
    try with_reducible replace b1 := New.undraw b1
    obtain ⟨c1, f1⟩ := b1.rules
    have z1 := b1.size
    try simp only [World.size_alloc, World.size_drew, World.heap_drewN, World.size_setCell] at z1
    go_wp2_with fail
    all_goals go_ret
    all_goals exact ⟨ret_int (by omega), (by repeat (first | with_reducible exact New.refl _ | with_reducible assumption | with_reducible refine New.drew ?_ | with_reducible refine New.drewN ?_ _ | with_reducible refine New.alloc ?_ _ | with_reducible refine New.setCell ?_ (by first | (simp; done) | (simp; omega) | omega) _ | with_reducible refine New.trans ?_ (by with_reducible assumption)))⟩
set_option maxHeartbeats 800000 in
theorem szLineS_any (v : Value) (ls : List LineD) (left : Int) (w : World) (hv : RdLn w v ls) (hl : 0 ≤ left) (hl' : left ≤ 1048576) (hok : ∀ x ∈ ls, okLn x) :
    Calls Tryd.prog 36 #[v, .int .i64 left] w fun e w' => e = .returned (.int .i64 (szSl szLn ls left)) ∧ New w w' := by
  obtain ⟨ps, rfl, h1, h2⟩ := hv
  obtain ⟨a, cap, rfl, hm, HC⟩ := Rd.flat encLV_len (by omega) h1
  clear h1
  have HT := Lib.hid h2; clear h2
  have HO := Lib.hid (fun p (hp : p ∈ ps) => hok p.1 (List.mem_map_of_mem hp)); clear hok
  by_cases h0 : left - (ps.length : Int) < 0
  · go_enter Tryd.func36, Tryd.ntmps36
    go_wp2_with fail
    go_ret
    exact ⟨ret_int (by rw [szSl, List.length_map, if_pos h0]), New.refl _⟩
  · have HZ := Lib.hid (show szSl szLn (ps.map Prod.fst) left = szFold szLn (ps.map Prod.fst) (left - ps.length) by rw [szSl, List.length_map, if_neg h0])
    have h1 : 0 ≤ left - (ps.length : Int) := by omega
    have hlen : ps.length ≤ 1048576 := by omega
    clear h0
    go_enter Tryd.func36, Tryd.ntmps36
    go_wp2_with fail
    go_loopw [1, 5] (fun l i wr => ∃ (k : Nat) (m : Int), k ≤ ps.length ∧ i = .int .i64 k ∧ l = .int .i64 m ∧ 0 ≤ m ∧ m ≤ 1048576 ∧ Hid (szSl szLn (ps.map Prod.fst) left = szFold szLn ((ps.drop k).map Prod.fst) m) ∧ New w wr) (fun _ i _ => ps.length - (intOf i).toNat)
    case atStart => exact ⟨0, _, Nat.zero_le _, rfl, rfl, h1, by omega, Lib.hid (by rw [HZ.out]; simp), New.refl w⟩
    case round =>
      obtain ⟨k, m, hk, rfl, rfl, hm0, hm1, hz, hb⟩ := hrel
      obtain ⟨c, f⟩ := hb.rules
      have hzw := hb.size
      by_cases hlt : k < ps.length
      · obtain ⟨b, off, rfl, hbl, hx⟩ := HC.out k hlt
        have x0 := hx 0 _ (by omega) rfl
        have x1 := hx 1 _ (by omega) rfl
        rw [Nat.add_zero] at x0
        replace hx := Lib.hid hx
        have hbw : b < wr.heap.size := by omega
        have hd := Lib.hid (show (ps.drop k).map Prod.fst = ps[k].1 :: (ps.drop (k + 1)).map Prod.fst by rw [List.drop_eq_getElem_cons hlt]; rfl)
        have hbd := szLn_bd ps[k].1 m hm0
        have HX := Lib.hid (HO.out ps[k] (List.getElem_mem hlt))
        have HY := Lib.hid (HT.out ps[k] (List.getElem_mem hlt))
        by_cases hn : szLn ps[k].1 m < 0
        · go_wp2_with fail
          refine (szLine_any ps[k].1 _ m _ (Rd.new HY.out hb) hm0 hm1 HX.out).mono ?_; rintro e w3 ⟨rfl, b3⟩
          try with_reducible replace b3 := New.undrawN b3
          try with_reducible replace b3 := New.undraw b3
          obtain ⟨c3, f3⟩ := b3.rules
          have z3 := b3.size
          try simp only [World.size_alloc, World.size_drew, World.heap_drewN, World.size_setCell] at z3
          go_wp2_with fail
          go_ret
          exact ⟨ret_int (by rw [hz.out, hd.out, szFold, if_pos (by omega)]), hb.trans b3⟩
        · go_wp2_with fail
          refine (szLine_any ps[k].1 _ m _ (Rd.new HY.out hb) hm0 hm1 HX.out).mono ?_; rintro e w3 ⟨rfl, b3⟩
          try with_reducible replace b3 := New.undrawN b3
          try with_reducible replace b3 := New.undraw b3
          obtain ⟨c3, f3⟩ := b3.rules
          have z3 := b3.size
          try simp only [World.size_alloc, World.size_drew, World.heap_drewN, World.size_setCell] at z3
          go_wp2_with fail
          go_roundw
          case rel => exact ⟨k + 1, szLn ps[k].1 m, by omega, by go_num, rfl, by omega, by omega, Lib.hid (by rw [hz.out, hd.out, szFold, if_neg (by omega)]), hb.trans b3⟩
          case measure => simp [intOf]; omega
      · obtain rfl : k = ps.length := by omega
        go_wp2_with fail
        go_ret
        exact ⟨ret_int (by rw [hz.out]; simp [szFold]), hb⟩
set_option maxHeartbeats 800000 in
theorem toLine_any (l : LineD) (tv : Value) (w : World) (ht : Rd w tv l.terms.length (l.terms.flatMap encTerm)) (hn : l.terms.length ≤ 1048576) :
    Calls Tryd.prog 74 #[.agg #[.string l.target, tv]] w fun e w' => ∃ r, e = .returned (.agg #[.string l.target, r]) ∧ New w w' ∧ (∃ a c, r = .slice a l.terms.length c) ∧ w'.ownsRow w.heap.size 53 3 r l.terms.length (l.terms.flatMap encTerm) := by
  go_enter Tryd.func74, Tryd.ntmps74
  go_wp2_with fail
  refine (toTermS_any _ l.terms _ (Rd.new ht (by repeat (first | with_reducible exact New.refl _ | with_reducible assumption | with_reducible refine New.drew ?_ | with_reducible refine New.drewN ?_ _ | with_reducible refine New.alloc ?_ _ | with_reducible refine New.setCell ?_ (by first | (simp; done) | (simp; omega) | omega) _ | with_reducible refine New.trans ?_ (by with_reducible assumption)))) hn).mono ?_; rintro e w1 ⟨r, rfl, b1, own1⟩
  obtain ⟨ra, rc, rfl⟩ := own_slice own1; simp only [World.size_alloc, World.size_setCell] at own1
  obtain ⟨c1, f1⟩ := b1.rules
  have z1 := b1.size
  try simp only [World.size_alloc, World.size_drew, World.heap_drewN, World.size_setCell] at z1
  have z1_0 : w.heap.size < w1.heap.size := by omega
  have z1_1 : w.heap.size + 1 < w1.heap.size := by omega
  have z1_2 : w.heap.size + 1 + 1 < w1.heap.size := by omega
  go_wp2_with fail
  refine bodyPost_ret (v := .agg #[.string l.target, .slice ra l.terms.length rc]) (by simp [results, Tryd.results74, go_sem, c1, f1, z1_0, z1_1, z1_2]) rfl ⟨_, rfl, (by repeat (first | with_reducible exact New.refl _ | with_reducible assumption | with_reducible refine New.drew ?_ | with_reducible refine New.drewN ?_ _ | with_reducible refine New.alloc ?_ _ | with_reducible refine New.setCell ?_ (by first | (simp; done) | (simp; omega) | omega) _ | with_reducible refine New.trans ?_ (by with_reducible assumption))), ⟨_, _, rfl⟩, ?_⟩
  refine own_base (base := w.heap.size + 1 + 1 + 1) ?_ (by omega)
  iterate 3 apply ownsRow_setCell_below
  exact own1
  all_goals (dsimp; omega)
theorem infoLine : (Tryd.prog.info? 55).map (fun i => (i.zero, i.size, i.bytes)) = some (some (Value.agg #[.string ⟨#[]⟩, .slice none 0 0]), 2, 40) := by kernel_rfl
def RetLn (w : World) (ls : List LineD) (e : Ending) (w' : World) : Prop := ∃ r, e = .returned r ∧ New w w' ∧ (∃ a c, r = .slice a ls.length c) ∧ OwnLn w' w.heap.size r ls
set_option maxHeartbeats 1600000 in
theorem toLineS_any (v : Value) (ls : List LineD) (w : World) (hv : RdLn w v ls) (hn : ls.length ≤ 1048576) (hf : ∀ x ∈ ls, x.terms.length ≤ 1048576) :
    Calls Tryd.prog 43 #[v] w (RetLn w ls) := by
  obtain ⟨ps, rfl, h1, h2⟩ := hv
  rw [List.length_map] at hn
  obtain ⟨a, cap, rfl, hm, HC⟩ := Rd.flat encLV_len (by omega) h1
  clear h1
  have HT := Lib.hid h2; clear h2
  have HF := Lib.hid (fun p (hp : p ∈ ps) => hf p.1 (List.mem_map_of_mem hp)); clear hf
  obtain ⟨i0, hi, hz0, hz1, hz2⟩ := info_parts infoLine
  go_enter Tryd.func43, Tryd.ntmps43
  go_wp2_with (at_make; refine wpList_make_full _ rfl _ _ 27 rfl w.heap.size 55 i0 (Value.agg #[.string ⟨#[]⟩, .slice none 0 0]) 2 Tryd.underlying27 hi hz0 hz1 .i64 .i64 _ _ ps.length rfl rfl rfl rfl (by rw [hz2]; omega) (by unfold maxLen; omega) (Nat.le_refl _) ?_; intro w1 hown hgr)
  have b1 : New w w1 := (New.refl w).grown hgr (fun k hk => by cases hk)
  have hw1 := own_block_lt hown _ rfl
  have hown1 : w1.ownsRow w.heap.size 55 2 (.slice (some ⟨w.heap.size, 0, none⟩) ps.length ps.length) ps.length (([] : List LV).flatMap encLV ++ (List.replicate (ps.length - ([] : List LV).length) [Value.string ⟨#[]⟩, Value.slice none 0 0]).flatten) := by
    have e := made_flat #[Value.string ⟨#[]⟩, Value.slice none 0 0] ps.length (by decide)
    simp only [List.flatMap_nil, List.nil_append, List.length_nil, Nat.sub_zero]
    rw [← e]; exact hown
  clear hown hgr hz2 hz1 hz0 hi
  go_wp2_with fail
  go_loopw [4] (fun i wr => ∃ (k : Nat) (qs : List LV), k ≤ ps.length ∧ i = .int .i64 k ∧ qs.length = k ∧ Hid (qs.map Prod.fst = (ps.take k).map Prod.fst) ∧ New w wr ∧ w.heap.size < wr.heap.size ∧ wr.ownsRow w.heap.size 55 2 (.slice (some ⟨w.heap.size, 0, none⟩) ps.length ps.length) ps.length (qs.flatMap encLV ++ (List.replicate (ps.length - qs.length) [Value.string ⟨#[]⟩, Value.slice none 0 0]).flatten) ∧ Hid (∀ i (h : i < qs.length), wr.ownsRow (w.heap.size + 1) 53 3 (qs[i]).2 (qs[i]).1.terms.length ((qs[i]).1.terms.flatMap encTerm)) ∧ Hid (∀ i j (h : i < qs.length) (h' : j < qs.length), i ≠ j → ∀ x y, (qs[i]).2.ownBlock = some x → (qs[j]).2.ownBlock = some y → x ≠ y)) (fun i _ => ps.length - (intOf i).toNat)
  case atStart => exact ⟨0, [], Nat.zero_le _, rfl, rfl, rfl, b1, hw1.2, hown1, Lib.hid (fun i h => by simp at h), Lib.hid (fun i j h => by simp at h)⟩
  case round =>
    obtain ⟨k, qs, hk, rfl, hql, hqe, hb, hwr, hown, hqo, hqa⟩ := hrel
    clear b1 hown1 hw1
    obtain ⟨c, f⟩ := hb.rules
    by_cases hlt : k < ps.length
    · obtain ⟨b, off, rfl, hbl, hx⟩ := HC.out k hlt
      have x0 := hx 0 _ (by omega) rfl
      have x1 := hx 1 _ (by omega) rfl
      rw [Nat.add_zero] at x0
      replace hx := Lib.hid hx
      have hdn : ∀ i u, i < 2 → ([Value.string ⟨#[]⟩, Value.slice none 0 0] : List Value)[i]? = some u → wr.cell? ⟨w.heap.size, k * 2 + i, none⟩ = some u := fun i u hi hu => by
        have := zero_next_at encLV 2 encLV_len [Value.string ⟨#[]⟩, Value.slice none 0 0] rfl qs ps.length (by omega) i hi
        rw [hql] at this
        rw [hown.cellAt (k * 2 + i) (by omega), hql, this, hu]
      have d0 := hdn 0 _ (by omega) rfl
      have d1 := hdn 1 _ (by omega) rfl
      rw [Nat.add_zero] at d0
      clear hdn
      have f0 := hown.frozenAt (k * 2)
      have f1 := hown.frozenAt (k * 2 + 1)
      have HY := Lib.hid (HT.out ps[k] (List.getElem_mem hlt))
      have HX := Lib.hid (HF.out ps[k] (List.getElem_mem hlt))
      replace hown := Lib.hid hown
      go_wp2_with fail
      refine (toLine_any ps[k].1 _ _ (Rd.new HY.out hb) HX.out).mono ?_; rintro e w2 ⟨r, rfl, b2, ⟨ra, rc, rfl⟩, own2⟩
      obtain ⟨c2, f2⟩ := b2.rules
      have z2 := b2.size
      try simp only [World.size_alloc, World.size_drew, World.heap_drewN, World.size_setCell] at z2
      have z2_0 : w.heap.size < w2.heap.size := by omega
      go_wp2_with fail
      go_roundw
      case rel =>
        have h1 := (((own_new hown.out b2).stored (k * 2) (.string ps[k].1.target)).1.stored (k * 2 + 1) (.slice ra ps[k].1.terms.length rc)).1
        have h2 := set_next_flat encLV 2 encLV_len [Value.string ⟨#[]⟩, Value.slice none 0 0] rfl qs (ps[k].1, .slice ra ps[k].1.terms.length rc) ps.length (by omega)
        rw [hql] at h2 h1
        simp only [setFrom, encLV] at h2
        rw [h2] at h1
        refine ⟨k + 1, qs ++ [(ps[k].1, .slice ra ps[k].1.terms.length rc)], by omega, by go_num, by simp [hql], Lib.hid (by rw [List.take_succ_eq_append_getElem hlt, List.map_append, List.map_append, hqe.out]; rfl), (((hb.trans b2).setCell (Nat.le_refl _) _).setCell (Nat.le_refl _) _), by simp only [World.size_setCell]; omega, ?_, Lib.hid (fun i hq => ?_), Lib.hid (fun i j h1' h2' hij x y hx hy => ?_)⟩
        · have hl : (qs ++ [(ps[k].1, Value.slice ra ps[k].1.terms.length rc)]).length = k + 1 := by simp [hql]
          rw [hl]
          exact h1
        · rw [List.length_append, List.length_singleton] at hq
          apply ownsRow_setCell_below
          apply ownsRow_setCell_below
          · by_cases hc : i < qs.length
            · rw [List.getElem_append_left hc]
              exact own_new (hqo.out i hc) b2
            · have hce : i = qs.length := by omega
              subst hce
              rw [List.getElem_append_right (Nat.le_refl _)]
              simp only [Nat.sub_self, List.getElem_cons_zero]
              exact own_base own2 (by omega)
          all_goals (dsimp; omega)
        · rw [List.length_append, List.length_singleton] at h1' h2'
          have low : ∀ i (hc : i < qs.length) x, (qs[i]).2.ownBlock = some x → x < wr.heap.size := fun i hc x hx => (own_block_lt (hqo.out i hc) x hx).2
          have hig : ∀ y, (Value.slice ra ps[k].1.terms.length rc).ownBlock = some y → wr.heap.size ≤ y := fun y hy => (own_block_lt own2 y hy).1
          by_cases hc : i < qs.length
          · by_cases hd : j < qs.length
            · rw [List.getElem_append_left hc] at hx
              rw [List.getElem_append_left hd] at hy
              exact hqa.out i j hc hd hij x y hx hy
            · have hde : j = qs.length := by omega
              subst hde
              rw [List.getElem_append_left hc] at hx
              rw [List.getElem_append_right (Nat.le_refl _)] at hy
              simp only [Nat.sub_self, List.getElem_cons_zero] at hy
              have := low i hc x hx; have := hig y hy; omega
          · have hce : i = qs.length := by omega
            subst hce
            have hd : j < qs.length := by omega
            rw [List.getElem_append_left hd] at hy
            rw [List.getElem_append_right (Nat.le_refl _)] at hx
            simp only [Nat.sub_self, List.getElem_cons_zero] at hx
            have := low j hd y hy; have := hig x hx; omega
      case measure => simp [intOf]; omega
    · obtain rfl : k = ps.length := by omega
      have HE := Lib.hid (show qs.map Prod.fst = ps.map Prod.fst by have := hqe.out; rwa [List.take_length] at this)
      go_wp2_with fail
      go_ret
      refine ⟨_, rfl, hb, ⟨_, _, by rw [List.length_map]; rfl⟩, qs, HE.out, ⟨?_, fun i hi => own_base (hqo.out i hi) (by omega)⟩, ⟨fun i hi x y hx hy => ?_, hqa.out⟩⟩
      · rw [hql] at hown ⊢
        simpa using hown
      · have h2 := (own_block_lt (hqo.out i hi) y hy).1
        have hx' : w.heap.size = x := Option.some.inj hx
        omega
theorem eqLine_any (l : LineD) (tv uv : Value) (w : World) (ht : Rd w tv l.terms.length (l.terms.flatMap encTerm)) (hu : Rd w uv l.terms.length (l.terms.flatMap encTerm)) :
    Calls Tryd.prog 81 #[.agg #[.string l.target, tv], .agg #[.string l.target, uv]] w fun e w' => e = .returned (.bool true) ∧ New w w' := by
  have zz : w.heap.size < w.heap.size + 1 + 1 := by omega
  have heq : (l.target.toList == l.target.toList) = true := by simp
  go_enter Tryd.func81, Tryd.ntmps81
  go_wp2_with fail
  refine (eqTermS_any _ _ l.terms l.terms _ (Rd.new ht (by repeat (first | with_reducible exact New.refl _ | with_reducible assumption | with_reducible refine New.drew ?_ | with_reducible refine New.drewN ?_ _ | with_reducible refine New.alloc ?_ _ | with_reducible refine New.setCell ?_ (by first | (simp; done) | (simp; omega) | omega) _ | with_reducible refine New.trans ?_ (by with_reducible assumption)))) (Rd.new hu (by repeat (first | with_reducible exact New.refl _ | with_reducible assumption | with_reducible refine New.drew ?_ | with_reducible refine New.drewN ?_ _ | with_reducible refine New.alloc ?_ _ | with_reducible refine New.setCell ?_ (by first | (simp; done) | (simp; omega) | omega) _ | with_reducible refine New.trans ?_ (by with_reducible assumption))))).mono ?_; rintro e w1 ⟨rfl, b1⟩
  try with_reducible replace b1 := New.undrawN b1
  try with_reducible replace b1 := New.undraw b1
  obtain ⟨c1, f1⟩ := b1.rules
  have z1 := b1.size
  try simp only [World.size_alloc, World.size_drew, World.heap_drewN, World.size_setCell] at z1
  go_wp2_with fail
  go_ret
  exact ⟨rfl, (by repeat (first | with_reducible exact New.refl _ | with_reducible assumption | with_reducible refine New.drew ?_ | with_reducible refine New.drewN ?_ _ | with_reducible refine New.alloc ?_ _ | with_reducible refine New.setCell ?_ (by first | (simp; done) | (simp; omega) | omega) _ | with_reducible refine New.trans ?_ (by with_reducible assumption)))⟩
set_option maxHeartbeats 800000 in
theorem eqLineS_any (v u : Value) (ls : List LineD) (w : World) (hv : RdLn w v ls) (hu : RdLn w u ls) :
    Calls Tryd.prog 50 #[v, u] w fun e w' => e = .returned (.bool true) ∧ New w w' := by
  obtain ⟨ps, rfl, h1, h2⟩ := hv
  obtain ⟨qs, hqe, g1, g2⟩ := hu
  have hlen : qs.length = ps.length := by have := congrArg List.length hqe; simpa using this
  have HE := Lib.hid (fun k (h : k < ps.length) => show (qs[k]'(by omega)).1 = ps[k].1 by
    have := congrArg (fun l => l[k]?) hqe
    simpa [List.getElem?_map, List.getElem?_eq_getElem, h, hlen] using this)
  rw [hlen] at g1
  obtain ⟨a, cap, rfl, hm, HC⟩ := Rd.flat encLV_len (by omega) h1
  have g1' : Rd w u qs.length (qs.flatMap encLV) := by rw [hlen]; exact g1
  obtain ⟨a', cap', rfl, hm', HC'⟩ := Rd.flat encLV_len (by omega) g1'
  clear h1 g1 g1' hqe
  have HT := Lib.hid h2; clear h2
  have HU := Lib.hid g2; clear g2
  have hne : ((ps.length : Int) != qs.length) = false := by simp [hlen]
  have hle : ps.length ≤ qs.length := by omega
  go_enter Tryd.func50, Tryd.ntmps50
  go_wp2_with fail
  go_loopw [5] (fun i wr => ∃ k : Nat, k ≤ ps.length ∧ i = .int .i64 k ∧ New w wr) (fun i _ => ps.length - (intOf i).toNat)
  case atStart => exact ⟨0, Nat.zero_le _, rfl, New.refl _⟩
  case round =>
    obtain ⟨k, hk, rfl, hb⟩ := hrel
    obtain ⟨cc, f'⟩ := hb.rules
    have hbz := hb.size
    by_cases hlt : k < ps.length
    · have hlt' : k < qs.length := by omega
      obtain ⟨b, off, rfl, hbl, hx⟩ := HC.out k hlt
      obtain ⟨b', off', rfl, hbl', hy⟩ := HC'.out k hlt'
      have x0 := hx 0 _ (by omega) rfl
      have x1 := hx 1 _ (by omega) rfl
      have y0 := hy 0 _ (by omega) rfl
      have y1 := hy 1 _ (by omega) rfl
      rw [Nat.add_zero] at x0 y0
      replace hx := Lib.hid hx
      replace hy := Lib.hid hy
      have hee := HE.out k hlt
      rw [hee] at y0
      have HY := Lib.hid (HT.out ps[k] (List.getElem_mem hlt))
      have HZ := Lib.hid (show Rd w (qs[k]'hlt').2 ps[k].1.terms.length (ps[k].1.terms.flatMap encTerm) by have := HU.out qs[k] (List.getElem_mem hlt'); rwa [hee] at this)
      clear hee
      have hbw : b < wr.heap.size := by omega
      have hbw' : b' < wr.heap.size := by omega
      have hq := fun (n : NewOf wr) b o => NewOf.cell n b o
      go_wp2_with fail
      refine wp_region_new (by kernel_rfl) (by kernel_rfl) ?_
      repeat (first | go_big_quiet_skip | go_big_quiet_step ((first | exact newq (eqLine_any ps[k].1 _ _ _ (Rd.new HY.out (hb.trans (NewOf.property _))) (Rd.new HZ.out (hb.trans (NewOf.property _)))))) | quiet_step ((first | exact newq (eqLine_any ps[k].1 _ _ _ (Rd.new HY.out (hb.trans (NewOf.property _))) (Rd.new HZ.out (hb.trans (NewOf.property _)))))))
      refine wpQuiet_nil ?_
      rintro ⟨w3, b3⟩
      dsimp only
      try with_reducible replace b3 := New.undrawN b3
      try with_reducible replace b3 := New.undraw b3
      obtain ⟨c3, f3⟩ := b3.rules
      have z3 := b3.size
      try simp only [World.size_alloc, World.size_drew, World.heap_drewN, World.size_setCell] at z3
      go_wp2_with fail
      go_roundw
      case rel => exact ⟨k + 1, by omega, by go_num, hb.trans b3⟩
      case measure => simp [intOf]; omega
    · obtain rfl : k = ps.length := by omega
      go_wp2_with fail
      go_ret
      exact ⟨rfl, hb⟩
end Go.Proofs.YtadoocadohdfcaaDoor
