/- Contracts: a report drawn from a code. -/
import Derived.WalkSpells
import Derived.Test.YtinlichcbjpeaaaProg
import Derived.Test.YtinlichcbjpeaaaDraw11
import Derived.Test.YtinlichcbjpeaaaApp2
namespace Go.Proofs.Ytinlichcbjpeaaa
open Go Go.Proofs Go.RowKit
set_option linter.unusedVariables false
set_option linter.unusedSimpArgs false
set_option maxRecDepth 100000
/-- A report drawn: two lists in new blocks. -/
def DrawRp (S : Nat) (w : World) (e : Ending) (w' : World) : Prop := ∃ (u v : Value) (xs ys : List Int), e = .returned (.agg #[u, v]) ∧ RdM2 w.heap.size w' u xs.length (xs.map (Value.int .i64)) ∧ RdM2 w.heap.size w' v ys.length (ys.map (Value.int .i64)) ∧ Dr S w w'
theorem ret_rp {fn : Func} {S : Nat} {w0 w : World} {a : Act} {u v : Value} {xs ys : List Int} (hd : a.defers = []) (hR : Dr S w0 w) (hu : RdM2 w0.heap.size w u xs.length (xs.map (Value.int .i64))) (hv : RdM2 w0.heap.size w v ys.length (ys.map (Value.int .i64))) (hr : (results fn a.tmps).run Try.prog w = .ok (.agg #[u, v]) w) : bodyPost Try.prog fn (DrawRp S w0) .ret a w := ⟨hd, _, hr, u, v, xs, ys, rfl, hu, hv, hR⟩
set_option maxHeartbeats 4000000 in
theorem l11DrawReport_any {B : Nat} (S : Nat) (n : Int) (w : World) (hs : Src B S w) : Calls Try.prog 60 #[.pointer (some ⟨S, 0, none⟩), .int .i64 n] w (DrawRp S w) := by
  obtain ⟨i0, hi, hz0, hz1, hz2⟩ := info_parts infoI10
  have hS := hs.lt
  have HS := Lib.hid hs; clear hs
  go_enter Try.func60, Try.ntmps60
  go_wp2_with fail
  obtain ⟨W2, hW2⟩ : ∃ W2, W2 = (w.alloc (.cells #[.slice none 0 0, .slice none 0 0] 26)).alloc (.cells #[.slice none 0 0, .slice none 0 0] 26) := ⟨_, rfl⟩
  have hZ2 : W2.heap.size = w.heap.size + 2 := by rw [hW2]; simp
  have K0 : Blk W2 w.heap.size #[.slice none 0 0, .slice none 0 0] 26 := by rw [hW2]; exact (Blk.alloc_at rfl).alloc _
  have K1 : Blk W2 (w.heap.size + 1) #[.slice none 0 0, .slice none 0 0] 26 := by rw [hW2]; exact Blk.alloc_at (by simp)
  have n2 : Dr S w W2 := by rw [hW2]; exact (by repeat (first | with_reducible refine Dr.setCell ?_ (by first | (simp; done) | (simp; omega) | omega) _ | with_reducible refine Dr.alloc ?_ _ | with_reducible exact Dr.refl _ _ | with_reducible assumption | with_reducible refine Dr.trans ?_ (by with_reducible assumption) | with_reducible refine Dr.trans ?_ (Dr.of_new (by with_reducible assumption)) | with_reducible refine Dr.drewN ?_ _ | with_reducible refine Dr.drew ?_))
  have own0 : ((W2.alloc (.cells #[] 2)).alloc (.cells #[] 2)).ownsRow (w.heap.size + 2) 2 1 (.slice (some ⟨w.heap.size + 1 + 1, 0, none⟩) 0 0) 0 [] := World.ownsRow.alloc (by rw [show w.heap.size + 1 + 1 = W2.heap.size by omega]; exact own_empty (by omega)) _
  have own1 : ((W2.alloc (.cells #[] 2)).alloc (.cells #[] 2)).ownsRow (w.heap.size + 2) 2 1 (.slice (some ⟨w.heap.size + 1 + 1 + 1, 0, none⟩) 0 0) 0 [] := by rw [show w.heap.size + 1 + 1 + 1 = (W2.alloc (.cells #[] 2)).heap.size by simp; omega]; exact own_empty (by simp; omega)
  rw [← hW2]
  clear hW2
  go_loopw [6, 7, 8] (fun o p i wr => ∃ (xs ys : List Int) (k : Nat), i = .int .i64 k ∧ k ≤ 9 ∧ xs.length = k ∧ ys.length = k ∧ Sep o p ∧ wr.ownsRow (w.heap.size + 2) 2 1 o xs.length (xs.map (Value.int .i64)) ∧ wr.ownsRow (w.heap.size + 2) 2 1 p ys.length (ys.map (Value.int .i64)) ∧ Dr S W2 wr) (fun _ _ i _ => 9 - (intOf i).toNat)
  case atStart => exact ⟨[], [], 0, rfl, by omega, rfl, rfl, (fun k h1 h2 => by simp [Value.ownBlock] at h1 h2; omega), own0, own1, (by repeat (first | with_reducible refine Dr.setCell ?_ (by first | (simp; done) | (simp; omega) | omega) _ | with_reducible refine Dr.alloc ?_ _ | with_reducible exact Dr.refl _ _ | with_reducible assumption | with_reducible refine Dr.trans ?_ (by with_reducible assumption) | with_reducible refine Dr.trans ?_ (Dr.of_new (by with_reducible assumption)) | with_reducible refine Dr.drewN ?_ _ | with_reducible refine Dr.drew ?_))⟩
  case round =>
    obtain ⟨xs, ys, k, rfl, hk, hx, hy, hsep, hown, hown2, hb⟩ := hrel
    clear own0 own1
    have hbz := hb.size
    have sep1 := own_block_lt hown
    have hlt : (k : Int) < (if 9 < n then 9 else n) ∨ ¬ (k : Int) < (if 9 < n then 9 else n) := Decidable.em _
    by_cases h9 : 9 < n
    all_goals
      first | rw [if_pos h9] at hlt | rw [if_neg h9] at hlt
      rcases hlt with hlt | hlt
      · have hk9 : k < 9 := by omega
        have own1 := Lib.hid hown
        have own2 := Lib.hid hown2
        clear hown hown2 sep1
        go_wp2_with fail
        refine (l01Next_n S _ _ (Dr.src ?hs2 HS.out)).mono ?_
        case hs2 => exact (by repeat (first | with_reducible refine Dr.setCell ?_ (by first | (simp; done) | (simp; omega) | omega) _ | with_reducible refine Dr.alloc ?_ _ | with_reducible exact Dr.refl _ _ | with_reducible assumption | with_reducible refine Dr.trans ?_ (by with_reducible assumption) | with_reducible refine Dr.trans ?_ (Dr.of_new (by with_reducible assumption)) | with_reducible refine Dr.drewN ?_ _ | with_reducible refine Dr.drew ?_))
        rintro e w1 ⟨r1, rfl, b1⟩
        have own3 := Lib.hid (own_dr own1.out b1 (by omega)); have own4 := Lib.hid (own_dr own2.out b1 (by omega))
        have z1 := b1.size
        try simp only [World.size_alloc, World.size_drew, World.heap_drewN, World.size_setCell] at z1
        have y1 : S < w1.heap.size := by omega
        go_wp2_with (first | (at_builtin; refine wpList_append_at _ rfl _ _ 24 rfl (w.heap.size + 2) 2 i0 (.int .i64 0) 1 8 Try.underlying24 hi hz0 hz1 hz2 rfl (by decide) _ _ _ rfl (own3.out.alloc _) ⟨w1.heap.size, 0, none⟩ 1 1 [.int .i64 (r1)] rfl rfl (by intro j u hj; match j, hj with  |  0, hj => simp at hj; subst hj; first  |  (simp [Addr.add]; done)  |  exact alloc_one rfl) (by intro u hu; simp at hu; subst hu; rfl) (by decide) (by unfold maxLen; omega) (by omega) (by first  |  (simp; done)  |  (simp; omega)  |  omega) ?_; intro va wa howna hgra hva))
        have ba : Dr S W2 wa := Dr.grown (show Dr S W2 _ from by exact (by repeat (first | with_reducible refine Dr.setCell ?_ (by first | (simp; done) | (simp; omega) | omega) _ | with_reducible refine Dr.alloc ?_ _ | with_reducible exact Dr.refl _ _ | with_reducible assumption | with_reducible refine Dr.trans ?_ (by with_reducible assumption) | with_reducible refine Dr.trans ?_ (Dr.of_new (by with_reducible assumption)) | with_reducible refine Dr.drewN ?_ _ | with_reducible refine Dr.drew ?_))) hgra (fun q hq => by have := (own_block_lt own3.out q hq).1; omega)
        have sepa : Sep va _ := hsep.grown hva (fun q hq => by have := (own_block_lt own4.out q hq).2; simp; omega)
        have own5 := Lib.hid (own_sep (own4.out.alloc (.cells #[.int .i64 r1] 2)) hgra hsep)
        have own6 := Lib.hid howna
        have zza := ba.size
        clear howna hgra hva own3 own4 own1 own2 hsep b1
        refine (l01Next_n S _ _ (Dr.src ?hs3 HS.out)).mono ?_
        case hs3 => exact (by repeat (first | with_reducible refine Dr.setCell ?_ (by first | (simp; done) | (simp; omega) | omega) _ | with_reducible refine Dr.alloc ?_ _ | with_reducible exact Dr.refl _ _ | with_reducible assumption | with_reducible refine Dr.trans ?_ (by with_reducible assumption) | with_reducible refine Dr.trans ?_ (Dr.of_new (by with_reducible assumption)) | with_reducible refine Dr.drewN ?_ _ | with_reducible refine Dr.drew ?_))
        rintro e w2 ⟨r2, rfl, b2⟩
        have own7 := Lib.hid (own_dr own5.out b2 (by omega)); have own8 := Lib.hid (own_dr own6.out b2 (by omega))
        have z2 := b2.size
        try simp only [World.size_alloc, World.size_drew, World.heap_drewN, World.size_setCell] at z2
        try clear c1_0 f1_0 K1_0
        try clear c1_1 f1_1 K1_1
        try clear c1_2 f1_2 K1_2
        try clear c1_3 f1_3 K1_3
        try clear c1_4 f1_4 K1_4
        try clear c1_5 f1_5 K1_5
        have y2 : S < w2.heap.size := by omega
        go_wp2_with (first | (at_builtin; refine wpList_append_at _ rfl _ _ 24 rfl (w.heap.size + 2) 2 i0 (.int .i64 0) 1 8 Try.underlying24 hi hz0 hz1 hz2 rfl (by decide) _ _ _ rfl (own7.out.alloc _) ⟨w2.heap.size, 0, none⟩ 1 1 [.int .i64 (r2)] rfl rfl (by intro j u hj; match j, hj with  |  0, hj => simp at hj; subst hj; first  |  (simp [Addr.add]; done)  |  exact alloc_one rfl) (by intro u hu; simp at hu; subst hu; rfl) (by decide) (by unfold maxLen; omega) (by omega) (by first  |  (simp; done)  |  (simp; omega)  |  omega) ?_; intro vb wb hownb hgrb hvb))
        have bb : Dr S W2 wb := Dr.grown (show Dr S W2 _ from by exact (by repeat (first | with_reducible refine Dr.setCell ?_ (by first | (simp; done) | (simp; omega) | omega) _ | with_reducible refine Dr.alloc ?_ _ | with_reducible exact Dr.refl _ _ | with_reducible assumption | with_reducible refine Dr.trans ?_ (by with_reducible assumption) | with_reducible refine Dr.trans ?_ (Dr.of_new (by with_reducible assumption)) | with_reducible refine Dr.drewN ?_ _ | with_reducible refine Dr.drew ?_))) hgrb (fun q hq => by have := (own_block_lt own7.out q hq).1; omega)
        have sepb : Sep va vb := (Sep.grown sepa.symm hvb (fun q hq => by have := (own_block_lt own8.out q hq).2; simp; omega)).symm
        have own9 := Lib.hid (own_sep (own8.out.alloc (.cells #[.int .i64 r2] 2)) hgrb sepa.symm)
        have own10 := Lib.hid hownb
        clear hownb hgrb hvb own5 own6 own7 own8 sepa b2 ba
        go_roundw
        case rel => exact ⟨xs ++ [r1], ys ++ [r2], k + 1, by go_num, by omega, by simp; omega, by simp; omega, sepb, by simpa using own9.out, by simpa using own10.out, bb⟩
        case measure => simp [intOf]; omega
      · have own1 := Lib.hid hown
        have own2 := Lib.hid hown2
        clear hown hown2 sep1
        have K0r := K0.dr hb (by omega)
        have K1r := K1.dr hb (by omega)
        go_wp2_with fail
        refine (l01Next_n S _ _ (Dr.src ?hs4 HS.out)).mono ?_
        case hs4 => exact (by repeat (first | with_reducible refine Dr.setCell ?_ (by first | (simp; done) | (simp; omega) | omega) _ | with_reducible refine Dr.alloc ?_ _ | with_reducible exact Dr.refl _ _ | with_reducible assumption | with_reducible refine Dr.trans ?_ (by with_reducible assumption) | with_reducible refine Dr.trans ?_ (Dr.of_new (by with_reducible assumption)) | with_reducible refine Dr.drewN ?_ _ | with_reducible refine Dr.drew ?_))
        rintro e w1 ⟨r1, rfl, b1⟩
        have own3 := Lib.hid (own_dr own1.out b1 (by omega)); have own4 := Lib.hid (own_dr own2.out b1 (by omega))
        have z1 := b1.size
        try simp only [World.size_alloc, World.size_drew, World.heap_drewN, World.size_setCell] at z1
        have y1 : S < w1.heap.size := by omega
        have K0s := K0r.dr b1 (by omega)
        have K1s := K1r.dr b1 (by omega)
        clear own1 own2
        rcases (by omega : r1 = 0 ∨ r1 = 1 ∨ (r1 ≠ 0 ∧ r1 ≠ 1)) with rfl | rfl | ⟨hn0, hn1⟩
        · obtain ⟨pa, pc, rfl⟩ := own_slice own4.out
          go_wp2_with (first | (at_builtin; refine wpList_append_at _ rfl _ _ 24 rfl (w.heap.size + 2) 2 i0 (.int .i64 0) 1 8 Try.underlying24 hi hz0 hz1 hz2 rfl (by decide) _ _ _ rfl (own3.out.alloc _) ⟨w1.heap.size, 0, none⟩ 1 1 [.int .i64 (0)] rfl rfl (by intro j u hj; match j, hj with  |  0, hj => simp at hj; subst hj; first  |  (simp [Addr.add]; done)  |  exact alloc_one rfl) (by intro u hu; simp at hu; subst hu; rfl) (by decide) (by unfold maxLen; omega) (by omega) (by first  |  (simp; done)  |  (simp; omega)  |  omega) ?_; intro va wa howna hgra hva; have ba : Dr S W2 wa := Dr.grown (show Dr S W2 _ from by exact (by repeat (first | with_reducible refine Dr.setCell ?_ (by first | (simp; done) | (simp; omega) | omega) _ | with_reducible refine Dr.alloc ?_ _ | with_reducible exact Dr.refl _ _ | with_reducible assumption | with_reducible refine Dr.trans ?_ (by with_reducible assumption) | with_reducible refine Dr.trans ?_ (Dr.of_new (by with_reducible assumption)) | with_reducible refine Dr.drewN ?_ _ | with_reducible refine Dr.drew ?_))) hgra (fun q hq => by have := (own_block_lt own3.out q hq).1; omega); have own5 := Lib.hid (own_sep (own4.out.alloc (.cells #[.int .i64 0] 2)) hgra hsep); obtain ⟨va1, va2, rfl⟩ := own_slice howna; have K0a : Blk wa w.heap.size #[.slice none 0 0, .slice none 0 0] 26 := (K0s.alloc _).grown hgra (fun he => by have := (own_block_lt own3.out _ he.symm).1; omega); have K1a : Blk wa (w.heap.size + 1) #[.slice none 0 0, .slice none 0 0] 26 := (K1s.alloc _).grown hgra (fun he => by have := (own_block_lt own3.out _ he.symm).1; omega); obtain ⟨ck0, fk0⟩ := K0a.rules; obtain ⟨ck1, fk1⟩ := K1a.rules; replace howna := Lib.hid howna; have hza := ba.size; have hzz : w.heap.size < wa.heap.size := (by omega); clear hgra hva own3 own4 K0s K1s K0r K1r))
          apply ret_rp (xs := xs ++ [0]) (ys := ys) rfl (by repeat (first | with_reducible refine Dr.setCell ?_ (by first | (simp; done) | (simp; omega) | omega) _ | with_reducible refine Dr.alloc ?_ _ | with_reducible exact Dr.refl _ _ | with_reducible assumption | with_reducible refine Dr.trans ?_ (by with_reducible assumption) | with_reducible refine Dr.trans ?_ (Dr.of_new (by with_reducible assumption)) | with_reducible refine Dr.drewN ?_ _ | with_reducible refine Dr.drew ?_)) (RdM2.mono (own_rdM2 (base := w.heap.size + 2) (by (repeat (first | with_reducible exact (by simpa using howna.out : wa.ownsRow (w.heap.size + 2) 2 1 (.slice va1 (xs.length + 1) va2) (xs ++ [0]).length ((xs ++ [0]).map (Value.int .i64))) | with_reducible apply ownsRow_setCell_below)); all_goals (first | (simp; done) | (simp; omega) | omega))) (by omega)) (RdM2.mono (own_rdM2 (base := w.heap.size + 2) (by (repeat (first | with_reducible exact own5.out | with_reducible apply ownsRow_setCell_below)); all_goals (first | (simp; done) | (simp; omega) | omega))) (by omega))
          simp [results, Try.results60, go_sem, ck0, ck1]
          all_goals omega
        · obtain ⟨oa, oc, rfl⟩ := own_slice own3.out
          obtain ⟨pa, pc, rfl⟩ := own_slice own4.out
          by_cases hk0 : 0 < ys.length
          · have hk1 : decide ((0 : Int) < (ys.length : Int)) = true := decide_eq_true (by omega)
            obtain ⟨g, rfl⟩ : ∃ g, pa = some ⟨g, 0, none⟩ := by
              rcases own4.out.2 with ⟨h, h'⟩ | ⟨g, cap, cur, h, _⟩
              · omega
              · cases h; exact ⟨g, rfl⟩
            have hg := own_block_lt own4.out g rfl
            have hne : g ≠ w.heap.size := by omega
            have hne' : ¬ w.heap.size = g := by omega
            have hne2 : g ≠ w.heap.size + 1 := by omega
            have hne2' : ¬ w.heap.size + 1 = g := by omega
            go_wp2_with fail
            refine (l01PickL_n S [_, _] _ _ (Dr.src ?hs5 HS.out)).mono ?_
            case hs5 => exact (by repeat (first | with_reducible refine Dr.setCell ?_ (by first | (simp; done) | (simp; omega) | omega) _ | with_reducible refine Dr.alloc ?_ _ | with_reducible exact Dr.refl _ _ | with_reducible assumption | with_reducible refine Dr.trans ?_ (by with_reducible assumption) | with_reducible refine Dr.trans ?_ (Dr.of_new (by with_reducible assumption)) | with_reducible refine Dr.drewN ?_ _ | with_reducible refine Dr.drew ?_))
            rintro e w2 ⟨r2, rfl, b2⟩
            have z2 := b2.size
            try simp only [World.size_alloc, World.size_drew, World.heap_drewN, World.size_setCell] at z2
            have z2_0 : w.heap.size < w2.heap.size := by omega
            apply Blk.use (w := w2) (b := w.heap.size)
            · repeat (first | with_reducible assumption | with_reducible exact Blk.alloc_at (by first | rfl | (simp; done) | (simp; omega)) | with_reducible apply Blk.alloc | with_reducible apply Blk.drew | with_reducible apply Blk.drewN | with_reducible apply Blk.set | ((with_reducible apply Blk.set_ne); rotate_left; (focus omega)) | ((with_reducible apply Blk.dr); rotate_left; (focus (with_reducible assumption)); (focus omega)) | ((with_reducible apply Blk.new); rotate_left; (focus (with_reducible assumption))))
            intro K2_0
            try simp only [List.setIfInBounds_toArray, List.set_cons_succ, List.set_cons_zero] at K2_0
            obtain ⟨c2_0, f2_0⟩ := K2_0.rules
            try clear c1_0 f1_0 K1_0
            try clear c1_1 f1_1 K1_1
            try clear c1_2 f1_2 K1_2
            try clear c1_3 f1_3 K1_3
            try clear c1_4 f1_4 K1_4
            try clear c1_5 f1_5 K1_5
            have y2 : S < w2.heap.size := by omega
            have own5 := own_dr (own4.out.alloc (.cells #[.int .i64 (-1), .int .i64 2] 2)) b2 (by omega)
            have own6 := own_dr (own3.out.alloc (.cells #[.int .i64 (-1), .int .i64 2] 2)) b2 (by omega)
            have hc5 : w2.cell? ⟨g, 0, none⟩ = some (.int .i64 (ys[0]'(by omega))) := by rw [own5.cellAt 0 (by omega)]; simp
            have hf5 := own5.frozenAt 0
            have hst := own5.stored 0 (.int .i64 r2)
            have own7 := Lib.hid (own_sep own6 hst.2 hsep.symm)
            have e5 : (ys.map (Value.int .i64)).set 0 (.int .i64 r2) = (ys.set 0 r2).map (Value.int .i64) := by rw [List.map_set]
            have hst2 : (w2.setCell ⟨g, 0, none⟩ (.int .i64 r2)).ownsRow (w.heap.size + 2) 2 1 (.slice (some ⟨g, 0, none⟩) ys.length pc) (ys.set 0 r2).length ((ys.set 0 r2).map (Value.int .i64)) := by
              have h := hst.1
              rw [e5] at h
              rw [List.length_set]; exact h
            replace hst2 := Lib.hid hst2
            have K0a : Blk w2 w.heap.size #[.slice none 0 0, .slice none 0 0] 26 := (K0s.alloc _).dr b2 (by omega)
            have K1a : Blk w2 (w.heap.size + 1) #[.slice none 0 0, .slice none 0 0] 26 := (K1s.alloc _).dr b2 (by omega)
            obtain ⟨ck0, fk0⟩ := K0a.rules
            obtain ⟨ck1, fk1⟩ := K1a.rules
            clear e5 hst own5 own6 own3 own4
            go_wp2_with fail
            apply ret_rp (xs := xs) (ys := ys.set 0 r2) rfl (by repeat (first | with_reducible refine Dr.setCell ?_ (by first | (simp; done) | (simp; omega) | omega) _ | with_reducible refine Dr.alloc ?_ _ | with_reducible exact Dr.refl _ _ | with_reducible assumption | with_reducible refine Dr.trans ?_ (by with_reducible assumption) | with_reducible refine Dr.trans ?_ (Dr.of_new (by with_reducible assumption)) | with_reducible refine Dr.drewN ?_ _ | with_reducible refine Dr.drew ?_)) (RdM2.mono (own_rdM2 (base := w.heap.size + 2) (by (repeat (first | with_reducible exact own7.out | with_reducible apply ownsRow_setCell_below)); all_goals (first | (simp; done) | (simp; omega) | omega))) (by omega)) (RdM2.mono (own_rdM2 (base := w.heap.size + 2) (by (repeat (first | with_reducible exact hst2.out | with_reducible apply ownsRow_setCell_below)); all_goals (first | (simp; done) | (simp; omega) | omega))) (by omega))
            simp [results, Try.results60, go_sem, ck0, ck1, hne, hne', hne2, hne2']
            all_goals omega
          · have hk1 : decide ((0 : Int) < (ys.length : Int)) = false := decide_eq_false (by omega)
            obtain ⟨ck0, fk0⟩ := K0s.rules
            obtain ⟨ck1, fk1⟩ := K1s.rules
            go_wp2_with fail
            all_goals
              apply ret_rp (xs := xs) (ys := ys) rfl (by repeat (first | with_reducible refine Dr.setCell ?_ (by first | (simp; done) | (simp; omega) | omega) _ | with_reducible refine Dr.alloc ?_ _ | with_reducible exact Dr.refl _ _ | with_reducible assumption | with_reducible refine Dr.trans ?_ (by with_reducible assumption) | with_reducible refine Dr.trans ?_ (Dr.of_new (by with_reducible assumption)) | with_reducible refine Dr.drewN ?_ _ | with_reducible refine Dr.drew ?_)) (RdM2.mono (own_rdM2 (base := w.heap.size + 2) (by (repeat (first | with_reducible exact own3.out | with_reducible apply ownsRow_setCell_below)); all_goals (first | (simp; done) | (simp; omega) | omega))) (by omega)) (RdM2.mono (own_rdM2 (base := w.heap.size + 2) (by (repeat (first | with_reducible exact own4.out | with_reducible apply ownsRow_setCell_below)); all_goals (first | (simp; done) | (simp; omega) | omega))) (by omega))
              simp [results, Try.results60, go_sem, ck0, ck1]
              all_goals omega
        · have hb0 : (r1 == 0) = false := by simpa using hn0
          have hb1 : (r1 == 1) = false := by simpa using hn1
          obtain ⟨oa, oc, rfl⟩ := own_slice own3.out
          obtain ⟨pa, pc, rfl⟩ := own_slice own4.out
          obtain ⟨ck0, fk0⟩ := K0s.rules
          obtain ⟨ck1, fk1⟩ := K1s.rules
          go_wp2_with fail
          apply ret_rp (xs := xs) (ys := ys) rfl (by repeat (first | with_reducible refine Dr.setCell ?_ (by first | (simp; done) | (simp; omega) | omega) _ | with_reducible refine Dr.alloc ?_ _ | with_reducible exact Dr.refl _ _ | with_reducible assumption | with_reducible refine Dr.trans ?_ (by with_reducible assumption) | with_reducible refine Dr.trans ?_ (Dr.of_new (by with_reducible assumption)) | with_reducible refine Dr.drewN ?_ _ | with_reducible refine Dr.drew ?_)) (RdM2.mono (own_rdM2 (base := w.heap.size + 2) (by (repeat (first | with_reducible exact own3.out | with_reducible apply ownsRow_setCell_below)); all_goals (first | (simp; done) | (simp; omega) | omega))) (by omega)) (RdM2.mono (own_rdM2 (base := w.heap.size + 2) (by (repeat (first | with_reducible exact own4.out | with_reducible apply ownsRow_setCell_below)); all_goals (first | (simp; done) | (simp; omega) | omega))) (by omega))
          simp [results, Try.results60, go_sem, ck0, ck1]
          all_goals omega
/-- A store below it. -/
theorem RdM2.set {M : Nat} {w : World} {v : Value} {n : Nat} {cs : List Value} (h : RdM2 M w v n cs) {b o : Nat} (hb : b < M) (u : Value) : RdM2 M (w.setCell ⟨b, o, none⟩ u) v n cs := by
  refine h.kept (by simp) (fun k h1 h2 => ?_)
  exact Below.heap_setCell _ _ _ _ (by show k ≠ b; omega)
def DrawCB (w : World) (e : Ending) (w' : World) : Prop := ∃ (n : Int) (u v : Value) (xs ys : List Int), e = .returned (.tuple #[.int .i64 n, .agg #[u, v]]) ∧ RdI w' u xs ∧ RdI w' v ys ∧ New w w'
set_option maxHeartbeats 4000000 in
theorem drawClearBlocks_any (v : Value) (bs : List Int) (w : World) (hv : Rd w v bs.length (bs.map (Value.int .u8))) (hl : bs.length ≤ 4096) (hb : ∀ c ∈ bs, 0 ≤ c ∧ c ≤ 255) :
    Calls Try.prog 12 #[v] w (DrawCB w) := by
  have HV := Lib.hid hv
  have HB := Lib.hid hb
  clear hv hb
  go_enter Try.func12, Try.ntmps12
  go_wp2_with fail
  refine (l01From_any w.heap.size v bs _ (rdB_new HV.out (by repeat (first | with_reducible exact New.refl _ | with_reducible assumption | with_reducible refine New.drew ?_ | with_reducible refine New.drewN ?_ _ | with_reducible refine New.alloc ?_ _ | with_reducible refine New.setCell ?_ (by first | (simp; done) | (simp; omega) | omega) _ | with_reducible refine New.trans ?_ (by with_reducible assumption)))) (by first | (simp; done) | (simp; omega)) hl HB.out).mono ?_
  rintro e w1 ⟨S, rfl, hS0, n1, hs⟩
  have b1 := Dr.of_new (S := S) n1; have hS := hs.lt; replace hs := Lib.hid hs; simp only [World.size_alloc] at hS0
  have z1 := b1.size
  try simp only [World.size_alloc, World.size_drew, World.heap_drewN, World.size_setCell] at z1
  have z1_0 : w.heap.size < w1.heap.size := by omega
  apply Blk.use (w := w1) (b := w.heap.size)
  · repeat (first | with_reducible assumption | with_reducible exact Blk.alloc_at (by first | rfl | (simp; done) | (simp; omega)) | with_reducible apply Blk.alloc | with_reducible apply Blk.drew | with_reducible apply Blk.drewN | with_reducible apply Blk.set | ((with_reducible apply Blk.set_ne); rotate_left; (focus omega)) | ((with_reducible apply Blk.dr); rotate_left; (focus (with_reducible assumption)); (focus omega)) | ((with_reducible apply Blk.new); rotate_left; (focus (with_reducible assumption))))
  intro K1_0
  try simp only [List.setIfInBounds_toArray, List.set_cons_succ, List.set_cons_zero] at K1_0
  obtain ⟨c1_0, f1_0⟩ := K1_0.rules
  have y1 : S < w1.heap.size := by omega
  go_wp2_with fail
  refine (l01Next_any S _ _ (Dr.src ?hs6 hs.out)).mono ?_
  case hs6 => exact (by repeat (first | with_reducible refine Dr.setCell ?_ (by first | (simp; done) | (simp; omega) | omega) _ | with_reducible refine Dr.alloc ?_ _ | with_reducible exact Dr.refl _ _ | with_reducible assumption | with_reducible refine Dr.trans ?_ (by with_reducible assumption) | with_reducible refine Dr.trans ?_ (Dr.of_new (by with_reducible assumption)) | with_reducible refine Dr.drewN ?_ _ | with_reducible refine Dr.drew ?_))
  rintro e w2 ⟨r2, rfl, p2, q2, b2⟩
  have z2 := b2.size
  try simp only [World.size_alloc, World.size_drew, World.heap_drewN, World.size_setCell] at z2
  have z2_0 : w.heap.size < w2.heap.size := by omega
  apply Blk.use (w := w2) (b := w.heap.size)
  · repeat (first | with_reducible assumption | with_reducible exact Blk.alloc_at (by first | rfl | (simp; done) | (simp; omega)) | with_reducible apply Blk.alloc | with_reducible apply Blk.drew | with_reducible apply Blk.drewN | with_reducible apply Blk.set | ((with_reducible apply Blk.set_ne); rotate_left; (focus omega)) | ((with_reducible apply Blk.dr); rotate_left; (focus (with_reducible assumption)); (focus omega)) | ((with_reducible apply Blk.new); rotate_left; (focus (with_reducible assumption))))
  intro K2_0
  try simp only [List.setIfInBounds_toArray, List.set_cons_succ, List.set_cons_zero] at K2_0
  obtain ⟨c2_0, f2_0⟩ := K2_0.rules
  try clear c1_0 f1_0 K1_0
  try clear c1_1 f1_1 K1_1
  try clear c1_2 f1_2 K1_2
  try clear c1_3 f1_3 K1_3
  try clear c1_4 f1_4 K1_4
  try clear c1_5 f1_5 K1_5
  have y2 : S < w2.heap.size := by omega
  go_wp2_with fail
  refine (l01Next_any S _ _ (Dr.src ?hs7 hs.out)).mono ?_
  case hs7 => exact (by repeat (first | with_reducible refine Dr.setCell ?_ (by first | (simp; done) | (simp; omega) | omega) _ | with_reducible refine Dr.alloc ?_ _ | with_reducible exact Dr.refl _ _ | with_reducible assumption | with_reducible refine Dr.trans ?_ (by with_reducible assumption) | with_reducible refine Dr.trans ?_ (Dr.of_new (by with_reducible assumption)) | with_reducible refine Dr.drewN ?_ _ | with_reducible refine Dr.drew ?_))
  rintro e w3 ⟨r3, rfl, p3, q3, b3⟩
  have z3 := b3.size
  try simp only [World.size_alloc, World.size_drew, World.heap_drewN, World.size_setCell] at z3
  have z3_0 : w.heap.size < w3.heap.size := by omega
  apply Blk.use (w := w3) (b := w.heap.size)
  · repeat (first | with_reducible assumption | with_reducible exact Blk.alloc_at (by first | rfl | (simp; done) | (simp; omega)) | with_reducible apply Blk.alloc | with_reducible apply Blk.drew | with_reducible apply Blk.drewN | with_reducible apply Blk.set | ((with_reducible apply Blk.set_ne); rotate_left; (focus omega)) | ((with_reducible apply Blk.dr); rotate_left; (focus (with_reducible assumption)); (focus omega)) | ((with_reducible apply Blk.new); rotate_left; (focus (with_reducible assumption))))
  intro K3_0
  try simp only [List.setIfInBounds_toArray, List.set_cons_succ, List.set_cons_zero] at K3_0
  obtain ⟨c3_0, f3_0⟩ := K3_0.rules
  try clear c2_0 f2_0 K2_0
  try clear c2_1 f2_1 K2_1
  try clear c2_2 f2_2 K2_2
  try clear c2_3 f2_3 K2_3
  try clear c2_4 f2_4 K2_4
  try clear c2_5 f2_5 K2_5
  try clear c1_0 f1_0 K1_0
  try clear c1_1 f1_1 K1_1
  try clear c1_2 f1_2 K1_2
  try clear c1_3 f1_3 K1_3
  try clear c1_4 f1_4 K1_4
  try clear c1_5 f1_5 K1_5
  have y3 : S < w3.heap.size := by omega
  go_wp2_with fail
  refine (l01PickL_n S [1, 8, 9, -5] _ _ (Dr.src ?hs8 hs.out)).mono ?_
  case hs8 => exact (by repeat (first | with_reducible refine Dr.setCell ?_ (by first | (simp; done) | (simp; omega) | omega) _ | with_reducible refine Dr.alloc ?_ _ | with_reducible exact Dr.refl _ _ | with_reducible assumption | with_reducible refine Dr.trans ?_ (by with_reducible assumption) | with_reducible refine Dr.trans ?_ (Dr.of_new (by with_reducible assumption)) | with_reducible refine Dr.drewN ?_ _ | with_reducible refine Dr.drew ?_))
  rintro e w4 ⟨r4, rfl, b4⟩
  have z4 := b4.size
  try simp only [World.size_alloc, World.size_drew, World.heap_drewN, World.size_setCell] at z4
  have z4_0 : w.heap.size < w4.heap.size := by omega
  apply Blk.use (w := w4) (b := w.heap.size)
  · repeat (first | with_reducible assumption | with_reducible exact Blk.alloc_at (by first | rfl | (simp; done) | (simp; omega)) | with_reducible apply Blk.alloc | with_reducible apply Blk.drew | with_reducible apply Blk.drewN | with_reducible apply Blk.set | ((with_reducible apply Blk.set_ne); rotate_left; (focus omega)) | ((with_reducible apply Blk.dr); rotate_left; (focus (with_reducible assumption)); (focus omega)) | ((with_reducible apply Blk.new); rotate_left; (focus (with_reducible assumption))))
  intro K4_0
  try simp only [List.setIfInBounds_toArray, List.set_cons_succ, List.set_cons_zero] at K4_0
  obtain ⟨c4_0, f4_0⟩ := K4_0.rules
  try clear c3_0 f3_0 K3_0
  try clear c3_1 f3_1 K3_1
  try clear c3_2 f3_2 K3_2
  try clear c3_3 f3_3 K3_3
  try clear c3_4 f3_4 K3_4
  try clear c3_5 f3_5 K3_5
  try clear c2_0 f2_0 K2_0
  try clear c2_1 f2_1 K2_1
  try clear c2_2 f2_2 K2_2
  try clear c2_3 f2_3 K2_3
  try clear c2_4 f2_4 K2_4
  try clear c2_5 f2_5 K2_5
  try clear c1_0 f1_0 K1_0
  try clear c1_1 f1_1 K1_1
  try clear c1_2 f1_2 K1_2
  try clear c1_3 f1_3 K1_3
  try clear c1_4 f1_4 K1_4
  try clear c1_5 f1_5 K1_5
  have y4 : S < w4.heap.size := by omega
  go_wp2_with fail
  refine (l01PickL_n S [_, _, 3, r4] _ _ (Dr.src ?hs9 hs.out)).mono ?_
  case hs9 => exact (by repeat (first | with_reducible refine Dr.setCell ?_ (by first | (simp; done) | (simp; omega) | omega) _ | with_reducible refine Dr.alloc ?_ _ | with_reducible exact Dr.refl _ _ | with_reducible assumption | with_reducible refine Dr.trans ?_ (by with_reducible assumption) | with_reducible refine Dr.trans ?_ (Dr.of_new (by with_reducible assumption)) | with_reducible refine Dr.drewN ?_ _ | with_reducible refine Dr.drew ?_))
  rintro e w5 ⟨r5, rfl, b5⟩
  have z5 := b5.size
  try simp only [World.size_alloc, World.size_drew, World.heap_drewN, World.size_setCell] at z5
  have z5_0 : w.heap.size < w5.heap.size := by omega
  apply Blk.use (w := w5) (b := w.heap.size)
  · repeat (first | with_reducible assumption | with_reducible exact Blk.alloc_at (by first | rfl | (simp; done) | (simp; omega)) | with_reducible apply Blk.alloc | with_reducible apply Blk.drew | with_reducible apply Blk.drewN | with_reducible apply Blk.set | ((with_reducible apply Blk.set_ne); rotate_left; (focus omega)) | ((with_reducible apply Blk.dr); rotate_left; (focus (with_reducible assumption)); (focus omega)) | ((with_reducible apply Blk.new); rotate_left; (focus (with_reducible assumption))))
  intro K5_0
  try simp only [List.setIfInBounds_toArray, List.set_cons_succ, List.set_cons_zero] at K5_0
  obtain ⟨c5_0, f5_0⟩ := K5_0.rules
  try clear c4_0 f4_0 K4_0
  try clear c4_1 f4_1 K4_1
  try clear c4_2 f4_2 K4_2
  try clear c4_3 f4_3 K4_3
  try clear c4_4 f4_4 K4_4
  try clear c4_5 f4_5 K4_5
  try clear c3_0 f3_0 K3_0
  try clear c3_1 f3_1 K3_1
  try clear c3_2 f3_2 K3_2
  try clear c3_3 f3_3 K3_3
  try clear c3_4 f3_4 K3_4
  try clear c3_5 f3_5 K3_5
  try clear c2_0 f2_0 K2_0
  try clear c2_1 f2_1 K2_1
  try clear c2_2 f2_2 K2_2
  try clear c2_3 f2_3 K2_3
  try clear c2_4 f2_4 K2_4
  try clear c2_5 f2_5 K2_5
  have y5 : S < w5.heap.size := by omega
  go_wp2_with fail
  refine (l11DrawReport_any S _ _ (Dr.src ?hs10 hs.out)).mono ?_
  case hs10 => exact (by repeat (first | with_reducible refine Dr.setCell ?_ (by first | (simp; done) | (simp; omega) | omega) _ | with_reducible refine Dr.alloc ?_ _ | with_reducible exact Dr.refl _ _ | with_reducible assumption | with_reducible refine Dr.trans ?_ (by with_reducible assumption) | with_reducible refine Dr.trans ?_ (Dr.of_new (by with_reducible assumption)) | with_reducible refine Dr.drewN ?_ _ | with_reducible refine Dr.drew ?_))
  rintro e w6 ⟨u, v6, xs, ys, rfl, hu, hv6, b6⟩
  have z6 := b6.size
  try simp only [World.size_alloc, World.size_drew, World.heap_drewN, World.size_setCell] at z6
  have z6_0 : w.heap.size < w6.heap.size := by omega
  apply Blk.use (w := w6) (b := w.heap.size)
  · repeat (first | with_reducible assumption | with_reducible exact Blk.alloc_at (by first | rfl | (simp; done) | (simp; omega)) | with_reducible apply Blk.alloc | with_reducible apply Blk.drew | with_reducible apply Blk.drewN | with_reducible apply Blk.set | ((with_reducible apply Blk.set_ne); rotate_left; (focus omega)) | ((with_reducible apply Blk.dr); rotate_left; (focus (with_reducible assumption)); (focus omega)) | ((with_reducible apply Blk.new); rotate_left; (focus (with_reducible assumption))))
  intro K6_0
  try simp only [List.setIfInBounds_toArray, List.set_cons_succ, List.set_cons_zero] at K6_0
  obtain ⟨c6_0, f6_0⟩ := K6_0.rules
  try clear c5_0 f5_0 K5_0
  try clear c5_1 f5_1 K5_1
  try clear c5_2 f5_2 K5_2
  try clear c5_3 f5_3 K5_3
  try clear c5_4 f5_4 K5_4
  try clear c5_5 f5_5 K5_5
  try clear c4_0 f4_0 K4_0
  try clear c4_1 f4_1 K4_1
  try clear c4_2 f4_2 K4_2
  try clear c4_3 f4_3 K4_3
  try clear c4_4 f4_4 K4_4
  try clear c4_5 f4_5 K4_5
  try clear c3_0 f3_0 K3_0
  try clear c3_1 f3_1 K3_1
  try clear c3_2 f3_2 K3_2
  try clear c3_3 f3_3 K3_3
  try clear c3_4 f3_4 K3_4
  try clear c3_5 f3_5 K3_5
  have y6 : S < w6.heap.size := by omega
  obtain ⟨ua, uc, rfl⟩ : ∃ a c, u = .slice a xs.length c := by obtain ⟨⟨a, c, h, _⟩, _⟩ := hu; exact ⟨a, c, h⟩
  obtain ⟨va, vc, rfl⟩ : ∃ a c, v6 = .slice a ys.length c := by obtain ⟨⟨a, c, h, _⟩, _⟩ := hv6; exact ⟨a, c, h⟩
  replace hu := Lib.hid hu
  replace hv6 := Lib.hid hv6
  have n6 : New w w6 := Dr.new (S := S) (w0 := w) (w := w1) (by repeat (first | with_reducible exact New.refl _ | with_reducible assumption | with_reducible refine New.drew ?_ | with_reducible refine New.drewN ?_ _ | with_reducible refine New.alloc ?_ _ | with_reducible refine New.setCell ?_ (by first | (simp; done) | (simp; omega) | omega) _ | with_reducible refine New.trans ?_ (by with_reducible assumption))) (by repeat (first | with_reducible refine Dr.setCell ?_ (by first | (simp; done) | (simp; omega) | omega) _ | with_reducible refine Dr.alloc ?_ _ | with_reducible exact Dr.refl _ _ | with_reducible assumption | with_reducible refine Dr.trans ?_ (by with_reducible assumption) | with_reducible refine Dr.trans ?_ (Dr.of_new (by with_reducible assumption)) | with_reducible refine Dr.drewN ?_ _ | with_reducible refine Dr.drew ?_)) (by omega)
  go_wp2_with fail
  refine bodyPost_ret (v := .tuple #[.int .i64 r5, .agg #[.slice ua xs.length uc, .slice va ys.length vc]]) (by simp [results, Try.results12, go_sem, c6_0]) rfl ⟨r5, _, _, xs, ys, rfl, (RdM2.set (RdM2.set hu.out (by omega) _) (by omega) _).1, (RdM2.set (RdM2.set hv6.out (by omega) _) (by omega) _).1, ?_⟩
  exact (by repeat (first | with_reducible exact New.refl _ | with_reducible assumption | with_reducible refine New.drew ?_ | with_reducible refine New.drewN ?_ _ | with_reducible refine New.alloc ?_ _ | with_reducible refine New.setCell ?_ (by first | (simp; done) | (simp; omega) | omega) _ | with_reducible refine New.trans ?_ (by with_reducible assumption)))
end Go.Proofs.Ytinlichcbjpeaaa
